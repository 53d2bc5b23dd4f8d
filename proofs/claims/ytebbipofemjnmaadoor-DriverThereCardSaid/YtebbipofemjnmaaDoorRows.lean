/-
  NARROWER THAN 'FOR EVERY INPUT', by the rows' own cells (each row's printed sentence says how): DriverPhases: laid · DriverTraces: laid · DriverReports: laid · DriverRetraces: laid · DriverThere: laid · DriverBack: laid.
  DERIVED. THE GIVEN ROWS OF THIS SEAT. 6 by the template 'for every input the law returns true; each argument reads behind the call as it read before'; 0 by the template 'total and deterministic' (their statements: YtebbipofemjnmaaDoorTotals.lean).
  GIVEN WITH THE SEED: the statements are not yours to turn. If you find one false, say at which input.
  Laid BY PROGRAM, IN A SANDBOX (cutbox-rows.mjs): the forced cells as the released guide's own fill.sh prints them over the translation 8dd3c34437991140… (all of the seat's roots in one cut). By AI agents, Wed Nov 11 2026. No macro, syntax, notation, axiom, sorry.
-/
import Derived.Test.YtebbipofemjnmaaDoorChecked
import GoSem.Claim
import GoSem.ClaimJoined
import GoSem.ClaimMapViews
import Derived.JoinedTies
import Derived.KernelRfl
namespace Go.Proofs.YtebbipofemjnmaaDoor
/- THE CELL 'sum', in the pinned program and in every row, IS THE sha256 OF THE DUMP (.gsa) THAT YtebbipofemjnmaaDoorProg.lean LOADS. Nothing in Lean hashes anything: it is a label: what it is worth is what the hold of that sum in a sandbox is worth. -/
noncomputable def Tryd.pinned : Pinned := { name := "ytebbipofemjnmaadoor", sum := "8dd3c34437991140f0258b74306810b67503ebf421598d239b0c2fc9a729cdde", checked := Tryd.checked }
namespace Rows
def none {H : Type} : Left H := { results := [], args := [] }

/- WHAT THE LISTED PACKAGE-LEVEL VARIABLES READ AS WHEN THE CALL BEGINS. Each datum BY PROGRAM (the guide's laid-datum.mjs) off the statement by which the dump's own 'gosem.cut.vars' lays the variable. In a bare row this is a premise. The card (YtebbipofemjnmaaDoorCards.lean) ties it to the program's text. -/
def laid_junction_driver_layers {H : Type} : DataW H := .agg [.lit (.string []), .lit (.string [97, 114, 105, 116, 104]), .lit (.string [108, 101, 120]), .lit (.string [116, 114, 101, 101]), .lit (.string []), .lit (.string [99, 104, 101, 99, 107]), .lit (.string [115, 97, 102, 101, 116, 121]), .lit (.string [104, 101, 97, 100, 115]), .lit (.string [115, 105, 109]), .lit (.string []), .lit (.string [114, 111, 109]), .lit (.string [99, 111, 100, 101]), .lit (.string [108, 111, 97, 100]), .lit (.string []), .lit (.string [100, 114, 105, 118, 101, 114]), .lit (.string [119, 97, 116, 99, 104]), .lit (.string [98, 97, 110, 107]), .lit (.string [119, 105, 114, 101]), .lit (.string [116, 105, 109, 101, 116, 97, 98, 108, 101]), .lit (.string [115, 116, 97, 116, 105, 111, 110])]
def laid_math_bits_deBruijn32tab {H : Type} : DataW H := .agg [.lit (.int .u8 0), .lit (.int .u8 1), .lit (.int .u8 28), .lit (.int .u8 2), .lit (.int .u8 29), .lit (.int .u8 14), .lit (.int .u8 24), .lit (.int .u8 3), .lit (.int .u8 30), .lit (.int .u8 22), .lit (.int .u8 20), .lit (.int .u8 15), .lit (.int .u8 25), .lit (.int .u8 17), .lit (.int .u8 4), .lit (.int .u8 8), .lit (.int .u8 31), .lit (.int .u8 27), .lit (.int .u8 13), .lit (.int .u8 23), .lit (.int .u8 21), .lit (.int .u8 19), .lit (.int .u8 16), .lit (.int .u8 7), .lit (.int .u8 26), .lit (.int .u8 12), .lit (.int .u8 18), .lit (.int .u8 6), .lit (.int .u8 11), .lit (.int .u8 5), .lit (.int .u8 10), .lit (.int .u8 9)]
def laid_math_bits_deBruijn64tab {H : Type} : DataW H := .agg [.lit (.int .u8 0), .lit (.int .u8 1), .lit (.int .u8 56), .lit (.int .u8 2), .lit (.int .u8 57), .lit (.int .u8 49), .lit (.int .u8 28), .lit (.int .u8 3), .lit (.int .u8 61), .lit (.int .u8 58), .lit (.int .u8 42), .lit (.int .u8 50), .lit (.int .u8 38), .lit (.int .u8 29), .lit (.int .u8 17), .lit (.int .u8 4), .lit (.int .u8 62), .lit (.int .u8 47), .lit (.int .u8 59), .lit (.int .u8 36), .lit (.int .u8 45), .lit (.int .u8 43), .lit (.int .u8 51), .lit (.int .u8 22), .lit (.int .u8 53), .lit (.int .u8 39), .lit (.int .u8 33), .lit (.int .u8 30), .lit (.int .u8 24), .lit (.int .u8 18), .lit (.int .u8 12), .lit (.int .u8 5), .lit (.int .u8 63), .lit (.int .u8 55), .lit (.int .u8 48), .lit (.int .u8 27), .lit (.int .u8 60), .lit (.int .u8 41), .lit (.int .u8 37), .lit (.int .u8 16), .lit (.int .u8 46), .lit (.int .u8 35), .lit (.int .u8 44), .lit (.int .u8 21), .lit (.int .u8 52), .lit (.int .u8 32), .lit (.int .u8 23), .lit (.int .u8 11), .lit (.int .u8 54), .lit (.int .u8 26), .lit (.int .u8 40), .lit (.int .u8 15), .lit (.int .u8 34), .lit (.int .u8 20), .lit (.int .u8 31), .lit (.int .u8 10), .lit (.int .u8 25), .lit (.int .u8 14), .lit (.int .u8 19), .lit (.int .u8 9), .lit (.int .u8 13), .lit (.int .u8 8), .lit (.int .u8 7), .lit (.int .u8 6)]
def laid_internal_strconv_uint64pow10 {H : Type} : DataW H := .agg [.lit (.int .u64 1), .lit (.int .u64 10), .lit (.int .u64 100), .lit (.int .u64 1000), .lit (.int .u64 10000), .lit (.int .u64 100000), .lit (.int .u64 1000000), .lit (.int .u64 10000000), .lit (.int .u64 100000000), .lit (.int .u64 1000000000), .lit (.int .u64 10000000000), .lit (.int .u64 100000000000), .lit (.int .u64 1000000000000), .lit (.int .u64 10000000000000), .lit (.int .u64 100000000000000), .lit (.int .u64 1000000000000000), .lit (.int .u64 10000000000000000), .lit (.int .u64 100000000000000000), .lit (.int .u64 1000000000000000000), .lit (.int .u64 10000000000000000000)]

/-- 'junctionlaw14.DriverPhases': WHATEVER THE INPUT: true; the input reads as it did. -/
def driverPhasesSpec : ChangeSpec := { name := "driverPhases", fn := fun _ => fun
  | [d] => { results := [.lit (.bool true)], args := [d] }
  | _ => none }
def driverPhasesRow : OpenClaim := { program := "ytebbipofemjnmaadoor", sum := "8dd3c34437991140f0258b74306810b67503ebf421598d239b0c2fc9a729cdde", func := "junction/junctionlaw14.DriverPhases", spec := "driverPhases", named := ["junction/driver.layers"], apart := false, laid := [("junction/driver.layers", laid_junction_driver_layers)] }
def DriverPhasesSaid : Prop := driverPhasesRow.holds Tryd.pinned (OpenSpec.ofChange driverPhasesSpec)

/-- ITS FALSE NEIGHBOUR: 'it returns false'. Refute it at one input. -/
def driverPhasesWrong : ChangeSpec := { name := "driverPhases", fn := fun _ => fun
  | [d] => { results := [.lit (.bool false)], args := [d] }
  | _ => none }
def DriverPhasesWrongFalsely : Prop := driverPhasesRow.holds Tryd.pinned (OpenSpec.ofChange driverPhasesWrong)

/-- 'junctionlaw14.DriverTraces': WHATEVER THE INPUT: true; the input reads as it did. -/
def driverTracesSpec : ChangeSpec := { name := "driverTraces", fn := fun _ => fun
  | [d] => { results := [.lit (.bool true)], args := [d] }
  | _ => none }
def driverTracesRow : OpenClaim := { program := "ytebbipofemjnmaadoor", sum := "8dd3c34437991140f0258b74306810b67503ebf421598d239b0c2fc9a729cdde", func := "junction/junctionlaw14.DriverTraces", spec := "driverTraces", inPlace := ["internal/bytealg.IndexByteString", "internal/abi.NoEscape"], recurses := true, named := ["internal/strconv.uint64pow10", "math/bits.deBruijn32tab", "math/bits.deBruijn64tab"], apart := false, laid := [("math/bits.deBruijn32tab", laid_math_bits_deBruijn32tab), ("math/bits.deBruijn64tab", laid_math_bits_deBruijn64tab), ("internal/strconv.uint64pow10", laid_internal_strconv_uint64pow10)] }
def DriverTracesSaid : Prop := driverTracesRow.holds Tryd.pinned (OpenSpec.ofChange driverTracesSpec)

/-- ITS FALSE NEIGHBOUR: 'it returns false'. Refute it at one input. -/
def driverTracesWrong : ChangeSpec := { name := "driverTraces", fn := fun _ => fun
  | [d] => { results := [.lit (.bool false)], args := [d] }
  | _ => none }
def DriverTracesWrongFalsely : Prop := driverTracesRow.holds Tryd.pinned (OpenSpec.ofChange driverTracesWrong)

/-- 'junctionlaw14.DriverReports': WHATEVER THE INPUT: true; the input reads as it did. -/
def driverReportsSpec : ChangeSpec := { name := "driverReports", fn := fun _ => fun
  | [d] => { results := [.lit (.bool true)], args := [d] }
  | _ => none }
def driverReportsRow : OpenClaim := { program := "ytebbipofemjnmaadoor", sum := "8dd3c34437991140f0258b74306810b67503ebf421598d239b0c2fc9a729cdde", func := "junction/junctionlaw14.DriverReports", spec := "driverReports", recurses := true, named := ["internal/strconv.uint64pow10", "math/bits.deBruijn32tab", "math/bits.deBruijn64tab", "junction/driver.layers"], apart := false, laid := [("math/bits.deBruijn32tab", laid_math_bits_deBruijn32tab), ("math/bits.deBruijn64tab", laid_math_bits_deBruijn64tab), ("internal/strconv.uint64pow10", laid_internal_strconv_uint64pow10), ("junction/driver.layers", laid_junction_driver_layers)] }
def DriverReportsSaid : Prop := driverReportsRow.holds Tryd.pinned (OpenSpec.ofChange driverReportsSpec)

/-- ITS FALSE NEIGHBOUR: 'it returns false'. Refute it at one input. -/
def driverReportsWrong : ChangeSpec := { name := "driverReports", fn := fun _ => fun
  | [d] => { results := [.lit (.bool false)], args := [d] }
  | _ => none }
def DriverReportsWrongFalsely : Prop := driverReportsRow.holds Tryd.pinned (OpenSpec.ofChange driverReportsWrong)

/-- 'junctionlaw14.DriverRetraces': WHATEVER THE INPUT: true; the input reads as it did. -/
def driverRetracesSpec : ChangeSpec := { name := "driverRetraces", fn := fun _ => fun
  | [d] => { results := [.lit (.bool true)], args := [d] }
  | _ => none }
def driverRetracesRow : OpenClaim := { program := "ytebbipofemjnmaadoor", sum := "8dd3c34437991140f0258b74306810b67503ebf421598d239b0c2fc9a729cdde", func := "junction/junctionlaw14.DriverRetraces", spec := "driverRetraces", inPlace := ["internal/bytealg.IndexByteString", "internal/bytealg.IndexString", "internal/abi.NoEscape"], recurses := true, named := ["internal/bytealg.MaxLen", "internal/strconv.uint64pow10", "math/bits.deBruijn32tab", "math/bits.deBruijn64tab"], apart := false, laid := [("math/bits.deBruijn32tab", laid_math_bits_deBruijn32tab), ("math/bits.deBruijn64tab", laid_math_bits_deBruijn64tab), ("internal/strconv.uint64pow10", laid_internal_strconv_uint64pow10)] }
def DriverRetracesSaid : Prop := driverRetracesRow.holds Tryd.pinned (OpenSpec.ofChange driverRetracesSpec)

/-- ITS FALSE NEIGHBOUR: 'it returns false'. Refute it at one input. -/
def driverRetracesWrong : ChangeSpec := { name := "driverRetraces", fn := fun _ => fun
  | [d] => { results := [.lit (.bool false)], args := [d] }
  | _ => none }
def DriverRetracesWrongFalsely : Prop := driverRetracesRow.holds Tryd.pinned (OpenSpec.ofChange driverRetracesWrong)

/-- 'junctionlaw14.DriverThere': WHATEVER THE INPUT: true; the input reads as it did. -/
def driverThereSpec : ChangeSpec := { name := "driverThere", fn := fun _ => fun
  | [d] => { results := [.lit (.bool true)], args := [d] }
  | _ => none }
def driverThereRow : OpenClaim := { program := "ytebbipofemjnmaadoor", sum := "8dd3c34437991140f0258b74306810b67503ebf421598d239b0c2fc9a729cdde", func := "junction/junctionlaw14.DriverThere", spec := "driverThere", inPlace := ["internal/bytealg.IndexByteString", "internal/abi.NoEscape", "internal/bytealg.IndexString"], named := ["internal/strconv.uint64pow10", "math/bits.deBruijn32tab", "math/bits.deBruijn64tab", "internal/bytealg.MaxLen"], apart := false, laid := [("math/bits.deBruijn32tab", laid_math_bits_deBruijn32tab), ("math/bits.deBruijn64tab", laid_math_bits_deBruijn64tab), ("internal/strconv.uint64pow10", laid_internal_strconv_uint64pow10)] }
def DriverThereSaid : Prop := driverThereRow.holds Tryd.pinned (OpenSpec.ofChange driverThereSpec)

/-- ITS FALSE NEIGHBOUR: 'it returns false'. Refute it at one input. -/
def driverThereWrong : ChangeSpec := { name := "driverThere", fn := fun _ => fun
  | [d] => { results := [.lit (.bool false)], args := [d] }
  | _ => none }
def DriverThereWrongFalsely : Prop := driverThereRow.holds Tryd.pinned (OpenSpec.ofChange driverThereWrong)

/-- 'junctionlaw14.DriverBack': WHATEVER THE INPUT: true; the input reads as it did. -/
def driverBackSpec : ChangeSpec := { name := "driverBack", fn := fun _ => fun
  | [d] => { results := [.lit (.bool true)], args := [d] }
  | _ => none }
def driverBackRow : OpenClaim := { program := "ytebbipofemjnmaadoor", sum := "8dd3c34437991140f0258b74306810b67503ebf421598d239b0c2fc9a729cdde", func := "junction/junctionlaw14.DriverBack", spec := "driverBack", inPlace := ["internal/bytealg.IndexByteString", "internal/bytealg.IndexString", "internal/abi.NoEscape"], named := ["internal/bytealg.MaxLen", "internal/strconv.uint64pow10", "math/bits.deBruijn32tab", "math/bits.deBruijn64tab"], apart := false, laid := [("math/bits.deBruijn32tab", laid_math_bits_deBruijn32tab), ("math/bits.deBruijn64tab", laid_math_bits_deBruijn64tab), ("internal/strconv.uint64pow10", laid_internal_strconv_uint64pow10)] }
def DriverBackSaid : Prop := driverBackRow.holds Tryd.pinned (OpenSpec.ofChange driverBackSpec)

/-- ITS FALSE NEIGHBOUR: 'it returns false'. Refute it at one input. -/
def driverBackWrong : ChangeSpec := { name := "driverBack", fn := fun _ => fun
  | [d] => { results := [.lit (.bool false)], args := [d] }
  | _ => none }
def DriverBackWrongFalsely : Prop := driverBackRow.holds Tryd.pinned (OpenSpec.ofChange driverBackWrong)

/- THE SECOND FORM. 'bulk': how many values and letters a reading holds, each counted each time it is reached (what is shared counts as often as it is met; a slice's spare places count too). A statement '..UptoSaid' is the law's where the arguments, and the package variables that the reading takes, are together of bulk at most 1048576: NARROWER than '..Said'. Prove '..Said' where nothing that the law and all that it calls make is longer than what came in: it says more and counts as full. Else prove '..UptoSaid'. A law counts once. -/
mutual
def uptoBulk {H : Type} : DataW H → Nat
  | .lit (.string bytes) => bytes.length + 1
  | .lit _ => 1
  | .nil => 1
  | .ptr d => uptoBulk d + 1
  | .slice elems spare => uptoBulkAll elems + uptoBulkAll spare + 1
  | .agg parts => uptoBulkAll parts + 1
  | .iface _ d => uptoBulk d + 1
  | .map entries => uptoBulkEntries entries + 1
  | .held _ => 1
def uptoBulkAll {H : Type} : List (DataW H) → Nat
  | [] => 0
  | d :: r => uptoBulk d + uptoBulkAll r
def uptoBulkEntries {H : Type} : List (Lit × DataW H) → Nat
  | [] => 0
  | x :: r => uptoBulkEntry x + uptoBulkEntries r
def uptoBulkEntry {H : Type} : Lit × DataW H → Nat
  | (.string bytes, d) => bytes.length + uptoBulk d + 1
  | (_, d) => uptoBulk d + 1
 end
def uptoSmall : (H : Type) → List (DataW H) → Bool := fun _ ds => decide (uptoBulkAll ds ≤ 1048576)
def OpenSpec.upto (s : _root_.Go.ChangeSpec) : _root_.Go.OpenSpec := { _root_.Go.OpenSpec.ofChange s with cond := some uptoSmall }

/-- 'junctionlaw14.DriverPhases', WHERE WHAT IT READS IS OF BULK AT MOST 1048576: true; the input reads as it did. -/
def driverPhasesUptoRow : OpenClaim := { program := "ytebbipofemjnmaadoor", sum := "8dd3c34437991140f0258b74306810b67503ebf421598d239b0c2fc9a729cdde", func := "junction/junctionlaw14.DriverPhases", spec := "driverPhases", named := ["junction/driver.layers"], apart := false, laid := [("junction/driver.layers", laid_junction_driver_layers)], narrowed := true }
def DriverPhasesUptoSaid : Prop := driverPhasesUptoRow.holds Tryd.pinned (OpenSpec.upto driverPhasesSpec)

/-- 'junctionlaw14.DriverTraces', WHERE WHAT IT READS IS OF BULK AT MOST 1048576: true; the input reads as it did. -/
def driverTracesUptoRow : OpenClaim := { program := "ytebbipofemjnmaadoor", sum := "8dd3c34437991140f0258b74306810b67503ebf421598d239b0c2fc9a729cdde", func := "junction/junctionlaw14.DriverTraces", spec := "driverTraces", inPlace := ["internal/bytealg.IndexByteString", "internal/abi.NoEscape"], recurses := true, named := ["internal/strconv.uint64pow10", "math/bits.deBruijn32tab", "math/bits.deBruijn64tab"], apart := false, laid := [("math/bits.deBruijn32tab", laid_math_bits_deBruijn32tab), ("math/bits.deBruijn64tab", laid_math_bits_deBruijn64tab), ("internal/strconv.uint64pow10", laid_internal_strconv_uint64pow10)], narrowed := true }
def DriverTracesUptoSaid : Prop := driverTracesUptoRow.holds Tryd.pinned (OpenSpec.upto driverTracesSpec)

/-- 'junctionlaw14.DriverReports', WHERE WHAT IT READS IS OF BULK AT MOST 1048576: true; the input reads as it did. -/
def driverReportsUptoRow : OpenClaim := { program := "ytebbipofemjnmaadoor", sum := "8dd3c34437991140f0258b74306810b67503ebf421598d239b0c2fc9a729cdde", func := "junction/junctionlaw14.DriverReports", spec := "driverReports", recurses := true, named := ["internal/strconv.uint64pow10", "math/bits.deBruijn32tab", "math/bits.deBruijn64tab", "junction/driver.layers"], apart := false, laid := [("math/bits.deBruijn32tab", laid_math_bits_deBruijn32tab), ("math/bits.deBruijn64tab", laid_math_bits_deBruijn64tab), ("internal/strconv.uint64pow10", laid_internal_strconv_uint64pow10), ("junction/driver.layers", laid_junction_driver_layers)], narrowed := true }
def DriverReportsUptoSaid : Prop := driverReportsUptoRow.holds Tryd.pinned (OpenSpec.upto driverReportsSpec)

/-- 'junctionlaw14.DriverRetraces', WHERE WHAT IT READS IS OF BULK AT MOST 1048576: true; the input reads as it did. -/
def driverRetracesUptoRow : OpenClaim := { program := "ytebbipofemjnmaadoor", sum := "8dd3c34437991140f0258b74306810b67503ebf421598d239b0c2fc9a729cdde", func := "junction/junctionlaw14.DriverRetraces", spec := "driverRetraces", inPlace := ["internal/bytealg.IndexByteString", "internal/bytealg.IndexString", "internal/abi.NoEscape"], recurses := true, named := ["internal/bytealg.MaxLen", "internal/strconv.uint64pow10", "math/bits.deBruijn32tab", "math/bits.deBruijn64tab"], apart := false, laid := [("math/bits.deBruijn32tab", laid_math_bits_deBruijn32tab), ("math/bits.deBruijn64tab", laid_math_bits_deBruijn64tab), ("internal/strconv.uint64pow10", laid_internal_strconv_uint64pow10)], narrowed := true }
def DriverRetracesUptoSaid : Prop := driverRetracesUptoRow.holds Tryd.pinned (OpenSpec.upto driverRetracesSpec)

/-- 'junctionlaw14.DriverThere', WHERE WHAT IT READS IS OF BULK AT MOST 1048576: true; the input reads as it did. -/
def driverThereUptoRow : OpenClaim := { program := "ytebbipofemjnmaadoor", sum := "8dd3c34437991140f0258b74306810b67503ebf421598d239b0c2fc9a729cdde", func := "junction/junctionlaw14.DriverThere", spec := "driverThere", inPlace := ["internal/bytealg.IndexByteString", "internal/abi.NoEscape", "internal/bytealg.IndexString"], named := ["internal/strconv.uint64pow10", "math/bits.deBruijn32tab", "math/bits.deBruijn64tab", "internal/bytealg.MaxLen"], apart := false, laid := [("math/bits.deBruijn32tab", laid_math_bits_deBruijn32tab), ("math/bits.deBruijn64tab", laid_math_bits_deBruijn64tab), ("internal/strconv.uint64pow10", laid_internal_strconv_uint64pow10)], narrowed := true }
def DriverThereUptoSaid : Prop := driverThereUptoRow.holds Tryd.pinned (OpenSpec.upto driverThereSpec)

/-- 'junctionlaw14.DriverBack', WHERE WHAT IT READS IS OF BULK AT MOST 1048576: true; the input reads as it did. -/
def driverBackUptoRow : OpenClaim := { program := "ytebbipofemjnmaadoor", sum := "8dd3c34437991140f0258b74306810b67503ebf421598d239b0c2fc9a729cdde", func := "junction/junctionlaw14.DriverBack", spec := "driverBack", inPlace := ["internal/bytealg.IndexByteString", "internal/bytealg.IndexString", "internal/abi.NoEscape"], named := ["internal/bytealg.MaxLen", "internal/strconv.uint64pow10", "math/bits.deBruijn32tab", "math/bits.deBruijn64tab"], apart := false, laid := [("math/bits.deBruijn32tab", laid_math_bits_deBruijn32tab), ("math/bits.deBruijn64tab", laid_math_bits_deBruijn64tab), ("internal/strconv.uint64pow10", laid_internal_strconv_uint64pow10)], narrowed := true }
def DriverBackUptoSaid : Prop := driverBackUptoRow.holds Tryd.pinned (OpenSpec.upto driverBackSpec)

end Rows
end Go.Proofs.YtebbipofemjnmaaDoor
