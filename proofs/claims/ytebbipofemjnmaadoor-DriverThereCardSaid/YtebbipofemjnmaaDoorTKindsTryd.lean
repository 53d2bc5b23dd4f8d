/- The kinds of this program's slices: what an element's cells are. -/
import Derived.Test.YtebbipofemjnmaaDoorTAm17
import Derived.Test.YtebbipofemjnmaaDoorProg
namespace Go.Am.Tryd
open Go.Proofs Go.Am
structure S38 where
  f0 : ByteArray
  f1 : Int
inductive Kc where
  | T38 | T5 | T73
  deriving DecidableEq
def κ : Kinds where
  Kc := Kc
  deq := inferInstance
  ty := fun k => match k with
    | .T38 => S38
    | .T5 => Int
    | .T73 => Int
  elem := fun k => match k with
    | .T38 => 38
    | .T5 => 5
    | .T73 => 73
  sz := fun k => match k with
    | .T38 => 2
    | .T5 => 1
    | .T73 => 1
  bytes := fun k => match k with
    | .T38 => 24
    | .T5 => 1
    | .T73 => 8
def pats : Kc → List (Pat κ)
  | .T38 => [.str, .int .i64]
  | .T5 => [.int .u8]
  | .T73 => [.int .u64]
def D : KindData κ where
  pats := pats
  to := fun k => match k with
    | .T38 => fun d => (⟨d.1, d.2.1⟩ : S38)
    | .T5 => fun d => d.1
    | .T73 => fun d => d.1
  of := fun k => match k with
    | .T38 => fun (x : S38) => (x.f0, x.f1, ())
    | .T5 => fun x => (x, ())
    | .T73 => fun x => (x, ())
  dflt := fun k => match k with
    | .T38 => (⟨ByteArray.empty, 0⟩ : S38)
    | .T5 => (0 : Int)
    | .T73 => (0 : Int)
  byte := fun k => match k with
    | .T38 => none
    | .T5 => some (fun (x : Int) => x)
    | .T73 => none
def E : Encs κ := D.encs
def kindOf : TypeId → Option Kc := fun t => if t = 38 then some .T38 else if t = 5 then some .T5 else if t = 73 then some .T73 else none
def tab2 : List (Int) := [((1 : Int) : Int), ((10 : Int) : Int), ((100 : Int) : Int), ((1000 : Int) : Int), ((10000 : Int) : Int), ((100000 : Int) : Int), ((1000000 : Int) : Int), ((10000000 : Int) : Int), ((100000000 : Int) : Int), ((1000000000 : Int) : Int), ((10000000000 : Int) : Int), ((100000000000 : Int) : Int), ((1000000000000 : Int) : Int), ((10000000000000 : Int) : Int), ((100000000000000 : Int) : Int), ((1000000000000000 : Int) : Int), ((10000000000000000 : Int) : Int), ((100000000000000000 : Int) : Int), ((1000000000000000000 : Int) : Int), ((10000000000000000000 : Int) : Int)]
def tab3 : List (Int) := [((0 : Int) : Int), ((1 : Int) : Int), ((28 : Int) : Int), ((2 : Int) : Int), ((29 : Int) : Int), ((14 : Int) : Int), ((24 : Int) : Int), ((3 : Int) : Int), ((30 : Int) : Int), ((22 : Int) : Int), ((20 : Int) : Int), ((15 : Int) : Int), ((25 : Int) : Int), ((17 : Int) : Int), ((4 : Int) : Int), ((8 : Int) : Int), ((31 : Int) : Int), ((27 : Int) : Int), ((13 : Int) : Int), ((23 : Int) : Int), ((21 : Int) : Int), ((19 : Int) : Int), ((16 : Int) : Int), ((7 : Int) : Int), ((26 : Int) : Int), ((12 : Int) : Int), ((18 : Int) : Int), ((6 : Int) : Int), ((11 : Int) : Int), ((5 : Int) : Int), ((10 : Int) : Int), ((9 : Int) : Int)]
def tab4 : List (Int) := [((0 : Int) : Int), ((1 : Int) : Int), ((56 : Int) : Int), ((2 : Int) : Int), ((57 : Int) : Int), ((49 : Int) : Int), ((28 : Int) : Int), ((3 : Int) : Int), ((61 : Int) : Int), ((58 : Int) : Int), ((42 : Int) : Int), ((50 : Int) : Int), ((38 : Int) : Int), ((29 : Int) : Int), ((17 : Int) : Int), ((4 : Int) : Int), ((62 : Int) : Int), ((47 : Int) : Int), ((59 : Int) : Int), ((36 : Int) : Int), ((45 : Int) : Int), ((43 : Int) : Int), ((51 : Int) : Int), ((22 : Int) : Int), ((53 : Int) : Int), ((39 : Int) : Int), ((33 : Int) : Int), ((30 : Int) : Int), ((24 : Int) : Int), ((18 : Int) : Int), ((12 : Int) : Int), ((5 : Int) : Int), ((63 : Int) : Int), ((55 : Int) : Int), ((48 : Int) : Int), ((27 : Int) : Int), ((60 : Int) : Int), ((41 : Int) : Int), ((37 : Int) : Int), ((16 : Int) : Int), ((46 : Int) : Int), ((35 : Int) : Int), ((44 : Int) : Int), ((21 : Int) : Int), ((52 : Int) : Int), ((32 : Int) : Int), ((23 : Int) : Int), ((11 : Int) : Int), ((54 : Int) : Int), ((26 : Int) : Int), ((40 : Int) : Int), ((15 : Int) : Int), ((34 : Int) : Int), ((20 : Int) : Int), ((31 : Int) : Int), ((10 : Int) : Int), ((25 : Int) : Int), ((14 : Int) : Int), ((19 : Int) : Int), ((9 : Int) : Int), ((13 : Int) : Int), ((8 : Int) : Int), ((7 : Int) : Int), ((6 : Int) : Int)]
def glob : Nat → AV κ := fun g => if g = 2 then .tab .T73 tab2 else if g = 3 then .tab .T5 tab3 else if g = 4 then .tab .T5 tab4 else .val (.pointer (some ⟨g, 0, none⟩))
theorem encOk : E.Ok := D.ok (fun k d => by cases k <;> rfl) (fun k => by cases k <;> rfl) (fun k => by cases k <;> rfl) (fun k => by cases k <;> decide) (fun k f x h => by cases k <;> first | (cases h; done) | (cases h; rfl))
set_option maxRecDepth 100000 in
theorem fitOk : ∀ k : κ.Kc, Fit Tryd.prog k := fun k => match k with
  | Kc.T38 => fit_of (κ := κ) (P := Tryd.prog) (k := Kc.T38) (by kernel_rfl)
  | Kc.T5 => fit_of (κ := κ) (P := Tryd.prog) (k := Kc.T5) (by kernel_rfl)
  | Kc.T73 => fit_of (κ := κ) (P := Tryd.prog) (k := Kc.T73) (by kernel_rfl)
theorem mixOk : Tryd.prog.follows .mixedOrders = true := by kernel_rfl
theorem globOk {F : Nat → Option Obj} (h2 : Rep E F noPl (.tab .T73 tab2) (.pointer (some ⟨2, 0, none⟩))) (h3 : Rep E F noPl (.tab .T5 tab3) (.pointer (some ⟨3, 0, none⟩))) (h4 : Rep E F noPl (.tab .T5 tab4) (.pointer (some ⟨4, 0, none⟩))) : GlobOk E glob F := fun g ψ => by
  unfold glob
  split
  · rename_i h; subst h; exact tab_any encOk h2
  split
  · rename_i h; subst h; exact tab_any encOk h3
  split
  · rename_i h; subst h; exact tab_any encOk h4
  exact .val _
noncomputable def mkCtx (es : List (EntS κ)) (qs : List (QEntS κ)) (ls : List (LamS κ)) : Ctx κ := { P := Tryd.prog, E := E, glob := glob, Γ := lookE es, Γq := lookQ qs, Λ := lookL ls }
theorem ctxOk {es : List (EntS κ)} {qs : List (QEntS κ)} {ls : List (LamS κ)} (h1 : AllE Tryd.prog E glob es) (h2 : AllQ Tryd.prog E glob qs) : (mkCtx es qs ls).Ok :=
  ⟨encOk, fitOk, lookE_ok h1, lookQ_ok h2, mixOk⟩
end Go.Am.Tryd
