/- Of every fault the word for the layer that refuses is the document's (DriverPhases); the layers' table is tied to the program's text. -/
import Derived.Test.YtebbipofemjnmaaDoorRows
import Derived.Test.YtebbipofemjnmaaDoorTie
import Derived.Test.YtebbipofemjnmaaDoorCards
import Derived.Test.YtebbipofemjnmaaDoorPhasePure
import Derived.ProofKit
import Derived.LaidMore
import Derived.OpenShut
import Derived.Stop.Joined
import Derived.SevenTiedAt
import Derived.Test.YtebbipofemjnmaaDoorOpen
namespace Go.Proofs.YtebbipofemjnmaaDoor.driverPhases
open Go.ChangeShapes Go.WideShapes Go.ChangeAt Go.RowKit
open Go.ChangeMaps (open_string shut_string)
open Go.Proofs.YtebbipofemjnmaaDoorW.PrintWords
set_option linter.unusedVariables false

theorem own : ownKnob Tryd.prog.godebug = none := by kernel_rfl
theorem gL : Tryd.prog.globalNamed "junction/driver.layers" = some 0 := by kernel_rfl
theorem tL : (Tryd.prog.globals[0]?).map (·.type) = some 41 := by kernel_rfl
theorem cells41 : Tryd.prog.cellsOf 41 = 20 := by kernel_rfl
theorem cells9 : Tryd.prog.cellsOf 9 = 1 := by kernel_rfl
theorem cells26 : Tryd.prog.cellsOf 26 = 3 := by kernel_rfl
theorem laidOut : laidOutB Tryd.prog = true := by kernel_rfl

/-- The door's own heap meets the condition. -/
theorem door_met (os : Os) (args : Array Value) : laidMetH Tryd.prog Rows.driverPhasesRow.laid ((World.doorLaid Tryd.prog 400 os).forCall (fun _ _ => 0) ⟨#[], args, []⟩).memory :=
  laidMetH_of_parts3 (fuel := 8) (laidMet_of_run' 8 (by kernel_rfl) (by kernel_rfl)) (by kernel_rfl) (by kernel_rfl)

theorem str_of {H : Type} {enc : TypeId × Value → H} {P : Program} {w : World} {base : Nat} {sp : Nat → Bool} {held : Bool} {fuel : Nat} {t : TypeId} {cs : List Value} {y : DataW H × List MemPlace}
    (ht : P.underlying t = some .string) (h : DataW.trod enc P w base sp held fuel t cs = some y) : ∃ s : ByteArray, cs = [.string s] ∧ y.1 = .lit (.string s.data.toList) := by
  obtain ⟨s, h1, h2, _⟩ := DataW.trod_string ht h
  exact ⟨s, h1, by rw [h2]⟩

theorem of_laid {W : World} (h : laidMetH Tryd.prog Rows.driverPhasesRow.laid W) : Phase.Lays W := by
  rw [MakeChecks.laidMetH_plain _ _ _ (by kernel_rfl)] at h
  obtain ⟨ps, ⟨g0, t0, cs0, f0, p0, q0, hg0, ht0, hv0, hd0, _, _⟩, _⟩ := h
  obtain rfl := Option.some.inj (gL.symm.trans hg0)
  obtain rfl := Option.some.inj (tL.symm.trans ht0)
  intro i hi
  obtain ⟨xs, m1, rfl, hx1, hlen, hn3, hel⟩ := DataW.trod_array Tryd.underlying41 hd0
  have hc := World.var?_cell hg0 hv0 i
  have hx2 : xs.map (·.1) = Phase.lays.map (fun s => (DataW.lit (.string s.data.toList) : DataW Unit)) := by
    have := congrArg Prod.fst hx1
    simp only [Rows.laid_junction_driver_layers] at this
    injection this with this
    rw [← this]
    rfl
  have h1 := hel i hi
  rw [cells9] at h1
  have hxi : i < xs.length := by omega
  rw [List.getElem?_eq_getElem hxi] at h1
  obtain ⟨s, hs, hd⟩ := str_of Tryd.underlying9 h1
  have hl : i < Phase.lays.length := hi
  have h3 : (xs.map (·.1))[i]? = (Phase.lays.map (fun s => (DataW.lit (.string s.data.toList) : DataW Unit)))[i]? := by rw [hx2]
  rw [List.getElem?_map, List.getElem?_map, List.getElem?_eq_getElem hxi, List.getElem?_eq_getElem hl] at h3
  simp only [Option.map_some, Option.some.injEq] at h3
  rw [hd] at h3
  injection h3 with h3
  injection h3 with h3
  have hse : s = Phase.lays[i] := ByteArray.ext (Array.toList_inj.1 h3)
  rw [hc]
  have h5 : cs0.toList[i]? = some (.string s) := by
    have := congrArg (fun l : List Value => l[0]?) hs
    simpa [List.getElem?_take, List.getElem?_drop] using this
  rw [Array.getElem?_toList] at h5
  rw [h5, hse, List.getD_eq_getElem?_getD, List.getElem?_eq_getElem hl]
  rfl

theorem fits24 : Open.Fits Tryd.prog 24 (Kd.pair (Kd.int .i64) (Kd.int .i64)) (fun p => (Lit.int .i64 p.1).wf = true ∧ (Lit.int .i64 p.2).wf = true) :=
  Open.fits_struct Tryd.underlying24 (by kernel_rfl) (Open.fitsF_cons rfl (Open.fits_int Tryd.underlying22) (by kernel_rfl) (Open.fitsF_one rfl (Open.fits_int Tryd.underlying22) (by kernel_rfl)))
theorem fits26 : Open.Fits Tryd.prog 26 (Kd.pair (Kd.int .i64) (Kd.pair (Kd.int .i64) (Kd.int .i64))) (fun p => (Lit.int .i64 p.1).wf = true ∧ ((Lit.int .i64 p.2.1).wf = true ∧ (Lit.int .i64 p.2.2).wf = true)) :=
  Open.fits_imp (Open.fits_struct Tryd.underlying26 (by kernel_rfl) (Open.fitsF_cons rfl (Open.fits_int Tryd.underlying22) (by kernel_rfl) (Open.fitsF_one rfl fits24 (by kernel_rfl)))) (fun _ h => h)

set_option maxRecDepth 100000 in
theorem lifted (os : Os) (started : os.Started) (H : Type) (enc : TypeId × Value → H) :
    ReturnsInHanded {} Tryd.checked os 3 .any (fun w args => (Rows.driverPhasesSpec.pre enc Tryd.prog Tryd.f3 [] false w args ∧ laidMetH Tryd.prog Rows.driverPhasesRow.laid w) ∧ sizedMet enc Tryd.prog Tryd.f3 (OpenSpec.ofChange Rows.driverPhasesSpec) false w args)
      (Rows.driverPhasesSpec.post enc Tryd.prog Tryd.f3 false true false false) := by
  refine returnsInHanded_of_change_and (C := Tryd.checked) (X := fun w _ => laidMetH Tryd.prog Rows.driverPhasesRow.laid w) (fun _ _ _ hh h => h.of_heap hh) own started (by kernel_rfl) Tryd.func3
    (ChangeSpec.witness_shaped (enc := enc) (C := Tryd.checked) (os := os) (X := fun w _ => laidMetH Tryd.prog Rows.driverPhasesRow.laid w) false (World.doorLaid Tryd.prog 400 os) #[.agg #[.int .i64 0, .int .i64 0, .int .i64 0]] 8 rfl (World.shaped_of_RefB (by kernel_rfl) (by kernel_rfl)) (by kernel_rfl) (by kernel_rfl) (by kernel_rfl) (door_met os _)) ?_
  intro W base args ds gs before hval0 hW _ hsz0 hL _
  have hsz : (DataW.weightsEach Tryd.prog (Tryd.f3.params.toList ++ Rows.driverPhasesSpec.plain.varTypes Tryd.prog) (ds ++ gs)).all (· ≤ reachBytes) = true := hsz0
  have hval : ∀ (j : Nat) t v, Tryd.f3.params[j]? = some t → args[j]? = some v → Value.okWide Tryd.prog W .any base t v := hval0
  have hW' := hW
  obtain ⟨p, q, hA0, hV, rfl, hfz, hnd⟩ := hW
  have hA : DataW.TrodAll enc Tryd.prog W 0 (fun _ => true) true Tryd.f3.params.toList args.toList ds p := hA0
  rw [Tryd.params3] at hA hval hsz
  obtain ⟨v0, vs0, d0, ds0, p0, q0, hargs, rfl, rfl, h0, r0⟩ := trodAll_cons hA
  obtain ⟨rfl, rfl, rfl⟩ := trodAll_nil r0
  obtain rfl : args = #[v0] := by cases args; simp_all
  obtain ⟨rfl, rfl⟩ := trodVars_none hV
  have k0 := h0
  have lt0 : ∀ x ∈ p0, x.block < W.heap.size := by obtain ⟨m, hm⟩ := k0; exact DataW.trod_lt m _ _ _ hm
  obtain ⟨x0, hk0, ok0⟩ := Open.fits_arg (j := 0) fits26 hsz rfl rfl h0
  obtain ⟨cs0, rfl, hk0⟩ := Open.struct_arg Tryd.underlying26 (hval 0 26 v0 rfl rfl) hk0
  obtain ⟨_, _, rfl, rfl, ⟨_, _, rfl, rfl, rfl⟩⟩ := hk0
  have hG := of_laid hL
  clear hA0 hval0 hsz0 hsz
  obtain ⟨r, e1, e2⟩ := Phase.law x0.1 x0.2.1 x0.2.2
  refine (Phase.law_calls x0.1 x0.2.1 x0.2.2 r W hG e1 e2).mono fun e W' ⟨he, bel⟩ => ?_
  subst he
  exact ⟨_, rfl, _, _, _, [], _, [], hW', trodAll_mk1 (shut_bool Tryd.underlying4 _), (trodAll_cons_mk (Below.trod laidOut (by kernel_rfl) (of_decide_eq_true (by kernel_rfl)) k0 bel lt0) trodAll_mk0), rfl, bel.frame _, fun h => by cases h⟩
theorem row_holds : Rows.DriverPhasesSaid :=
  OpenClaim.holds_of_wide 3 Tryd.f3 rfl rfl rfl rfl rfl rfl rfl ⟨rfl, rfl, rfl, rfl, rfl⟩ rfl rfl rfl rfl rfl (by kernel_rfl) Tryd.func3 (by kernel_rfl)
    (of_decide_eq_true (by kernel_rfl)) (by unfold Func.isWrapper; first | (rw [if_pos (by decide +kernel)]; kernel_rfl) | (rw [if_neg (by decide +kernel)]; exact ⟨rfl, rfl⟩))
    (fun os started H enc _ => lifted os started H enc)
theorem card_holds : Rows.DriverPhasesCardSaid :=
  Claim7.holds_tied_plain_at .later [] [.data] true (true, "8a2be78f8e7a201b9ad947d7bfe8895da208b54914b61b44517d8445e2b97c41") false
    row_holds (fun _ h => by cases h) (by kernel_rfl) (fun _ h => by cases h) driverPhases_row_tie rfl ⟨rfl, rfl⟩ (by kernel_rfl) rfl
    (fun f fn hf hfn => by
      obtain rfl : f = 3 := Option.some.inj ((show Tryd.prog.funcNamed "junction/junctionlaw14.DriverPhases" = some 3 by kernel_rfl).symm.trans hf) |>.symm
      obtain rfl : fn = Tryd.f3 := (Option.some.inj (Tryd.func3.symm.trans hfn)).symm
      exact ⟨by kernel_rfl, fun j t ht => by
        rw [Tryd.params3] at ht
        have hm : t ∈ [26] := by simpa using Array.mem_of_getElem? ht
        have hall : ([26].all fun u => !Tryd.prog.wantsStandIn u) = true := by kernel_rfl
        exact (show Tryd.prog.wantsStandIn t = false by simpa using List.all_eq_true.1 hall t hm)⟩)
    (by kernel_rfl)
end Go.Proofs.YtebbipofemjnmaaDoor.driverPhases
namespace Go.Proofs.YtebbipofemjnmaaDoor
/-- Of every fault the program's word for the layer is the document's. -/
theorem driverPhases_holds : Rows.DriverPhasesCardSaid := driverPhases.card_holds
#print axioms driverPhases_holds
end Go.Proofs.YtebbipofemjnmaaDoor
