/- Every list of entries, brought into range: what Trace tells Retrace reads as the same entries. -/
import Derived.Test.YtebbipofemjnmaaDoorRows
import Derived.Test.YtebbipofemjnmaaDoorTie
import Derived.Test.YtebbipofemjnmaaDoorCards
import Derived.Test.YtebbipofemjnmaaDoorTThere14
import Derived.Test.YtebbipofemjnmaaDoorTFitsTryd
import Derived.Test.YtebbipofemjnmaaDoorTAm20
import Derived.WalkKit
import Derived.ProofKit
import Derived.OpenShut
import Derived.ShutString
import Derived.ChangeOld
import Derived.Below
import Derived.SizedLaws
import Derived.LaidMore
import Derived.Stop.Joined
import Derived.SevenTiedAt
namespace Go.Proofs.YtebbipofemjnmaaDoor.driverThere
open Go.ChangeShapes Go.WideShapes Go.ChangeAt Go.RowKit
open Go.ChangeMaps (open_string shut_string)
open Go.Am Go.Am.Tryd
set_option linter.unusedVariables false
theorem own : ownKnob Tryd.prog.godebug = none := by kernel_rfl
theorem laidOut : laidOutB Tryd.prog = true := by kernel_rfl
theorem door_met (os : Os) (args : Array Value) : laidMetH Tryd.prog Rows.driverThereRow.laid ((World.doorLaid Tryd.prog 400 os).forCall (fun _ _ => 0) ⟨#[], args, []⟩).memory :=
  laidMetH_of_parts3 (fuel := 8) (laidMet_of_run' 8 (by kernel_rfl) (by kernel_rfl)) (by kernel_rfl) (by kernel_rfl)
set_option maxRecDepth 1000000 in
theorem tabs {W : World} (h : laidMetH Tryd.prog Rows.driverThereRow.laid W) : GlobOk E glob (allOf W) := by
  rw [MakeChecks.laidMetH_plain _ _ _ (by kernel_rfl)] at h
  obtain ⟨ps, hl, _⟩ := h
  obtain ⟨g0, t0, cs0, f0, p0, q0, hg0, ht0, hv0, hd0, hl, _⟩ := hl
  obtain ⟨g1, t1, cs1, f1, p1, q1, hg1, ht1, hv1, hd1, hl, _⟩ := hl
  obtain ⟨g2, t2, cs2, f2, p2, q2, hg2, ht2, hv2, hd2, hl, _⟩ := hl
  obtain rfl := Option.some.inj ((show Tryd.prog.globalNamed "math/bits.deBruijn32tab" = some 3 by kernel_rfl).symm.trans hg0)
  obtain rfl := Option.some.inj ((show (Tryd.prog.globals[3]?).map (·.type) = some 89 by kernel_rfl).symm.trans ht0)
  obtain rfl := Option.some.inj ((show Tryd.prog.globalNamed "math/bits.deBruijn64tab" = some 4 by kernel_rfl).symm.trans hg1)
  obtain rfl := Option.some.inj ((show (Tryd.prog.globals[4]?).map (·.type) = some 90 by kernel_rfl).symm.trans ht1)
  obtain rfl := Option.some.inj ((show Tryd.prog.globalNamed "internal/strconv.uint64pow10" = some 2 by kernel_rfl).symm.trans hg2)
  obtain rfl := Option.some.inj ((show (Tryd.prog.globals[2]?).map (·.type) = some 81 by kernel_rfl).symm.trans ht2)
  exact globOk (tab_laid (E := E) (w := W) (k := Kc.T73) (xs := tab2) (vs := (tab2.map fun z => Value.int .u64 z)) hg2 hv2 (.array Tryd.underlying81 (by kernel_rfl) (.int Tryd.underlying73)) hd2 (by kernel_rfl) (by kernel_rfl) (by kernel_rfl)) (tab_laid (E := E) (w := W) (k := Kc.T5) (xs := tab3) (vs := (tab3.map fun z => Value.int .u8 z)) hg0 hv0 (.array Tryd.underlying89 (by kernel_rfl) (.int Tryd.underlying5)) hd0 (by kernel_rfl) (by kernel_rfl) (by kernel_rfl)) (tab_laid (E := E) (w := W) (k := Kc.T5) (xs := tab4) (vs := (tab4.map fun z => Value.int .u8 z)) hg1 hv1 (.array Tryd.underlying90 (by kernel_rfl) (.int Tryd.underlying5)) hd1 (by kernel_rfl) (by kernel_rfl) (by kernel_rfl))
set_option maxHeartbeats 2000000 in
set_option maxRecDepth 100000 in
theorem lifted (os : Os) (started : os.Started) (H : Type) (enc : TypeId × Value → H) :
    ReturnsInHanded {} Tryd.checked os 7 .any (fun w args => (Rows.driverThereSpec.pre enc Tryd.prog Tryd.f7 [] false w args ∧ laidMetH Tryd.prog Rows.driverThereRow.laid w) ∧ sizedMet enc Tryd.prog Tryd.f7 (OpenSpec.ofChange Rows.driverThereSpec) false w args) (Rows.driverThereSpec.post enc Tryd.prog Tryd.f7 false true false false) := by
  refine returnsInHanded_of_change_and (C := Tryd.checked) (X := fun w _ => laidMetH Tryd.prog Rows.driverThereRow.laid w) (fun _ _ _ hh h => h.of_heap hh) own started (by kernel_rfl) Tryd.func7
    (ChangeSpec.witness_shaped (enc := enc) (C := Tryd.checked) (os := os) (X := fun w _ => laidMetH Tryd.prog Rows.driverThereRow.laid w) false (World.doorLaid Tryd.prog 400 os) #[(.slice none 0 0)] 8 rfl (World.shaped_of_RefB (by kernel_rfl) (by kernel_rfl)) (by kernel_rfl) (by kernel_rfl) (by kernel_rfl) (door_met os _)) ?_
  intro W base args ds gs before hval0 hW hcnd hsz0 hL _
  have hsz : (DataW.weightsEach Tryd.prog (Tryd.f7.params.toList ++ Rows.driverThereSpec.plain.varTypes Tryd.prog) (ds ++ gs)).all (· ≤ reachBytes) = true := hsz0
  have hval : ∀ (j : Nat) t v, Tryd.f7.params[j]? = some t → args[j]? = some v → Value.okWide Tryd.prog W .any base t v := hval0
  have hW' := hW
  obtain ⟨p, q, hA0, hV, rfl, hfz, hnd⟩ := hW
  have hA : DataW.TrodAll enc Tryd.prog W 0 (fun _ => true) true Tryd.f7.params.toList args.toList ds p := hA0
  rw [Tryd.params7] at hA hval hsz
  obtain ⟨v0, vs0, d0, ds0, p0, q0, hargs, rfl, rfl, h0, r0⟩ := trodAll_cons hA
  obtain ⟨rfl, rfl, rfl⟩ := trodAll_nil r0
  obtain rfl : args = #[v0] := by cases args; simp_all
  obtain ⟨rfl, rfl⟩ := trodVars_none hV
  have k0 := h0
  have lt0 : ∀ x ∈ p0, x.block < W.heap.size := by obtain ⟨m, hm⟩ := k0; exact DataW.trod_lt m _ _ _ hm
  obtain ⟨x0, hk0, ok0⟩ := Go.Am.fits_arg (E := E) (j := 0) (fits_slice D (k := Kc.T38) encOk Tryd.underlying29 fitsT38 (by kernel_rfl) (by kernel_rfl : Tryd.prog.bytesOf 38 = 24) (fun _ => rfl)) hsz rfl rfl h0
  have rep0 := Go.Am.one_arg Tryd.underlying29 rfl (hval 0 29 v0 rfl rfl) hk0
  clear hA0 hval0 hsz0 hsz
  have e := there_law x0.1 ok0
  have hargs' : Go.Am.Reps E (allOf W) noPl (puts junctionlaw14_DriverThere.i (x0.1, ())) #[v0].toList := (Go.Am.Reps.cons rep0 Go.Am.Reps.nil)
  refine (junctionlaw14_DriverThere.call 100000000 (x0.1, ()) (true, ()) (by unfold junctionlaw14_DriverThere.f; exact e) W (allOf W) #[v0] rel_start (tabs hL) hargs').mono fun e' W' ⟨u, F', φ', he, _, hu, hm⟩ => ?_
  subst he
  obtain rfl := val_inv (show Rep E F' φ' (.val (.bool true)) u from hu)
  have bel := mv_below hm
  exact ⟨_, rfl, _, _, _, [], _, [], hW', trodAll_mk1 (shut_bool Tryd.underlying4 _), (trodAll_cons_mk (Below.trod laidOut (by kernel_rfl) (of_decide_eq_true (by kernel_rfl)) k0 bel lt0) trodAll_mk0), rfl, bel.frame _, fun h => by cases h⟩
theorem row_holds : Rows.DriverThereSaid :=
  OpenClaim.holds_of_wide 7 Tryd.f7 rfl rfl rfl rfl rfl rfl rfl ⟨rfl, rfl, rfl, rfl, rfl⟩ rfl rfl rfl rfl rfl (by kernel_rfl) Tryd.func7 (by kernel_rfl)
    (of_decide_eq_true (by kernel_rfl)) (by unfold Func.isWrapper; first | (rw [if_pos (by decide +kernel)]; kernel_rfl) | (rw [if_neg (by decide +kernel)]; exact ⟨rfl, rfl⟩))
    (fun os started H enc _ => lifted os started H enc)
theorem card_holds : Rows.DriverThereCardSaid :=
  Claim7.holds_tied_plain_at .later [] [.data, .data, .data] true (true, "8a2be78f8e7a201b9ad947d7bfe8895da208b54914b61b44517d8445e2b97c41") false
    row_holds (fun _ h => by cases h) (by kernel_rfl) (fun _ h => by cases h) driverThere_row_tie rfl ⟨rfl, rfl⟩ (by kernel_rfl) rfl
    (fun f fn hf hfn => by
      obtain rfl : f = 7 := Option.some.inj ((show Tryd.prog.funcNamed "junction/junctionlaw14.DriverThere" = some 7 by kernel_rfl).symm.trans hf) |>.symm
      obtain rfl : fn = Tryd.f7 := (Option.some.inj (Tryd.func7.symm.trans hfn)).symm
      exact ⟨by kernel_rfl, fun j t ht => by
        rw [Tryd.params7] at ht
        have hm : t ∈ [29] := by simpa using Array.mem_of_getElem? ht
        have hall : ([29].all fun u => !Tryd.prog.wantsStandIn u) = true := by kernel_rfl
        exact (show Tryd.prog.wantsStandIn t = false by simpa using List.all_eq_true.1 hall t hm)⟩)
    (by kernel_rfl)
end Go.Proofs.YtebbipofemjnmaaDoor.driverThere
namespace Go.Proofs.YtebbipofemjnmaaDoor
theorem driverThere_holds : Rows.DriverThereCardSaid := driverThere.card_holds
end Go.Proofs.YtebbipofemjnmaaDoor
