/- The statement SafetyTurns of every input. -/
import Derived.Test.YtdgempbldhdihaaDoorRows
import Derived.Test.YtdgempbldhdihaaDoorTie
import Derived.Test.YtdgempbldhdihaaDoorCards
import Derived.Test.YtdgempbldhdihaaDoorTTurn
import Derived.Test.YtdgempbldhdihaaDoorTFitsTryd
import Derived.Test.YtdgempbldhdihaaDoorTAm20
import Derived.WalkKit
import Derived.ProofKit
import Derived.OpenShut
import Derived.ShutString
import Derived.ChangeOld
import Derived.Below
import Derived.SizedLaws
import Derived.LaidMore
import Derived.Stop.Joined
import Derived.SevenTiedAt
namespace Go.Proofs.YtdgempbldhdihaaDoor.safetyTurns
open Go.ChangeShapes Go.WideShapes Go.ChangeAt Go.RowKit
open Go.ChangeMaps (open_string shut_string)
open Go.Am Go.Am.Tryd
set_option linter.unusedVariables false
theorem own : ownKnob Tryd.prog.godebug = none := by kernel_rfl
theorem laidOut : laidOutB Tryd.prog = true := by kernel_rfl
theorem door_met (os : Os) (args : Array Value) : laidMetH Tryd.prog Rows.safetyTurnsRow.laid ((World.doorLaid Tryd.prog 400 os).forCall (fun _ _ => 0) ⟨#[], args, []⟩).memory :=
  laidMetH_of_parts3 (fuel := 8) (laidMet_of_run' 8 (by kernel_rfl) (by kernel_rfl)) (by kernel_rfl) (by kernel_rfl)
set_option maxRecDepth 1000000 in
theorem tabs {W : World} (h : laidMetH Tryd.prog Rows.safetyTurnsRow.laid W) : GlobOk E glob (allOf W) := by
  rw [MakeChecks.laidMetH_plain _ _ _ (by kernel_rfl)] at h
  obtain ⟨ps, hl, _⟩ := h
  obtain ⟨g0, t0, cs0, f0, p0, q0, hg0, ht0, hv0, hd0, hl, _⟩ := hl
  obtain rfl := Option.some.inj ((show Tryd.prog.globalNamed "math/bits.deBruijn64tab" = some 1 by kernel_rfl).symm.trans hg0)
  obtain rfl := Option.some.inj ((show (Tryd.prog.globals[1]?).map (·.type) = some 156 by kernel_rfl).symm.trans ht0)
  exact globOk (tab_laid (E := E) (w := W) (k := Kc.T5) (xs := tab1) (vs := (tab1.map fun z => Value.int .u8 z)) hg0 hv0 (.array Tryd.underlying156 (by kernel_rfl) (.int Tryd.underlying5)) hd0 (by kernel_rfl) (by kernel_rfl) (by kernel_rfl))
set_option maxHeartbeats 2000000 in
set_option maxRecDepth 100000 in
theorem lifted (os : Os) (started : os.Started) (H : Type) (enc : TypeId × Value → H) :
    ReturnsInHanded {} Tryd.checked os 4 .any (fun w args => (Rows.safetyTurnsSpec.pre enc Tryd.prog Tryd.f4 [] false w args ∧ laidMetH Tryd.prog Rows.safetyTurnsRow.laid w) ∧ sizedMet enc Tryd.prog Tryd.f4 (OpenSpec.ofChange Rows.safetyTurnsSpec) false w args) (Rows.safetyTurnsSpec.post enc Tryd.prog Tryd.f4 false true false false) := by
  refine returnsInHanded_of_change_and (C := Tryd.checked) (X := fun w _ => laidMetH Tryd.prog Rows.safetyTurnsRow.laid w) (fun _ _ _ hh h => h.of_heap hh) own started (by kernel_rfl) Tryd.func4
    (ChangeSpec.witness_shaped (enc := enc) (C := Tryd.checked) (os := os) (X := fun w _ => laidMetH Tryd.prog Rows.safetyTurnsRow.laid w) false (World.doorLaid Tryd.prog 400 os) #[(.agg #[(.slice none 0 0), (.slice none 0 0)]), (.int .i64 0), (.int .i64 0), (.int .u64 0), (.int .u64 0)] 8 rfl (World.shaped_of_RefB (by kernel_rfl) (by kernel_rfl)) (by kernel_rfl) (by kernel_rfl) (by kernel_rfl) (door_met os _)) ?_
  intro W base args ds gs before hval0 hW hcnd hsz0 hL _
  have hsz : (DataW.weightsEach Tryd.prog (Tryd.f4.params.toList ++ Rows.safetyTurnsSpec.plain.varTypes Tryd.prog) (ds ++ gs)).all (· ≤ reachBytes) = true := hsz0
  have hval : ∀ (j : Nat) t v, Tryd.f4.params[j]? = some t → args[j]? = some v → Value.okWide Tryd.prog W .any base t v := hval0
  have hW' := hW
  obtain ⟨p, q, hA0, hV, rfl, hfz, hnd⟩ := hW
  have hA : DataW.TrodAll enc Tryd.prog W 0 (fun _ => true) true Tryd.f4.params.toList args.toList ds p := hA0
  rw [Tryd.params4] at hA hval hsz
  obtain ⟨v0, vs0, d0, ds0, p0, q0, hargs, rfl, rfl, h0, r0⟩ := trodAll_cons hA
  obtain ⟨v1, vs1, d1, ds1, p1, q1, rfl, rfl, rfl, h1, r1⟩ := trodAll_cons r0
  obtain ⟨v2, vs2, d2, ds2, p2, q2, rfl, rfl, rfl, h2, r2⟩ := trodAll_cons r1
  obtain ⟨v3, vs3, d3, ds3, p3, q3, rfl, rfl, rfl, h3, r3⟩ := trodAll_cons r2
  obtain ⟨v4, vs4, d4, ds4, p4, q4, rfl, rfl, rfl, h4, r4⟩ := trodAll_cons r3
  obtain ⟨rfl, rfl, rfl⟩ := trodAll_nil r4
  obtain rfl : args = #[v0, v1, v2, v3, v4] := by cases args; simp_all
  obtain ⟨rfl, rfl⟩ := trodVars_none hV
  have k0 := h0
  have lt0 : ∀ x ∈ p0, x.block < W.heap.size := by obtain ⟨m, hm⟩ := k0; exact DataW.trod_lt m _ _ _ hm
  have k1 := h1
  have lt1 : ∀ x ∈ p1, x.block < W.heap.size := by obtain ⟨m, hm⟩ := k1; exact DataW.trod_lt m _ _ _ hm
  have k2 := h2
  have lt2 : ∀ x ∈ p2, x.block < W.heap.size := by obtain ⟨m, hm⟩ := k2; exact DataW.trod_lt m _ _ _ hm
  have k3 := h3
  have lt3 : ∀ x ∈ p3, x.block < W.heap.size := by obtain ⟨m, hm⟩ := k3; exact DataW.trod_lt m _ _ _ hm
  have k4 := h4
  have lt4 : ∀ x ∈ p4, x.block < W.heap.size := by obtain ⟨m, hm⟩ := k4; exact DataW.trod_lt m _ _ _ hm
  obtain ⟨x0, hk0, ok0⟩ := Go.Am.fits_arg (E := E) (j := 0) (fits_struct Tryd.underlying25 (by kernel_rfl) (fitsF_cons rfl (fits_slice D (k := Kc.T42) encOk Tryd.underlying22 fitsT42 (by kernel_rfl) (by kernel_rfl : Tryd.prog.bytesOf 42 = 48) (fun _ => rfl)) (by kernel_rfl) (fitsF_cons rfl (fits_slice D (k := Kc.T47) encOk Tryd.underlying23 fitsT47 (by kernel_rfl) (by kernel_rfl : Tryd.prog.bytesOf 47 = 32) (fun _ => rfl)) (by kernel_rfl) fitsF_nil))) hsz rfl rfl h0
  have rep0 := Go.Am.struct_arg Tryd.underlying25 (hval 0 25 v0 rfl rfl) hk0
  obtain ⟨ok0_h0, ok0_h1, _⟩ := ok0
  obtain ⟨x1, hk1, ok1⟩ := Go.Am.fits_arg (E := E) (j := 1) (fits_int Tryd.underlying3) hsz rfl rfl h1
  have rep1 := Go.Am.one_arg Tryd.underlying3 rfl (hval 1 3 v1 rfl rfl) hk1
  obtain ⟨x2, hk2, ok2⟩ := Go.Am.fits_arg (E := E) (j := 2) (fits_int Tryd.underlying3) hsz rfl rfl h2
  have rep2 := Go.Am.one_arg Tryd.underlying3 rfl (hval 2 3 v2 rfl rfl) hk2
  obtain ⟨x3, hk3, ok3⟩ := Go.Am.fits_arg (E := E) (j := 3) (fits_int Tryd.underlying26) hsz rfl rfl h3
  have rep3 := Go.Am.one_arg Tryd.underlying26 rfl (hval 3 26 v3 rfl rfl) hk3
  obtain ⟨x4, hk4, ok4⟩ := Go.Am.fits_arg (E := E) (j := 4) (fits_int Tryd.underlying26) hsz rfl rfl h4
  have rep4 := Go.Am.one_arg Tryd.underlying26 rfl (hval 4 26 v4 rfl rfl) hk4
  clear hA0 hval0 hsz0 hsz
  have e := turns_law x0.1 x0.2.1 x1.1 x2.1 x3.1 x4.1 ok0_h0 ok0_h1 ok1 ok2 ok3 ok4
  have hargs' : Go.Am.Reps E (allOf W) noPl (puts junctionlaw6_SafetyTurns.i (x0, x1.1, x2.1, x3.1, x4.1, ())) #[v0, v1, v2, v3, v4].toList := (Go.Am.Reps.cons rep0 (Go.Am.Reps.cons rep1 (Go.Am.Reps.cons rep2 (Go.Am.Reps.cons rep3 (Go.Am.Reps.cons rep4 Go.Am.Reps.nil)))))
  refine (junctionlaw6_SafetyTurns.call (x0.2.1.length + 100000) (x0, x1.1, x2.1, x3.1, x4.1, ()) (true, ()) (by unfold junctionlaw6_SafetyTurns.f; exact e) W (allOf W) #[v0, v1, v2, v3, v4] rel_start (tabs hL) hargs').mono fun e' W' ⟨u, F', φ', he, _, hu, hm⟩ => ?_
  subst he
  obtain rfl := val_inv (show Rep E F' φ' (.val (.bool true)) u from hu)
  have bel := mv_below hm
  exact ⟨_, rfl, _, _, _, [], _, [], hW', trodAll_mk1 (shut_bool Tryd.underlying4 _), (trodAll_cons_mk (Below.trod laidOut (by kernel_rfl) (of_decide_eq_true (by kernel_rfl)) k0 bel lt0) (trodAll_cons_mk (Below.trod laidOut (by kernel_rfl) (of_decide_eq_true (by kernel_rfl)) k1 bel lt1) (trodAll_cons_mk (Below.trod laidOut (by kernel_rfl) (of_decide_eq_true (by kernel_rfl)) k2 bel lt2) (trodAll_cons_mk (Below.trod laidOut (by kernel_rfl) (of_decide_eq_true (by kernel_rfl)) k3 bel lt3) (trodAll_cons_mk (Below.trod laidOut (by kernel_rfl) (of_decide_eq_true (by kernel_rfl)) k4 bel lt4) trodAll_mk0))))), rfl, bel.frame _, fun h => by cases h⟩
theorem row_holds : Rows.SafetyTurnsSaid :=
  OpenClaim.holds_of_wide 4 Tryd.f4 rfl rfl rfl rfl rfl rfl rfl ⟨rfl, rfl, rfl, rfl, rfl⟩ rfl rfl rfl rfl rfl (by kernel_rfl) Tryd.func4 (by kernel_rfl)
    (of_decide_eq_true (by kernel_rfl)) (by unfold Func.isWrapper; first | (rw [if_pos (by decide +kernel)]; kernel_rfl) | (rw [if_neg (by decide +kernel)]; exact ⟨rfl, rfl⟩))
    (fun os started H enc _ => lifted os started H enc)
theorem card_holds : Rows.SafetyTurnsCardSaid :=
  Claim7.holds_tied_plain_at .later [] [.data] true (true, "c48a84012fa8945c37cce53eefcde15a9106fc822f26c8fe5663a14b1e2124bf") false
    row_holds (fun _ h => by cases h) (by kernel_rfl) (fun _ h => by cases h) safetyTurns_row_tie rfl ⟨rfl, rfl⟩ (by kernel_rfl) rfl
    (fun f fn hf hfn => by
      obtain rfl : f = 4 := Option.some.inj ((show Tryd.prog.funcNamed "junction/junctionlaw6.SafetyTurns" = some 4 by kernel_rfl).symm.trans hf) |>.symm
      obtain rfl : fn = Tryd.f4 := (Option.some.inj (Tryd.func4.symm.trans hfn)).symm
      exact ⟨by kernel_rfl, fun j t ht => by
        rw [Tryd.params4] at ht
        have hm : t ∈ [25, 3, 3, 26, 26] := by simpa using Array.mem_of_getElem? ht
        have hall : ([25, 3, 3, 26, 26].all fun u => !Tryd.prog.wantsStandIn u) = true := by kernel_rfl
        exact (show Tryd.prog.wantsStandIn t = false by simpa using List.all_eq_true.1 hall t hm)⟩)
    (by kernel_rfl)
end Go.Proofs.YtdgempbldhdihaaDoor.safetyTurns
namespace Go.Proofs.YtdgempbldhdihaaDoor
theorem safetyTurns_holds : Rows.SafetyTurnsCardSaid := safetyTurns.card_holds
end Go.Proofs.YtdgempbldhdihaaDoor
