/- Every Span, Longest and Hold of any tables and masks answers what the document answers, and what is handed in reads as it did; the table of trailing zeros is tied to the library's text. -/
import Derived.Test.YtdgempbldhdihaaDoorRows
import Derived.Test.YtdgempbldhdihaaDoorFit
import Derived.Test.YtdgempbldhdihaaDoorSpanB
import Derived.Test.YtdgempbldhdihaaDoorP30
import Derived.Test.YtdgempbldhdihaaDoorTie
import Derived.Test.YtdgempbldhdihaaDoorCards
import Derived.WalkKit
import Derived.ProofKit
import Derived.OpenShut
import Derived.ShutString
import Derived.ChangeOld
import Derived.Below
import Derived.SizedLaws
import Derived.LaidMore
import Derived.Stop.Joined
import Derived.SevenTiedAt
namespace Go.Proofs.YtdgempbldhdihaaDoor.safetySpans
open Go.ChangeShapes Go.WideShapes Go.ChangeAt Go.RowKit
open Go.ChangeMaps (open_string shut_string)
open Go.Proofs.YtdgempbldhdihaaDoorW.PrintWords Go.Proofs.YtdgempbldhdihaaDoor.P Go.Proofs.YtdgempbldhdihaaDoor.Fit
set_option linter.unusedVariables false
theorem own : ownKnob Tryd.prog.godebug = none := by kernel_rfl
theorem laidOut : laidOutB Tryd.prog = true := by kernel_rfl
theorem door_met (os : Os) (args : Array Value) : laidMetH Tryd.prog Rows.safetySpansRow.laid ((World.doorLaid Tryd.prog 400 os).forCall (fun _ _ => 0) ⟨#[], args, []⟩).memory :=
  laidMetH_of_parts3 (fuel := 8) (laidMet_of_run' 8 (by kernel_rfl) (by kernel_rfl)) (by kernel_rfl) (by kernel_rfl)
set_option maxHeartbeats 1000000 in
set_option maxRecDepth 100000 in
theorem lifted (os : Os) (started : os.Started) (H : Type) (enc : TypeId × Value → H) :
    ReturnsInHanded {} Tryd.checked os 3 .any (fun w args => (Rows.safetySpansSpec.pre enc Tryd.prog Tryd.f3 [] false w args ∧ laidMetH Tryd.prog Rows.safetySpansRow.laid w) ∧ sizedMet enc Tryd.prog Tryd.f3 (OpenSpec.ofChange Rows.safetySpansSpec) false w args) (Rows.safetySpansSpec.post enc Tryd.prog Tryd.f3 false true false false) := by
  refine returnsInHanded_of_change_and (C := Tryd.checked) (X := fun w _ => laidMetH Tryd.prog Rows.safetySpansRow.laid w) (fun _ _ _ hh h => h.of_heap hh) own started (by kernel_rfl) Tryd.func3
    (ChangeSpec.witness_shaped (enc := enc) (C := Tryd.checked) (os := os) (X := fun w _ => laidMetH Tryd.prog Rows.safetySpansRow.laid w) false (World.doorLaid Tryd.prog 400 os) #[.agg #[.slice none 0 0, .slice none 0 0], .int .u64 0, .int .u64 0] 8 rfl (World.shaped_of_RefB (by kernel_rfl) (by kernel_rfl)) (by kernel_rfl) (by kernel_rfl) (by kernel_rfl) (door_met os _)) ?_
  intro W base args ds gs before hval0 hW hcnd hsz0 hL _
  have hsz : (DataW.weightsEach Tryd.prog (Tryd.f3.params.toList ++ Rows.safetySpansSpec.plain.varTypes Tryd.prog) (ds ++ gs)).all (· ≤ reachBytes) = true := hsz0
  have hval : ∀ (j : Nat) t v, Tryd.f3.params[j]? = some t → args[j]? = some v → Value.okWide Tryd.prog W .any base t v := hval0
  have hW' := hW
  obtain ⟨p, q, hA0, hV, rfl, hfz, hnd⟩ := hW
  have hA : DataW.TrodAll enc Tryd.prog W 0 (fun _ => true) true Tryd.f3.params.toList args.toList ds p := hA0
  rw [Tryd.params3] at hA hval hsz
  obtain ⟨v0, vs0, d0, ds0, p0, q0, hargs, rfl, rfl, h0, r0⟩ := trodAll_cons hA
  obtain ⟨v1, vs1, d1, ds1, p1, q1, rfl, rfl, rfl, h1, r1⟩ := trodAll_cons r0
  obtain ⟨v2, vs2, d2, ds2, p2, q2, rfl, rfl, rfl, h2, r2⟩ := trodAll_cons r1
  obtain ⟨rfl, rfl, rfl⟩ := trodAll_nil r2
  obtain rfl : args = #[v0, v1, v2] := by cases args; simp_all
  obtain ⟨rfl, rfl⟩ := trodVars_none hV
  have k0 := h0
  have lt0 : ∀ x ∈ p0, x.block < W.heap.size := by obtain ⟨m, hm⟩ := k0; exact DataW.trod_lt m _ _ _ hm
  have k1 := h1
  have lt1 : ∀ x ∈ p1, x.block < W.heap.size := by obtain ⟨m, hm⟩ := k1; exact DataW.trod_lt m _ _ _ hm
  have k2 := h2
  have lt2 : ∀ x ∈ p2, x.block < W.heap.size := by obtain ⟨m, hm⟩ := k2; exact DataW.trod_lt m _ _ _ hm
  obtain ⟨x0, hk0, ok0⟩ := Open.fits_arg (j := 0) (Open.fits_struct Tryd.underlying25 (by kernel_rfl) (Open.fitsF_cons rfl (Open.fits_slice Tryd.underlying22 fits42 (by kernel_rfl) (by kernel_rfl : Tryd.prog.bytesOf 42 = 48)) (by kernel_rfl) (Open.fitsF_one rfl (Open.fits_slice Tryd.underlying23 fits47 (by kernel_rfl) (by kernel_rfl : Tryd.prog.bytesOf 47 = 32)) (by kernel_rfl)))) hsz rfl rfl h0
  obtain ⟨cs0, rfl, hk0⟩ := Open.struct_arg Tryd.underlying25 (hval 0 25 v0 rfl rfl) hk0
  obtain ⟨_, _, rfl, ⟨A0_0, c0_0, rfl, l0_0, g0_0⟩, ⟨A0_1, c0_1, rfl, l0_1, g0_1⟩⟩ := hk0
  obtain ⟨x1, hk1, ok1⟩ := Open.fits_arg (j := 1) (Open.fits_int Tryd.underlying26) hsz rfl rfl h1
  obtain ⟨a1, rfl, _⟩ := open_int Tryd.underlying26 (hval 1 26 v1 rfl rfl) h1
  obtain rfl : x1 = a1 := by simpa [Kd.int, Kd.bool, Kd.string, Kd.scalar, Value.cells, eq_comm] using hk1
  obtain ⟨x2, hk2, ok2⟩ := Open.fits_arg (j := 2) (Open.fits_int Tryd.underlying26) hsz rfl rfl h2
  obtain ⟨a2, rfl, _⟩ := open_int Tryd.underlying26 (hval 2 26 v2 rfl rfl) h2
  obtain rfl : x2 = a2 := by simpa [Kd.int, Kd.bool, Kd.string, Kd.scalar, Value.cells, eq_comm] using hk2
  clear hA0 hval0 hsz0 hsz
  obtain ⟨kq, e⟩ := Marks.spans x0.1 x0.2 x1 x2 ok0 ok1 ok2
  refine (P.spans_calls kq A0_0 c0_0 x0.1 A0_1 c0_1 x0.2 x1 x2 true W g0_0 l0_0 g0_1 l0_1 (P.tab_of hL) e).mono fun e W' ⟨he, bel⟩ => ?_
  subst he
  exact ⟨_, rfl, _, _, _, [], _, [], hW', trodAll_mk1 (shut_bool Tryd.underlying4 _), (trodAll_cons_mk (Below.trod laidOut (by kernel_rfl) (of_decide_eq_true (by kernel_rfl)) k0 bel lt0) (trodAll_cons_mk (Below.trod laidOut (by kernel_rfl) (of_decide_eq_true (by kernel_rfl)) k1 bel lt1) (trodAll_cons_mk (Below.trod laidOut (by kernel_rfl) (of_decide_eq_true (by kernel_rfl)) k2 bel lt2) trodAll_mk0))), rfl, bel.frame _, fun h => by cases h⟩
theorem row_holds : Rows.SafetySpansSaid :=
  OpenClaim.holds_of_wide 3 Tryd.f3 rfl rfl rfl rfl rfl rfl rfl ⟨rfl, rfl, rfl, rfl, rfl⟩ rfl rfl rfl rfl rfl (by kernel_rfl) Tryd.func3 (by kernel_rfl)
    (of_decide_eq_true (by kernel_rfl)) (by unfold Func.isWrapper; first | (rw [if_pos (by decide +kernel)]; kernel_rfl) | (rw [if_neg (by decide +kernel)]; exact ⟨rfl, rfl⟩))
    (fun os started H enc _ => lifted os started H enc)
theorem card_holds : Rows.SafetySpansCardSaid :=
  Claim7.holds_tied_plain_at .later [] [.data] true (true, "c48a84012fa8945c37cce53eefcde15a9106fc822f26c8fe5663a14b1e2124bf") false
    row_holds (fun _ h => by cases h) (by kernel_rfl) (fun _ h => by cases h) safetySpans_row_tie rfl ⟨rfl, rfl⟩ (by kernel_rfl) rfl
    (fun f fn hf hfn => by
      obtain rfl : f = 3 := Option.some.inj ((show Tryd.prog.funcNamed "junction/junctionlaw6.SafetySpans" = some 3 by kernel_rfl).symm.trans hf) |>.symm
      obtain rfl : fn = Tryd.f3 := (Option.some.inj (Tryd.func3.symm.trans hfn)).symm
      exact ⟨by kernel_rfl, fun j t ht => by
        rw [Tryd.params3] at ht
        have hm : t ∈ [25, 26, 26] := by simpa using Array.mem_of_getElem? ht
        have hall : ([25, 26, 26].all fun u => !Tryd.prog.wantsStandIn u) = true := by kernel_rfl
        exact (show Tryd.prog.wantsStandIn t = false by simpa using List.all_eq_true.1 hall t hm)⟩)
    (by kernel_rfl)
end Go.Proofs.YtdgempbldhdihaaDoor.safetySpans
namespace Go.Proofs.YtdgempbldhdihaaDoor
/-- The law's statement. -/
theorem safetySpans_holds : Rows.SafetySpansCardSaid := safetySpans.card_holds
#print axioms safetySpans_holds
end Go.Proofs.YtdgempbldhdihaaDoor
