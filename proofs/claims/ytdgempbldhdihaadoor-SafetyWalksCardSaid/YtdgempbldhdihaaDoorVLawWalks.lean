/- The statement SafetyWalks of every input. -/
import Derived.Test.YtdgempbldhdihaaDoorRows
import Derived.Test.YtdgempbldhdihaaDoorTie
import Derived.Test.YtdgempbldhdihaaDoorCards
import Derived.Test.YtdgempbldhdihaaDoorVWb
import Derived.Test.YtdgempbldhdihaaDoorVFitsTryd
import Derived.Test.YtdgempbldhdihaaDoorVAm20
import Derived.WalkKit
import Derived.ProofKit
import Derived.OpenShut
import Derived.ShutString
import Derived.ChangeOld
import Derived.Below
import Derived.SizedLaws
import Derived.LaidMore
import Derived.Stop.Joined
import Derived.SevenTiedAt
namespace Go.Proofs.YtdgempbldhdihaaDoor.safetyWalks
open Go.ChangeShapes Go.WideShapes Go.ChangeAt Go.RowKit
open Go.ChangeMaps (open_string shut_string)
open Go.Am Go.Am.Tryd
set_option linter.unusedVariables false
theorem own : ownKnob Tryd.prog.godebug = none := by kernel_rfl
theorem laidOut : laidOutB Tryd.prog = true := by kernel_rfl
theorem door_met (os : Os) (args : Array Value) : laidMetH Tryd.prog Rows.safetyWalksRow.laid ((World.doorLaid Tryd.prog 400 os).forCall (fun _ _ => 0) ⟨#[], args, []⟩).memory :=
  laidMetH_of_parts3 (fuel := 8) (laidMet_of_run' 8 (by kernel_rfl) (by kernel_rfl)) (by kernel_rfl) (by kernel_rfl)
set_option maxRecDepth 1000000 in
theorem tabs {W : World} (h : laidMetH Tryd.prog Rows.safetyWalksRow.laid W) : GlobOk E glob (allOf W) := by
  rw [MakeChecks.laidMetH_plain _ _ _ (by kernel_rfl)] at h
  obtain ⟨ps, hl, _⟩ := h
  obtain ⟨g0, t0, cs0, f0, p0, q0, hg0, ht0, hv0, hd0, hl, _⟩ := hl
  obtain ⟨g1, t1, cs1, f1, p1, q1, hg1, ht1, hv1, hd1, hl, _⟩ := hl
  obtain ⟨g2, t2, cs2, f2, p2, q2, hg2, ht2, hv2, hd2, hl, _⟩ := hl
  obtain ⟨g3, t3, cs3, f3, p3, q3, hg3, ht3, hv3, hd3, hl, _⟩ := hl
  obtain ⟨g4, t4, cs4, f4, p4, q4, hg4, ht4, hv4, hd4, hl, _⟩ := hl
  obtain rfl := Option.some.inj ((show Tryd.prog.globalNamed "junction/junctionref2.words" = some 2 by kernel_rfl).symm.trans hg0)
  obtain rfl := Option.some.inj ((show (Tryd.prog.globals[2]?).map (·.type) = some 170 by kernel_rfl).symm.trans ht0)
  obtain rfl := Option.some.inj ((show Tryd.prog.globalNamed "junction/junctionref2.signs" = some 3 by kernel_rfl).symm.trans hg1)
  obtain rfl := Option.some.inj ((show (Tryd.prog.globals[3]?).map (·.type) = some 171 by kernel_rfl).symm.trans ht1)
  obtain rfl := Option.some.inj ((show Tryd.prog.globalNamed "junction/arith.operands" = some 6 by kernel_rfl).symm.trans hg2)
  obtain rfl := Option.some.inj ((show (Tryd.prog.globals[6]?).map (·.type) = some 205 by kernel_rfl).symm.trans ht2)
  obtain rfl := Option.some.inj ((show Tryd.prog.globalNamed "junction/lex.words" = some 4 by kernel_rfl).symm.trans hg3)
  obtain rfl := Option.some.inj ((show (Tryd.prog.globals[4]?).map (·.type) = some 170 by kernel_rfl).symm.trans ht3)
  obtain rfl := Option.some.inj ((show Tryd.prog.globalNamed "junction/lex.signs" = some 5 by kernel_rfl).symm.trans hg4)
  obtain rfl := Option.some.inj ((show (Tryd.prog.globals[5]?).map (·.type) = some 171 by kernel_rfl).symm.trans ht4)
  exact globOk (tab_laid (E := E) (w := W) (k := Kc.T9) (xs := tab2) (vs := (tab2.map Value.string)) hg0 hv0 (.array Tryd.underlying170 (by kernel_rfl) (.string Tryd.underlying9)) hd0 (by kernel_rfl) (by kernel_rfl) (by kernel_rfl)) (tab_laid (E := E) (w := W) (k := Kc.T9) (xs := tab3) (vs := (tab3.map Value.string)) hg1 hv1 (.array Tryd.underlying171 (by kernel_rfl) (.string Tryd.underlying9)) hd1 (by kernel_rfl) (by kernel_rfl) (by kernel_rfl)) (tab_laid (E := E) (w := W) (k := Kc.T9) (xs := tab4) (vs := (tab4.map Value.string)) hg3 hv3 (.array Tryd.underlying170 (by kernel_rfl) (.string Tryd.underlying9)) hd3 (by kernel_rfl) (by kernel_rfl) (by kernel_rfl)) (tab_laid (E := E) (w := W) (k := Kc.T9) (xs := tab5) (vs := (tab5.map Value.string)) hg4 hv4 (.array Tryd.underlying171 (by kernel_rfl) (.string Tryd.underlying9)) hd4 (by kernel_rfl) (by kernel_rfl) (by kernel_rfl)) (tab_laid (E := E) (w := W) (k := Kc.T3) (xs := tab6) (vs := (tab6.map fun z => Value.int .i64 z)) hg2 hv2 (.array Tryd.underlying205 (by kernel_rfl) (.int Tryd.underlying3)) hd2 (by kernel_rfl) (by kernel_rfl) (by kernel_rfl))
set_option maxHeartbeats 2000000 in
set_option maxRecDepth 100000 in
theorem lifted (os : Os) (started : os.Started) (H : Type) (enc : TypeId × Value → H) :
    ReturnsInHanded {} Tryd.checked os 8 .any (fun w args => (Rows.safetyWalksSpec.pre enc Tryd.prog Tryd.f8 [] false w args ∧ laidMetH Tryd.prog Rows.safetyWalksRow.laid w) ∧ sizedMet enc Tryd.prog Tryd.f8 (OpenSpec.ofChange Rows.safetyWalksSpec) false w args) (Rows.safetyWalksSpec.post enc Tryd.prog Tryd.f8 false true false false) := by
  refine returnsInHanded_of_change_and (C := Tryd.checked) (X := fun w _ => laidMetH Tryd.prog Rows.safetyWalksRow.laid w) (fun _ _ _ hh h => h.of_heap hh) own started (by kernel_rfl) Tryd.func8
    (ChangeSpec.witness_shaped (enc := enc) (C := Tryd.checked) (os := os) (X := fun w _ => laidMetH Tryd.prog Rows.safetyWalksRow.laid w) false (World.doorLaid Tryd.prog 400 os) #[(.agg #[(.string ⟨#[]⟩), (.slice none 0 0), (.slice none 0 0), (.slice none 0 0), (.slice none 0 0), (.slice none 0 0), (.slice none 0 0), (.slice none 0 0), (.int .i64 0)]), (.slice none 0 0)] 8 rfl (World.shaped_of_RefB (by kernel_rfl) (by kernel_rfl)) (by kernel_rfl) (by kernel_rfl) (by kernel_rfl) (door_met os _)) ?_
  intro W base args ds gs before hval0 hW hcnd hsz0 hL _
  have hsz : (DataW.weightsEach Tryd.prog (Tryd.f8.params.toList ++ Rows.safetyWalksSpec.plain.varTypes Tryd.prog) (ds ++ gs)).all (· ≤ reachBytes) = true := hsz0
  have hval : ∀ (j : Nat) t v, Tryd.f8.params[j]? = some t → args[j]? = some v → Value.okWide Tryd.prog W .any base t v := hval0
  have hW' := hW
  obtain ⟨p, q, hA0, hV, rfl, hfz, hnd⟩ := hW
  have hA : DataW.TrodAll enc Tryd.prog W 0 (fun _ => true) true Tryd.f8.params.toList args.toList ds p := hA0
  rw [Tryd.params8] at hA hval hsz
  obtain ⟨v0, vs0, d0, ds0, p0, q0, hargs, rfl, rfl, h0, r0⟩ := trodAll_cons hA
  obtain ⟨v1, vs1, d1, ds1, p1, q1, rfl, rfl, rfl, h1, r1⟩ := trodAll_cons r0
  obtain ⟨rfl, rfl, rfl⟩ := trodAll_nil r1
  obtain rfl : args = #[v0, v1] := by cases args; simp_all
  obtain ⟨rfl, rfl⟩ := trodVars_none hV
  have k0 := h0
  have lt0 : ∀ x ∈ p0, x.block < W.heap.size := by obtain ⟨m, hm⟩ := k0; exact DataW.trod_lt m _ _ _ hm
  have k1 := h1
  have lt1 : ∀ x ∈ p1, x.block < W.heap.size := by obtain ⟨m, hm⟩ := k1; exact DataW.trod_lt m _ _ _ hm
  obtain ⟨x0, hk0, ok0⟩ := Go.Am.fits_arg (E := E) (j := 0) (fits_struct Tryd.underlying69 (by kernel_rfl) (fitsF_cons rfl (fits_string Tryd.underlying9) (by kernel_rfl) (fitsF_cons rfl (fits_struct Tryd.underlying25 (by kernel_rfl) (fitsF_cons rfl (fits_slice D (k := Kc.T42) encOk Tryd.underlying22 fitsT42 (by kernel_rfl) (by kernel_rfl : Tryd.prog.bytesOf 42 = 48) (fun _ => rfl)) (by kernel_rfl) (fitsF_cons rfl (fits_slice D (k := Kc.T47) encOk Tryd.underlying23 fitsT47 (by kernel_rfl) (by kernel_rfl : Tryd.prog.bytesOf 47 = 32) (fun _ => rfl)) (by kernel_rfl) fitsF_nil))) (by kernel_rfl) (fitsF_cons rfl (fits_slice D (k := Kc.T110) encOk Tryd.underlying65 fitsT110 (by kernel_rfl) (by kernel_rfl : Tryd.prog.bytesOf 110 = 40) (fun _ => rfl)) (by kernel_rfl) (fitsF_cons rfl (fits_slice D (k := Kc.T9) encOk Tryd.underlying66 fitsT9 (by kernel_rfl) (by kernel_rfl : Tryd.prog.bytesOf 9 = 16) (fun _ => rfl)) (by kernel_rfl) (fitsF_cons rfl (fits_slice D (k := Kc.T9) encOk Tryd.underlying66 fitsT9 (by kernel_rfl) (by kernel_rfl : Tryd.prog.bytesOf 9 = 16) (fun _ => rfl)) (by kernel_rfl) (fitsF_cons rfl (fits_slice D (k := Kc.T112) encOk Tryd.underlying67 fitsT112 (by kernel_rfl) (by kernel_rfl : Tryd.prog.bytesOf 112 = 24) (fun _ => rfl)) (by kernel_rfl) (fitsF_cons rfl (fits_slice D (k := Kc.T98) encOk Tryd.underlying27 fitsT98 (by kernel_rfl) (by kernel_rfl : Tryd.prog.bytesOf 98 = 128) (fun _ => rfl)) (by kernel_rfl) (fitsF_cons rfl (fits_int Tryd.underlying3) (by kernel_rfl) fitsF_nil))))))))) hsz rfl rfl h0
  have rep0 := Go.Am.struct_arg Tryd.underlying69 (hval 0 69 v0 rfl rfl) hk0
  obtain ⟨ok0_h0, ⟨ok0_h1, ok0_h2, _⟩, ok0_h3, ok0_h4, ok0_h5, ok0_h6, ok0_h7, ok0_h8, _⟩ := ok0
  obtain ⟨x1, hk1, ok1⟩ := Go.Am.fits_arg (E := E) (j := 1) (fits_slice D (k := Kc.T4) encOk Tryd.underlying72 fitsT4 (by kernel_rfl) (by kernel_rfl : Tryd.prog.bytesOf 4 = 1) (fun _ => rfl)) hsz rfl rfl h1
  have rep1 := Go.Am.one_arg Tryd.underlying72 rfl (hval 1 72 v1 rfl rfl) hk1
  clear hA0 hval0 hsz0 hsz
  obtain ⟨KK, e⟩ := walks_law x0.1 x0.2.1 x0.2.2.1 x0.2.2.2.1 x0.2.2.2.2.1 x0.2.2.2.2.2.1 x0.2.2.2.2.2.2.1 x0.2.2.2.2.2.2.2.1 x0.2.2.2.2.2.2.2.2.1 x1.1 ok0_h0 ok0_h1 ok0_h2 ok0_h3 ok0_h4 ok0_h5 ok0_h6 ok0_h7 ok0_h8 ok1
  have hargs' : Go.Am.Reps E (allOf W) noPl (puts junctionlaw6_SafetyWalks.i (x0, x1.1, ())) #[v0, v1].toList := (Go.Am.Reps.cons rep0 (Go.Am.Reps.cons rep1 Go.Am.Reps.nil))
  refine (junctionlaw6_SafetyWalks.call KK (x0, x1.1, ()) (true, ()) (by unfold junctionlaw6_SafetyWalks.f; exact e) W (allOf W) #[v0, v1] rel_start (tabs hL) hargs').mono fun e' W' ⟨u, F', φ', he, _, hu, hm⟩ => ?_
  subst he
  obtain rfl := val_inv (show Rep E F' φ' (.val (.bool true)) u from hu)
  have bel := mv_below hm
  exact ⟨_, rfl, _, _, _, [], _, [], hW', trodAll_mk1 (shut_bool Tryd.underlying4 _), (trodAll_cons_mk (Below.trod laidOut (by kernel_rfl) (of_decide_eq_true (by kernel_rfl)) k0 bel lt0) (trodAll_cons_mk (Below.trod laidOut (by kernel_rfl) (of_decide_eq_true (by kernel_rfl)) k1 bel lt1) trodAll_mk0)), rfl, bel.frame _, fun h => by cases h⟩
theorem row_holds : Rows.SafetyWalksSaid :=
  OpenClaim.holds_of_wide 8 Tryd.f8 rfl rfl rfl rfl rfl rfl rfl ⟨rfl, rfl, rfl, rfl, rfl⟩ rfl rfl rfl rfl rfl (by kernel_rfl) Tryd.func8 (by kernel_rfl)
    (of_decide_eq_true (by kernel_rfl)) (by unfold Func.isWrapper; first | (rw [if_pos (by decide +kernel)]; kernel_rfl) | (rw [if_neg (by decide +kernel)]; exact ⟨rfl, rfl⟩))
    (fun os started H enc _ => lifted os started H enc)
theorem card_holds : Rows.SafetyWalksCardSaid :=
  Claim7.holds_tied_plain_at .later [] [.data, .data, .data, .data, .data] true (true, "c48a84012fa8945c37cce53eefcde15a9106fc822f26c8fe5663a14b1e2124bf") false
    row_holds (fun _ h => by cases h) (by kernel_rfl) (fun _ h => by cases h) safetyWalks_row_tie rfl ⟨rfl, rfl⟩ (by kernel_rfl) rfl
    (fun f fn hf hfn => by
      obtain rfl : f = 8 := Option.some.inj ((show Tryd.prog.funcNamed "junction/junctionlaw6.SafetyWalks" = some 8 by kernel_rfl).symm.trans hf) |>.symm
      obtain rfl : fn = Tryd.f8 := (Option.some.inj (Tryd.func8.symm.trans hfn)).symm
      exact ⟨by kernel_rfl, fun j t ht => by
        rw [Tryd.params8] at ht
        have hm : t ∈ [69, 72] := by simpa using Array.mem_of_getElem? ht
        have hall : ([69, 72].all fun u => !Tryd.prog.wantsStandIn u) = true := by kernel_rfl
        exact (show Tryd.prog.wantsStandIn t = false by simpa using List.all_eq_true.1 hall t hm)⟩)
    (by kernel_rfl)
end Go.Proofs.YtdgempbldhdihaaDoor.safetyWalks
namespace Go.Proofs.YtdgempbldhdihaaDoor
theorem safetyWalks_holds : Rows.SafetyWalksCardSaid := safetyWalks.card_holds
end Go.Proofs.YtdgempbldhdihaaDoor
