/- Every Inter, of any tables: the intergreen out of the map of pairs is the one of the first row that names both groups; what is handed in stays as it was. -/
import Derived.Test.YtdgempbldhdihaaRows
import Derived.Test.YtdgempbldhdihaaFit
import Derived.Test.YtdgempbldhdihaaInters
import Derived.Test.YtdgempbldhdihaaP15
import Derived.WalkKit
import Derived.ProofKit
import Derived.OpenShut
import Derived.ShutString
import Derived.ChangeOld
import Derived.Below
import Derived.SizedLaws
namespace Go.Proofs.Ytdgempbldhdihaa.safetyInters
open Go.ChangeShapes Go.WideShapes Go.ChangeAt Go.RowKit
open Go.ChangeMaps (open_string shut_string)
open Go.Proofs.YtdgempbldhdihaaW.PrintWords Go.Proofs.Ytdgempbldhdihaa.P Go.Proofs.Ytdgempbldhdihaa.Fit
set_option linter.unusedVariables false
theorem own : ownKnob Try.prog.godebug = none := by kernel_rfl
theorem laidOut : laidOutB Try.prog = true := by kernel_rfl
set_option maxHeartbeats 1000000 in
set_option maxRecDepth 100000 in
theorem lifted (os : Os) (started : os.Started) (H : Type) (enc : TypeId × Value → H) :
    ReturnsInHanded {} Try.checked os 4 .any (Rows.safetyIntersSpec.pre6 enc Try.prog Try.f4 Rows.safetyIntersRow.domain false) (Rows.safetyIntersSpec.post enc Try.prog Try.f4 false true false false) := by
  refine returnsInHanded_of_change_sized (C := Try.checked) own started (by kernel_rfl) Try.func4
    (ChangeSpec.witness6 (enc := enc) (C := Try.checked) false ⟨#[], #[.agg #[.slice none 0 0, .slice none 0 0], .int .i64 0, .int .i64 0], []⟩ 8 (by kernel_rfl) (by kernel_rfl) (by kernel_rfl) (by kernel_rfl)) ?_
  intro W base args ds gs before hval0 hW hcnd hsz0 _
  have hsz : (DataW.weightsEach Try.prog (Try.f4.params.toList ++ Rows.safetyIntersSpec.plain.varTypes Try.prog) (ds ++ gs)).all (· ≤ reachBytes) = true := hsz0
  have hval : ∀ (j : Nat) t v, Try.f4.params[j]? = some t → args[j]? = some v → Value.okWide Try.prog W .any base t v := hval0
  have hW' := hW
  obtain ⟨p, q, hA0, hV, rfl, hfz, hnd⟩ := hW
  have hA : DataW.TrodAll enc Try.prog W 0 (fun _ => true) true Try.f4.params.toList args.toList ds p := hA0
  rw [Try.params4] at hA hval hsz
  obtain ⟨v0, vs0, d0, ds0, p0, q0, hargs, rfl, rfl, h0, r0⟩ := trodAll_cons hA
  obtain ⟨v1, vs1, d1, ds1, p1, q1, rfl, rfl, rfl, h1, r1⟩ := trodAll_cons r0
  obtain ⟨v2, vs2, d2, ds2, p2, q2, rfl, rfl, rfl, h2, r2⟩ := trodAll_cons r1
  obtain ⟨rfl, rfl, rfl⟩ := trodAll_nil r2
  obtain rfl : args = #[v0, v1, v2] := by cases args; simp_all
  obtain ⟨rfl, rfl⟩ := trodVars_none hV
  have k0 := h0
  have lt0 : ∀ x ∈ p0, x.block < W.heap.size := by obtain ⟨m, hm⟩ := k0; exact DataW.trod_lt m _ _ _ hm
  have k1 := h1
  have lt1 : ∀ x ∈ p1, x.block < W.heap.size := by obtain ⟨m, hm⟩ := k1; exact DataW.trod_lt m _ _ _ hm
  have k2 := h2
  have lt2 : ∀ x ∈ p2, x.block < W.heap.size := by obtain ⟨m, hm⟩ := k2; exact DataW.trod_lt m _ _ _ hm
  obtain ⟨x0, hk0, ok0⟩ := Open.fits_arg (j := 0) (Open.fits_struct Try.underlying25 (by kernel_rfl) (Open.fitsF_cons rfl (Open.fits_slice Try.underlying22 fits43 (by kernel_rfl) (by kernel_rfl : Try.prog.bytesOf 43 = 48)) (by kernel_rfl) (Open.fitsF_one rfl (Open.fits_slice Try.underlying23 fits45 (by kernel_rfl) (by kernel_rfl : Try.prog.bytesOf 45 = 32)) (by kernel_rfl)))) hsz rfl rfl h0
  obtain ⟨cs0, rfl, hk0⟩ := Open.struct_arg Try.underlying25 (hval 0 25 v0 rfl rfl) hk0
  obtain ⟨_, _, rfl, ⟨A0_0, c0_0, rfl, l0_0, g0_0⟩, ⟨A0_1, c0_1, rfl, l0_1, g0_1⟩⟩ := hk0
  obtain ⟨x1, hk1, ok1⟩ := Open.fits_arg (j := 1) (Open.fits_int Try.underlying3) hsz rfl rfl h1
  obtain ⟨a1, rfl, _⟩ := open_int Try.underlying3 (hval 1 3 v1 rfl rfl) h1
  obtain rfl : x1 = a1 := by simpa [Kd.int, Kd.bool, Kd.string, Kd.scalar, Value.cells, eq_comm] using hk1
  obtain ⟨x2, hk2, ok2⟩ := Open.fits_arg (j := 2) (Open.fits_int Try.underlying3) hsz rfl rfl h2
  obtain ⟨a2, rfl, _⟩ := open_int Try.underlying3 (hval 2 3 v2 rfl rfl) h2
  obtain rfl : x2 = a2 := by simpa [Kd.int, Kd.bool, Kd.string, Kd.scalar, Value.cells, eq_comm] using hk2
  clear hA0 hval0 hsz0 hsz
  obtain ⟨kq, e⟩ := Marks.inters x0.1 x0.2 x1 x2 ok0 ok1 ok2
  refine (P.junctionlaw6_SafetyInters.calls kq A0_0 c0_0 x0.1 A0_1 c0_1 x0.2 x1 x2 true W g0_0 l0_0 g0_1 l0_1 e).mono fun e W' ⟨he, bel⟩ => ?_
  subst he
  exact ⟨_, rfl, _, _, _, [], _, [], hW', trodAll_mk1 (shut_bool Try.underlying4 _), (trodAll_cons_mk (Below.trod laidOut (by kernel_rfl) (of_decide_eq_true (by kernel_rfl)) k0 bel lt0) (trodAll_cons_mk (Below.trod laidOut (by kernel_rfl) (of_decide_eq_true (by kernel_rfl)) k1 bel lt1) (trodAll_cons_mk (Below.trod laidOut (by kernel_rfl) (of_decide_eq_true (by kernel_rfl)) k2 bel lt2) trodAll_mk0))), rfl, bel.frame _, fun h => by cases h⟩
theorem row_holds : Rows.SafetyIntersSaid :=
  OpenClaim.holds_of_wide 4 Try.f4 rfl rfl rfl rfl rfl rfl rfl ⟨rfl, rfl, rfl, rfl, rfl⟩ rfl rfl rfl rfl rfl (by kernel_rfl) Try.func4 (by kernel_rfl)
    (of_decide_eq_true (by kernel_rfl)) (by unfold Func.isWrapper; first | (rw [if_pos (by decide +kernel)]; kernel_rfl) | (rw [if_neg (by decide +kernel)]; exact ⟨rfl, rfl⟩))
    (fun os started H enc _ => lifted os started H enc)
end Go.Proofs.Ytdgempbldhdihaa.safetyInters
namespace Go.Proofs.Ytdgempbldhdihaa
/-- The law's statement. -/
theorem safetyInters_holds : Rows.SafetyIntersSaid := safetyInters.row_holds
#print axioms safetyInters_holds
end Go.Proofs.Ytdgempbldhdihaa
