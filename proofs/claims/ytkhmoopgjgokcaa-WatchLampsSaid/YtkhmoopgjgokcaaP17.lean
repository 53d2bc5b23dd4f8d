-- Written by a program of this work's (wip/tools/px.py over the seat's translation); Lean checks it.
import Derived.Test.YtkhmoopgjgokcaaP0
import Derived.Test.YtkhmoopgjgokcaaP15
import Derived.Test.YtkhmoopgjgokcaaLampsRef
namespace Go.Proofs.Ytkhmoopgjgokcaa.P
open Go.RowKit Go.Proofs.YtkhmoopgjgokcaaW.PrintWords Go.Proofs.YtkhmoopgjgokcaaW.PrintLast Go.Proofs.YtkhmoopgjgokcaaW.PrintMore
attribute [local go_sem] max2_int min2_int max_two min_two max_three min_three max_four min_four   -- for this text's walks alone
set_option linter.unusedVariables false
set_option linter.unusedSimpArgs false

/-! ### junctionlaw15_WatchLamps: function 3 -/
def junctionlaw15_WatchLamps.f (a0 : ByteArray) (a1 : Bool) (a2 : Int) : Option (Bool) := (watch_Lamps.f a0 a1 a2).bind fun t106 => ((junctionref15_Lamps.f a0 a1 a2).bind fun t107 => (some (t106.toList == t107.toList)))
set_option maxHeartbeats 8000000 in
set_option maxRecDepth 100000 in
theorem junctionlaw15_WatchLamps.calls (a0 : ByteArray) (a1 : Bool) (a2 : Int) (r : Bool) (w : World) (h : junctionlaw15_WatchLamps.f a0 a1 a2 = some r) :
    Calls Try.prog 3 #[.string a0, .bool a1, .int .i64 a2] w fun e w' => e = .returned (.bool r) ∧ Below w.heap.size w w' := by
  have HB := Aside0.mk (Below.refl w.heap.size w)
  have H : ((watch_Lamps.f a0 a1 a2).bind fun t106 => ((junctionref15_Lamps.f a0 a1 a2).bind fun t107 => (some (t106.toList == t107.toList)))) = some r := h
  clear h
  replace H := Option.bind_eq_some_iff.mp H
  obtain ⟨t106, A40, H⟩ := H
  replace H : ((junctionref15_Lamps.f a0 a1 a2).bind fun t107 => (some (t106.toList == t107.toList))) = some r := H
  have A4 := Aside0.mk A40
  clear A40
  replace H := Option.bind_eq_some_iff.mp H
  obtain ⟨t107, A50, H⟩ := H
  replace H : (some (t106.toList == t107.toList)) = some r := H
  have A5 := Aside0.mk A50
  clear A50
  obtain rfl := Option.some.inj H
  go_enter Try.func3, Try.ntmps3
  go_wp2_with (first | ((with_reducible refine gate_callee (f := 10) rfl ?_); refine goesL_ (some 10) rfl rfl Try.func10 (by kernel_rfl) rfl #[.string a0, .bool a1, .int .i64 a2] rfl (by (try simp only [List.map_toArray, List.map_cons, List.map_nil]); first | done | rfl | (simp only [List.length_drop, List.length_take]; rfl)) ?_; (with_reducible refine (watch_Lamps.calls a0 a1 a2 t106 _ A4.out).mono ?_); rintro e w6 ⟨rfl, hb⟩; refine ⟨_, rfl, ?_⟩; have n0_ := Aside0.mk (below_step (by repeat (first | (with_reducible first | exact HB.out | apply below_alloc | apply pw_below_drewN | apply below_drew1) | exact HB.out)) hb); clear HB; have HB := n0_; clear n0_; (try clear hb); (try clear hb2); (try clear hk); (try clear hi)) | ((with_reducible refine gate_callee (f := 11) rfl ?_); refine goesL_ (some 14) rfl rfl Try.func11 (by kernel_rfl) rfl #[.string a0, .bool a1, .int .i64 a2] rfl (by (try simp only [List.map_toArray, List.map_cons, List.map_nil]); first | done | rfl | (simp only [List.length_drop, List.length_take]; rfl)) ?_; (with_reducible refine (junctionref15_Lamps.calls a0 a1 a2 t107 _ A5.out).mono ?_); rintro e w7 ⟨rfl, hb⟩; refine ⟨_, rfl, ?_⟩; have n0_ := Aside0.mk (below_step (by repeat (first | (with_reducible first | exact HB.out | apply below_alloc | apply pw_below_drewN | apply below_drew1) | exact HB.out)) hb); clear HB; have HB := n0_; clear n0_; (try clear hb); (try clear hb2); (try clear hk); (try clear hi)))
  go_ret
  exact ⟨by first | rfl | (simp [errW_none, errW_some] <;> rfl) | (simp [*, errW_none, errW_some] <;> rfl), by repeat (first | (with_reducible first | exact HB.out | apply below_alloc | apply pw_below_drewN | apply below_drew1) | exact HB.out)⟩

/-- THE ONE PURE STATEMENT of junctionlaw15_WatchLamps: yours. -/
def junctionlaw15_WatchLamps.Pure : Prop := ∀ (a0 : ByteArray) (a1 : Bool) (a2 : Int), a0.size ≤ 140737488351232 → (Lit.int .i64 a2).wf = true → junctionlaw15_WatchLamps.f a0 a1 a2 = some true
theorem junctionlaw15_WatchLamps.walk (P : junctionlaw15_WatchLamps.Pure) (a0 : ByteArray) (a1 : Bool) (a2 : Int) (w : World) (w0 : a0.size ≤ 140737488351232) (w2 : (Lit.int .i64 a2).wf = true) :
    Calls Try.prog 3 #[.string a0, .bool a1, .int .i64 a2] w fun e w' => e = .returned (.bool true) ∧ Below w.heap.size w w' := by
  have h := P a0 a1 a2 w0 w2
  refine (junctionlaw15_WatchLamps.calls a0 a1 a2 true w h).mono ?_
  rintro e w' ⟨rfl, hd⟩
  exact ⟨rfl, hd⟩

end Go.Proofs.Ytkhmoopgjgokcaa.P
