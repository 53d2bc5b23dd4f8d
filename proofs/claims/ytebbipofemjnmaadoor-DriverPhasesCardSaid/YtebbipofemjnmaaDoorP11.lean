-- Written by a program of this work's (wip/tools/px.py over the seat's translation); Lean checks it.
import Derived.Test.YtebbipofemjnmaaDoorP0
import Derived.Test.YtebbipofemjnmaaDoorP7
import Derived.Test.YtebbipofemjnmaaDoorP8
import Derived.Test.YtebbipofemjnmaaDoorP9
import Derived.Test.YtebbipofemjnmaaDoorP10
namespace Go.Proofs.YtebbipofemjnmaaDoor.P
open Go.RowKit Go.Proofs.YtebbipofemjnmaaDoorW.PrintWords Go.Proofs.YtebbipofemjnmaaDoorW.PrintLast Go.Proofs.YtebbipofemjnmaaDoorW.PrintMore
attribute [local go_sem] max2_int min2_int max_two min_two max_three min_three max_four min_four   -- for this text's walks alone
set_option linter.unusedVariables false
set_option linter.unusedSimpArgs false

/-! ### junctionref14_saying: function 20 -/
def junctionref14_saying.f (a0 : Int) : Option (ByteArray × Bool) := if a0 < 60 then ((junctionref14_saying1.f a0).bind fun bt106 => (some (bt106.1, bt106.2))) else (if a0 < 110 then ((junctionref14_saying2.f a0).bind fun bt108 => (some (bt108.1, bt108.2))) else (if a0 < 160 then ((junctionref14_saying3.f a0).bind fun bt110 => (some (bt110.1, bt110.2))) else ((junctionref14_saying4.f a0).bind fun bt112 => (some (bt112.1, bt112.2)))))
set_option maxHeartbeats 8000000 in
set_option maxRecDepth 100000 in
theorem junctionref14_saying.calls (a0 : Int) (r1 : ByteArray) (r2 : Bool) (w : World) (h : junctionref14_saying.f a0 = some (r1, r2)) :
    Calls Tryd.prog 20 #[.int .i64 a0] w fun e w' => e = .returned (.tuple #[.string r1, .bool r2]) ∧ Drawn0 w w' := by
  have H : (if a0 < 60 then ((junctionref14_saying1.f a0).bind fun bt106 => (some (bt106.1, bt106.2))) else (if a0 < 110 then ((junctionref14_saying2.f a0).bind fun bt108 => (some (bt108.1, bt108.2))) else (if a0 < 160 then ((junctionref14_saying3.f a0).bind fun bt110 => (some (bt110.1, bt110.2))) else ((junctionref14_saying4.f a0).bind fun bt112 => (some (bt112.1, bt112.2)))))) = some (r1, r2) := h
  clear h
  by_cases c2 : a0 < 60
  · rw [if_pos c2] at H
    have c2b0 : decide (a0 < 60) = true := decide_eq_true c2
    clear c2
    replace H := Option.bind_eq_some_iff.mp H
    obtain ⟨⟨t106, t107⟩, A30, H⟩ := H
    replace H : (some (t106, t107)) = some (r1, r2) := H
    have A3 := Aside0.mk A30
    clear A30
    simp only [Option.some.injEq, Prod.mk.injEq] at H
    obtain ⟨rfl, rfl⟩ := H
    go_enter Tryd.func20, Tryd.ntmps20
    go_wp2_with (first | ((with_reducible refine gate_callee (f := 35) rfl ?_); refine goesL_ (some 8) rfl rfl Tryd.func35 (by kernel_rfl) rfl #[.int .i64 a0] rfl (by (try simp only [List.map_toArray, List.map_cons, List.map_nil]); first | done | rfl | (simp only [List.length_drop, List.length_take]; rfl)) ?_; (with_reducible refine (junctionref14_saying1.calls a0 t106 t107 _ A3.out).mono ?_); rintro e w' ⟨rfl, ⟨nd, rfl⟩⟩; refine ⟨_, rfl, ?_⟩))
    go_ret2
    exact ⟨by first | rfl | (simp; done) | (simp [*]; done), by repeat (first | exact Drawn0.refl _ | apply Drawn0.step)⟩
  · rw [if_neg c2] at H
    have c2b0 : decide (a0 < 60) = false := decide_eq_false c2
    clear c2
    by_cases c4 : a0 < 110
    · rw [if_pos c4] at H
      have c4b0 : decide (a0 < 110) = true := decide_eq_true c4
      clear c4
      replace H := Option.bind_eq_some_iff.mp H
      obtain ⟨⟨t108, t109⟩, A50, H⟩ := H
      replace H : (some (t108, t109)) = some (r1, r2) := H
      have A5 := Aside0.mk A50
      clear A50
      simp only [Option.some.injEq, Prod.mk.injEq] at H
      obtain ⟨rfl, rfl⟩ := H
      go_enter Tryd.func20, Tryd.ntmps20
      go_wp2_with (first | ((with_reducible refine gate_callee (f := 36) rfl ?_); refine goesL_ (some 15) rfl rfl Tryd.func36 (by kernel_rfl) rfl #[.int .i64 a0] rfl (by (try simp only [List.map_toArray, List.map_cons, List.map_nil]); first | done | rfl | (simp only [List.length_drop, List.length_take]; rfl)) ?_; (with_reducible refine (junctionref14_saying2.calls a0 t108 t109 _ A5.out).mono ?_); rintro e w' ⟨rfl, ⟨nd, rfl⟩⟩; refine ⟨_, rfl, ?_⟩))
      go_ret2
      exact ⟨by first | rfl | (simp; done) | (simp [*]; done), by repeat (first | exact Drawn0.refl _ | apply Drawn0.step)⟩
    · rw [if_neg c4] at H
      have c4b0 : decide (a0 < 110) = false := decide_eq_false c4
      clear c4
      by_cases c6 : a0 < 160
      · rw [if_pos c6] at H
        have c6b0 : decide (a0 < 160) = true := decide_eq_true c6
        clear c6
        replace H := Option.bind_eq_some_iff.mp H
        obtain ⟨⟨t110, t111⟩, A70, H⟩ := H
        replace H : (some (t110, t111)) = some (r1, r2) := H
        have A7 := Aside0.mk A70
        clear A70
        simp only [Option.some.injEq, Prod.mk.injEq] at H
        obtain ⟨rfl, rfl⟩ := H
        go_enter Tryd.func20, Tryd.ntmps20
        go_wp2_with (first | ((with_reducible refine gate_callee (f := 37) rfl ?_); refine goesL_ (some 22) rfl rfl Tryd.func37 (by kernel_rfl) rfl #[.int .i64 a0] rfl (by (try simp only [List.map_toArray, List.map_cons, List.map_nil]); first | done | rfl | (simp only [List.length_drop, List.length_take]; rfl)) ?_; (with_reducible refine (junctionref14_saying3.calls a0 t110 t111 _ A7.out).mono ?_); rintro e w' ⟨rfl, ⟨nd, rfl⟩⟩; refine ⟨_, rfl, ?_⟩))
        go_ret2
        exact ⟨by first | rfl | (simp; done) | (simp [*]; done), by repeat (first | exact Drawn0.refl _ | apply Drawn0.step)⟩
      · rw [if_neg c6] at H
        have c6b0 : decide (a0 < 160) = false := decide_eq_false c6
        clear c6
        replace H := Option.bind_eq_some_iff.mp H
        obtain ⟨⟨t112, t113⟩, A80, H⟩ := H
        replace H : (some (t112, t113)) = some (r1, r2) := H
        have A8 := Aside0.mk A80
        clear A80
        simp only [Option.some.injEq, Prod.mk.injEq] at H
        obtain ⟨rfl, rfl⟩ := H
        go_enter Tryd.func20, Tryd.ntmps20
        go_wp2_with (first | ((with_reducible refine gate_callee (f := 38) rfl ?_); refine goesL_ (some 26) rfl rfl Tryd.func38 (by kernel_rfl) rfl #[.int .i64 a0] rfl (by (try simp only [List.map_toArray, List.map_cons, List.map_nil]); first | done | rfl | (simp only [List.length_drop, List.length_take]; rfl)) ?_; (with_reducible refine (junctionref14_saying4.calls a0 t112 t113 _ A8.out).mono ?_); rintro e w' ⟨rfl, ⟨nd, rfl⟩⟩; refine ⟨_, rfl, ?_⟩))
        go_ret2
        exact ⟨by first | rfl | (simp; done) | (simp [*]; done), by repeat (first | exact Drawn0.refl _ | apply Drawn0.step)⟩

end Go.Proofs.YtebbipofemjnmaaDoor.P
