-- Written by a program of this work's (wip/tools/px.py over the seat's translation); Lean checks it.
import Derived.Test.YtebbipofemjnmaaDoorP0
namespace Go.Proofs.YtebbipofemjnmaaDoor.P
open Go.RowKit Go.Proofs.YtebbipofemjnmaaDoorW.PrintWords Go.Proofs.YtebbipofemjnmaaDoorW.PrintLast Go.Proofs.YtebbipofemjnmaaDoorW.PrintMore
attribute [local go_sem] max2_int min2_int max_two min_two max_three min_three max_four min_four   -- for this text's walks alone
set_option linter.unusedVariables false
set_option linter.unusedSimpArgs false

/-! ### driver_words1: function 32 -/
def driver_words1.f (a0 : Int) : Option (ByteArray) := if a0 = 10 then (some (⟨#[110, 111, 32, 115, 117, 99, 104, 32, 111, 112, 101, 114, 97, 116, 111, 114]⟩ : ByteArray)) else (if a0 = 11 then (some (⟨#[110, 111, 32, 110, 117, 109, 98, 101, 114]⟩ : ByteArray)) else (if a0 = 12 then (some (⟨#[110, 111, 32, 115, 117, 99, 104, 32, 109, 101, 109, 98, 101, 114]⟩ : ByteArray)) else (if a0 = 20 then (some (⟨#[116, 111, 111, 32, 108, 111, 110, 103]⟩ : ByteArray)) else (if a0 = 21 then (some (⟨#[97, 32, 98, 121, 116, 101, 32, 116, 104, 97, 116, 32, 98, 101, 103, 105, 110, 115, 32, 110, 111, 116, 104, 105, 110, 103]⟩ : ByteArray)) else (if a0 = 22 then (some (⟨#[97, 32, 110, 117, 109, 98, 101, 114, 32, 111, 102, 32, 97, 32, 119, 114, 111, 110, 103, 32, 102, 111, 114, 109]⟩ : ByteArray)) else (if a0 = 23 then (some (⟨#[97, 32, 110, 117, 109, 98, 101, 114, 32, 116, 111, 111, 32, 103, 114, 101, 97, 116]⟩ : ByteArray)) else (if a0 = 24 then (some (⟨#[97, 32, 110, 97, 109, 101, 32, 116, 111, 111, 32, 108, 111, 110, 103]⟩ : ByteArray)) else (if a0 = 25 then (some (⟨#[97, 32, 116, 111, 107, 101, 110, 32, 116, 104, 97, 116, 32, 99, 97, 110, 110, 111, 116, 32, 98, 101, 32, 119, 114, 105, 116, 116, 101, 110]⟩ : ByteArray)) else (if a0 = 30 then (some (⟨#[97, 32, 116, 111, 107, 101, 110, 32, 116, 104, 97, 116, 32, 99, 97, 110, 110, 111, 116, 32, 115, 116, 97, 110, 100, 32, 104, 101, 114, 101]⟩ : ByteArray)) else (if a0 = 31 then (some (⟨#[110, 101, 115, 116, 101, 100, 32, 116, 111, 111, 32, 100, 101, 101, 112, 108, 121]⟩ : ByteArray)) else (if a0 = 32 then (some (⟨#[97, 110, 32, 101, 120, 112, 114, 101, 115, 115, 105, 111, 110, 32, 116, 111, 111, 32, 108, 111, 110, 103]⟩ : ByteArray)) else (if a0 = 33 then (some (⟨#[110, 111, 116, 32, 119, 101, 108, 108, 32, 102, 111, 114, 109, 101, 100]⟩ : ByteArray)) else (if a0 = 50 then (some (⟨#[100, 101, 99, 108, 97, 114, 101, 100, 32, 116, 119, 105, 99, 101]⟩ : ByteArray)) else (if a0 = 51 then (some (⟨#[110, 111, 116, 32, 100, 101, 99, 108, 97, 114, 101, 100]⟩ : ByteArray)) else (if a0 = 52 then (some (⟨#[97, 32, 110, 97, 109, 101, 32, 111, 102, 32, 97, 110, 111, 116, 104, 101, 114, 32, 107, 105, 110, 100]⟩ : ByteArray)) else (if a0 = 53 then (some (⟨#[97, 32, 110, 117, 109, 98, 101, 114, 32, 97, 110, 100, 32, 97, 32, 116, 114, 117, 116, 104, 32, 99, 111, 110, 102, 117, 115, 101, 100]⟩ : ByteArray)) else (if a0 = 54 then (some (⟨#[97, 32, 110, 117, 109, 98, 101, 114, 32, 111, 117, 116, 32, 111, 102, 32, 105, 116, 115, 32, 114, 97, 110, 103, 101]⟩ : ByteArray)) else (if a0 = 55 then (some (⟨#[116, 111, 111, 32, 109, 97, 110, 121]⟩ : ByteArray)) else (if a0 = 56 then (some (⟨#[110, 111, 116, 32, 106, 117, 115, 116, 32, 111, 110, 101, 32, 115, 116, 97, 114, 116]⟩ : ByteArray)) else (if a0 = 57 then (some (⟨#[97, 32, 112, 97, 105, 114, 32, 116, 104, 97, 116, 32, 109, 97, 121, 32, 110, 111, 116, 32, 98, 101]⟩ : ByteArray)) else (if a0 = 58 then (some (⟨#[97, 32, 115, 116, 97, 103, 101, 32, 116, 104, 97, 116, 32, 103, 111, 101, 115, 32, 116, 111, 32, 105, 116, 115, 101, 108, 102]⟩ : ByteArray)) else (if a0 = 59 then (some (⟨#[116, 111, 111, 32, 108, 97, 114, 103, 101, 32, 119, 105, 116, 104, 32, 105, 116, 115, 32, 99, 111, 110, 100, 105, 116, 105, 111, 110, 115, 32, 112, 117, 116, 32, 105, 110]⟩ : ByteArray)) else (if a0 = 60 then (some (⟨#[103, 114, 111, 117, 112, 115, 32, 105, 110, 32, 99, 111, 110, 102, 108, 105, 99, 116]⟩ : ByteArray)) else (if a0 = 61 then (some (⟨#[97, 110, 32, 105, 110, 116, 101, 114, 103, 114, 101, 101, 110, 32, 115, 104, 111, 114, 116, 101, 114, 32, 116, 104, 97, 110, 32, 116, 104, 101, 32, 97, 109, 98, 101, 114]⟩ : ByteArray)) else (if a0 = 62 then (some (⟨#[97, 32, 109, 105, 110, 105, 109, 117, 109, 32, 116, 111, 111, 32, 115, 104, 111, 114, 116]⟩ : ByteArray)) else (if a0 = 63 then (some (⟨#[97, 110, 32, 97, 109, 98, 101, 114, 32, 116, 111, 111, 32, 115, 104, 111, 114, 116]⟩ : ByteArray)) else (if a0 = 64 then (some (⟨#[97, 32, 108, 101, 97, 100, 32, 116, 111, 111, 32, 108, 111, 110, 103]⟩ : ByteArray)) else (if a0 = 65 then (some (⟨#[97, 32, 115, 116, 97, 103, 101, 32, 119, 105, 116, 104, 111, 117, 116, 32, 97, 32, 119, 97, 121, 32, 111, 117, 116]⟩ : ByteArray)) else (some (⟨#[]⟩ : ByteArray))))))))))))))))))))))))))))))
set_option maxHeartbeats 8000000 in
set_option maxRecDepth 100000 in
theorem driver_words1.calls (a0 : Int) (r : ByteArray) (w : World) (h : driver_words1.f a0 = some r) :
    Calls Tryd.prog 32 #[.int .i64 a0] w fun e w' => e = .returned (.string r) ∧ Drawn0 w w' := by
  have H : (if a0 = 10 then (some (⟨#[110, 111, 32, 115, 117, 99, 104, 32, 111, 112, 101, 114, 97, 116, 111, 114]⟩ : ByteArray)) else (if a0 = 11 then (some (⟨#[110, 111, 32, 110, 117, 109, 98, 101, 114]⟩ : ByteArray)) else (if a0 = 12 then (some (⟨#[110, 111, 32, 115, 117, 99, 104, 32, 109, 101, 109, 98, 101, 114]⟩ : ByteArray)) else (if a0 = 20 then (some (⟨#[116, 111, 111, 32, 108, 111, 110, 103]⟩ : ByteArray)) else (if a0 = 21 then (some (⟨#[97, 32, 98, 121, 116, 101, 32, 116, 104, 97, 116, 32, 98, 101, 103, 105, 110, 115, 32, 110, 111, 116, 104, 105, 110, 103]⟩ : ByteArray)) else (if a0 = 22 then (some (⟨#[97, 32, 110, 117, 109, 98, 101, 114, 32, 111, 102, 32, 97, 32, 119, 114, 111, 110, 103, 32, 102, 111, 114, 109]⟩ : ByteArray)) else (if a0 = 23 then (some (⟨#[97, 32, 110, 117, 109, 98, 101, 114, 32, 116, 111, 111, 32, 103, 114, 101, 97, 116]⟩ : ByteArray)) else (if a0 = 24 then (some (⟨#[97, 32, 110, 97, 109, 101, 32, 116, 111, 111, 32, 108, 111, 110, 103]⟩ : ByteArray)) else (if a0 = 25 then (some (⟨#[97, 32, 116, 111, 107, 101, 110, 32, 116, 104, 97, 116, 32, 99, 97, 110, 110, 111, 116, 32, 98, 101, 32, 119, 114, 105, 116, 116, 101, 110]⟩ : ByteArray)) else (if a0 = 30 then (some (⟨#[97, 32, 116, 111, 107, 101, 110, 32, 116, 104, 97, 116, 32, 99, 97, 110, 110, 111, 116, 32, 115, 116, 97, 110, 100, 32, 104, 101, 114, 101]⟩ : ByteArray)) else (if a0 = 31 then (some (⟨#[110, 101, 115, 116, 101, 100, 32, 116, 111, 111, 32, 100, 101, 101, 112, 108, 121]⟩ : ByteArray)) else (if a0 = 32 then (some (⟨#[97, 110, 32, 101, 120, 112, 114, 101, 115, 115, 105, 111, 110, 32, 116, 111, 111, 32, 108, 111, 110, 103]⟩ : ByteArray)) else (if a0 = 33 then (some (⟨#[110, 111, 116, 32, 119, 101, 108, 108, 32, 102, 111, 114, 109, 101, 100]⟩ : ByteArray)) else (if a0 = 50 then (some (⟨#[100, 101, 99, 108, 97, 114, 101, 100, 32, 116, 119, 105, 99, 101]⟩ : ByteArray)) else (if a0 = 51 then (some (⟨#[110, 111, 116, 32, 100, 101, 99, 108, 97, 114, 101, 100]⟩ : ByteArray)) else (if a0 = 52 then (some (⟨#[97, 32, 110, 97, 109, 101, 32, 111, 102, 32, 97, 110, 111, 116, 104, 101, 114, 32, 107, 105, 110, 100]⟩ : ByteArray)) else (if a0 = 53 then (some (⟨#[97, 32, 110, 117, 109, 98, 101, 114, 32, 97, 110, 100, 32, 97, 32, 116, 114, 117, 116, 104, 32, 99, 111, 110, 102, 117, 115, 101, 100]⟩ : ByteArray)) else (if a0 = 54 then (some (⟨#[97, 32, 110, 117, 109, 98, 101, 114, 32, 111, 117, 116, 32, 111, 102, 32, 105, 116, 115, 32, 114, 97, 110, 103, 101]⟩ : ByteArray)) else (if a0 = 55 then (some (⟨#[116, 111, 111, 32, 109, 97, 110, 121]⟩ : ByteArray)) else (if a0 = 56 then (some (⟨#[110, 111, 116, 32, 106, 117, 115, 116, 32, 111, 110, 101, 32, 115, 116, 97, 114, 116]⟩ : ByteArray)) else (if a0 = 57 then (some (⟨#[97, 32, 112, 97, 105, 114, 32, 116, 104, 97, 116, 32, 109, 97, 121, 32, 110, 111, 116, 32, 98, 101]⟩ : ByteArray)) else (if a0 = 58 then (some (⟨#[97, 32, 115, 116, 97, 103, 101, 32, 116, 104, 97, 116, 32, 103, 111, 101, 115, 32, 116, 111, 32, 105, 116, 115, 101, 108, 102]⟩ : ByteArray)) else (if a0 = 59 then (some (⟨#[116, 111, 111, 32, 108, 97, 114, 103, 101, 32, 119, 105, 116, 104, 32, 105, 116, 115, 32, 99, 111, 110, 100, 105, 116, 105, 111, 110, 115, 32, 112, 117, 116, 32, 105, 110]⟩ : ByteArray)) else (if a0 = 60 then (some (⟨#[103, 114, 111, 117, 112, 115, 32, 105, 110, 32, 99, 111, 110, 102, 108, 105, 99, 116]⟩ : ByteArray)) else (if a0 = 61 then (some (⟨#[97, 110, 32, 105, 110, 116, 101, 114, 103, 114, 101, 101, 110, 32, 115, 104, 111, 114, 116, 101, 114, 32, 116, 104, 97, 110, 32, 116, 104, 101, 32, 97, 109, 98, 101, 114]⟩ : ByteArray)) else (if a0 = 62 then (some (⟨#[97, 32, 109, 105, 110, 105, 109, 117, 109, 32, 116, 111, 111, 32, 115, 104, 111, 114, 116]⟩ : ByteArray)) else (if a0 = 63 then (some (⟨#[97, 110, 32, 97, 109, 98, 101, 114, 32, 116, 111, 111, 32, 115, 104, 111, 114, 116]⟩ : ByteArray)) else (if a0 = 64 then (some (⟨#[97, 32, 108, 101, 97, 100, 32, 116, 111, 111, 32, 108, 111, 110, 103]⟩ : ByteArray)) else (if a0 = 65 then (some (⟨#[97, 32, 115, 116, 97, 103, 101, 32, 119, 105, 116, 104, 111, 117, 116, 32, 97, 32, 119, 97, 121, 32, 111, 117, 116]⟩ : ByteArray)) else (some (⟨#[]⟩ : ByteArray))))))))))))))))))))))))))))))) = some r := h
  clear h
  by_cases c2 : a0 = 10
  · rw [if_pos c2] at H
    have c2b0 : (a0 == 10) = true := beq_iff_eq.mpr c2
    have c2b1 : (a0 != 10) = false := bne_eq_false_iff_eq.mpr c2
    clear c2
    obtain rfl := Option.some.inj H
    go_enter Tryd.func32, Tryd.ntmps32
    go_wp2
    go_ret
    exact ⟨by first | rfl | (simp; done) | (simp [*]; done), by repeat (first | exact Drawn0.refl _ | apply Drawn0.step)⟩
  · rw [if_neg c2] at H
    have c2b0 : (a0 == 10) = false := beq_eq_false_iff_ne.mpr c2
    have c2b1 : (a0 != 10) = true := bne_iff_ne.mpr c2
    by_cases c3 : a0 = 11
    · rw [if_pos c3] at H
      have c3b0 : (a0 == 11) = true := beq_iff_eq.mpr c3
      have c3b1 : (a0 != 11) = false := bne_eq_false_iff_eq.mpr c3
      clear c3
      obtain rfl := Option.some.inj H
      go_enter Tryd.func32, Tryd.ntmps32
      go_wp2
      go_ret
      exact ⟨by first | rfl | (simp; done) | (simp [*]; done), by repeat (first | exact Drawn0.refl _ | apply Drawn0.step)⟩
    · rw [if_neg c3] at H
      have c3b0 : (a0 == 11) = false := beq_eq_false_iff_ne.mpr c3
      have c3b1 : (a0 != 11) = true := bne_iff_ne.mpr c3
      by_cases c4 : a0 = 12
      · rw [if_pos c4] at H
        have c4b0 : (a0 == 12) = true := beq_iff_eq.mpr c4
        have c4b1 : (a0 != 12) = false := bne_eq_false_iff_eq.mpr c4
        clear c4
        obtain rfl := Option.some.inj H
        go_enter Tryd.func32, Tryd.ntmps32
        go_wp2
        go_ret
        exact ⟨by first | rfl | (simp; done) | (simp [*]; done), by repeat (first | exact Drawn0.refl _ | apply Drawn0.step)⟩
      · rw [if_neg c4] at H
        have c4b0 : (a0 == 12) = false := beq_eq_false_iff_ne.mpr c4
        have c4b1 : (a0 != 12) = true := bne_iff_ne.mpr c4
        by_cases c5 : a0 = 20
        · rw [if_pos c5] at H
          have c5b0 : (a0 == 20) = true := beq_iff_eq.mpr c5
          have c5b1 : (a0 != 20) = false := bne_eq_false_iff_eq.mpr c5
          clear c5
          obtain rfl := Option.some.inj H
          go_enter Tryd.func32, Tryd.ntmps32
          go_wp2
          go_ret
          exact ⟨by first | rfl | (simp; done) | (simp [*]; done), by repeat (first | exact Drawn0.refl _ | apply Drawn0.step)⟩
        · rw [if_neg c5] at H
          have c5b0 : (a0 == 20) = false := beq_eq_false_iff_ne.mpr c5
          have c5b1 : (a0 != 20) = true := bne_iff_ne.mpr c5
          by_cases c6 : a0 = 21
          · rw [if_pos c6] at H
            have c6b0 : (a0 == 21) = true := beq_iff_eq.mpr c6
            have c6b1 : (a0 != 21) = false := bne_eq_false_iff_eq.mpr c6
            clear c6
            obtain rfl := Option.some.inj H
            go_enter Tryd.func32, Tryd.ntmps32
            go_wp2
            go_ret
            exact ⟨by first | rfl | (simp; done) | (simp [*]; done), by repeat (first | exact Drawn0.refl _ | apply Drawn0.step)⟩
          · rw [if_neg c6] at H
            have c6b0 : (a0 == 21) = false := beq_eq_false_iff_ne.mpr c6
            have c6b1 : (a0 != 21) = true := bne_iff_ne.mpr c6
            by_cases c7 : a0 = 22
            · rw [if_pos c7] at H
              have c7b0 : (a0 == 22) = true := beq_iff_eq.mpr c7
              have c7b1 : (a0 != 22) = false := bne_eq_false_iff_eq.mpr c7
              clear c7
              obtain rfl := Option.some.inj H
              go_enter Tryd.func32, Tryd.ntmps32
              go_wp2
              go_ret
              exact ⟨by first | rfl | (simp; done) | (simp [*]; done), by repeat (first | exact Drawn0.refl _ | apply Drawn0.step)⟩
            · rw [if_neg c7] at H
              have c7b0 : (a0 == 22) = false := beq_eq_false_iff_ne.mpr c7
              have c7b1 : (a0 != 22) = true := bne_iff_ne.mpr c7
              by_cases c8 : a0 = 23
              · rw [if_pos c8] at H
                have c8b0 : (a0 == 23) = true := beq_iff_eq.mpr c8
                have c8b1 : (a0 != 23) = false := bne_eq_false_iff_eq.mpr c8
                clear c8
                obtain rfl := Option.some.inj H
                go_enter Tryd.func32, Tryd.ntmps32
                go_wp2
                go_ret
                exact ⟨by first | rfl | (simp; done) | (simp [*]; done), by repeat (first | exact Drawn0.refl _ | apply Drawn0.step)⟩
              · rw [if_neg c8] at H
                have c8b0 : (a0 == 23) = false := beq_eq_false_iff_ne.mpr c8
                have c8b1 : (a0 != 23) = true := bne_iff_ne.mpr c8
                by_cases c9 : a0 = 24
                · rw [if_pos c9] at H
                  have c9b0 : (a0 == 24) = true := beq_iff_eq.mpr c9
                  have c9b1 : (a0 != 24) = false := bne_eq_false_iff_eq.mpr c9
                  clear c9
                  obtain rfl := Option.some.inj H
                  go_enter Tryd.func32, Tryd.ntmps32
                  go_wp2
                  go_ret
                  exact ⟨by first | rfl | (simp; done) | (simp [*]; done), by repeat (first | exact Drawn0.refl _ | apply Drawn0.step)⟩
                · rw [if_neg c9] at H
                  have c9b0 : (a0 == 24) = false := beq_eq_false_iff_ne.mpr c9
                  have c9b1 : (a0 != 24) = true := bne_iff_ne.mpr c9
                  by_cases c10 : a0 = 25
                  · rw [if_pos c10] at H
                    have c10b0 : (a0 == 25) = true := beq_iff_eq.mpr c10
                    have c10b1 : (a0 != 25) = false := bne_eq_false_iff_eq.mpr c10
                    clear c10
                    obtain rfl := Option.some.inj H
                    go_enter Tryd.func32, Tryd.ntmps32
                    go_wp2
                    go_ret
                    exact ⟨by first | rfl | (simp; done) | (simp [*]; done), by repeat (first | exact Drawn0.refl _ | apply Drawn0.step)⟩
                  · rw [if_neg c10] at H
                    have c10b0 : (a0 == 25) = false := beq_eq_false_iff_ne.mpr c10
                    have c10b1 : (a0 != 25) = true := bne_iff_ne.mpr c10
                    by_cases c11 : a0 = 30
                    · rw [if_pos c11] at H
                      have c11b0 : (a0 == 30) = true := beq_iff_eq.mpr c11
                      have c11b1 : (a0 != 30) = false := bne_eq_false_iff_eq.mpr c11
                      clear c11
                      obtain rfl := Option.some.inj H
                      go_enter Tryd.func32, Tryd.ntmps32
                      go_wp2
                      go_ret
                      exact ⟨by first | rfl | (simp; done) | (simp [*]; done), by repeat (first | exact Drawn0.refl _ | apply Drawn0.step)⟩
                    · rw [if_neg c11] at H
                      have c11b0 : (a0 == 30) = false := beq_eq_false_iff_ne.mpr c11
                      have c11b1 : (a0 != 30) = true := bne_iff_ne.mpr c11
                      by_cases c12 : a0 = 31
                      · rw [if_pos c12] at H
                        have c12b0 : (a0 == 31) = true := beq_iff_eq.mpr c12
                        have c12b1 : (a0 != 31) = false := bne_eq_false_iff_eq.mpr c12
                        clear c12
                        obtain rfl := Option.some.inj H
                        go_enter Tryd.func32, Tryd.ntmps32
                        go_wp2
                        go_ret
                        exact ⟨by first | rfl | (simp; done) | (simp [*]; done), by repeat (first | exact Drawn0.refl _ | apply Drawn0.step)⟩
                      · rw [if_neg c12] at H
                        have c12b0 : (a0 == 31) = false := beq_eq_false_iff_ne.mpr c12
                        have c12b1 : (a0 != 31) = true := bne_iff_ne.mpr c12
                        by_cases c13 : a0 = 32
                        · rw [if_pos c13] at H
                          have c13b0 : (a0 == 32) = true := beq_iff_eq.mpr c13
                          have c13b1 : (a0 != 32) = false := bne_eq_false_iff_eq.mpr c13
                          clear c13
                          obtain rfl := Option.some.inj H
                          go_enter Tryd.func32, Tryd.ntmps32
                          go_wp2
                          go_ret
                          exact ⟨by first | rfl | (simp; done) | (simp [*]; done), by repeat (first | exact Drawn0.refl _ | apply Drawn0.step)⟩
                        · rw [if_neg c13] at H
                          have c13b0 : (a0 == 32) = false := beq_eq_false_iff_ne.mpr c13
                          have c13b1 : (a0 != 32) = true := bne_iff_ne.mpr c13
                          by_cases c14 : a0 = 33
                          · rw [if_pos c14] at H
                            have c14b0 : (a0 == 33) = true := beq_iff_eq.mpr c14
                            have c14b1 : (a0 != 33) = false := bne_eq_false_iff_eq.mpr c14
                            clear c14
                            obtain rfl := Option.some.inj H
                            go_enter Tryd.func32, Tryd.ntmps32
                            go_wp2
                            go_ret
                            exact ⟨by first | rfl | (simp; done) | (simp [*]; done), by repeat (first | exact Drawn0.refl _ | apply Drawn0.step)⟩
                          · rw [if_neg c14] at H
                            have c14b0 : (a0 == 33) = false := beq_eq_false_iff_ne.mpr c14
                            have c14b1 : (a0 != 33) = true := bne_iff_ne.mpr c14
                            by_cases c15 : a0 = 50
                            · rw [if_pos c15] at H
                              have c15b0 : (a0 == 50) = true := beq_iff_eq.mpr c15
                              have c15b1 : (a0 != 50) = false := bne_eq_false_iff_eq.mpr c15
                              clear c15
                              obtain rfl := Option.some.inj H
                              go_enter Tryd.func32, Tryd.ntmps32
                              go_wp2
                              go_ret
                              exact ⟨by first | rfl | (simp; done) | (simp [*]; done), by repeat (first | exact Drawn0.refl _ | apply Drawn0.step)⟩
                            · rw [if_neg c15] at H
                              have c15b0 : (a0 == 50) = false := beq_eq_false_iff_ne.mpr c15
                              have c15b1 : (a0 != 50) = true := bne_iff_ne.mpr c15
                              by_cases c16 : a0 = 51
                              · rw [if_pos c16] at H
                                have c16b0 : (a0 == 51) = true := beq_iff_eq.mpr c16
                                have c16b1 : (a0 != 51) = false := bne_eq_false_iff_eq.mpr c16
                                clear c16
                                obtain rfl := Option.some.inj H
                                go_enter Tryd.func32, Tryd.ntmps32
                                go_wp2
                                go_ret
                                exact ⟨by first | rfl | (simp; done) | (simp [*]; done), by repeat (first | exact Drawn0.refl _ | apply Drawn0.step)⟩
                              · rw [if_neg c16] at H
                                have c16b0 : (a0 == 51) = false := beq_eq_false_iff_ne.mpr c16
                                have c16b1 : (a0 != 51) = true := bne_iff_ne.mpr c16
                                by_cases c17 : a0 = 52
                                · rw [if_pos c17] at H
                                  have c17b0 : (a0 == 52) = true := beq_iff_eq.mpr c17
                                  have c17b1 : (a0 != 52) = false := bne_eq_false_iff_eq.mpr c17
                                  clear c17
                                  obtain rfl := Option.some.inj H
                                  go_enter Tryd.func32, Tryd.ntmps32
                                  go_wp2
                                  go_ret
                                  exact ⟨by first | rfl | (simp; done) | (simp [*]; done), by repeat (first | exact Drawn0.refl _ | apply Drawn0.step)⟩
                                · rw [if_neg c17] at H
                                  have c17b0 : (a0 == 52) = false := beq_eq_false_iff_ne.mpr c17
                                  have c17b1 : (a0 != 52) = true := bne_iff_ne.mpr c17
                                  by_cases c18 : a0 = 53
                                  · rw [if_pos c18] at H
                                    have c18b0 : (a0 == 53) = true := beq_iff_eq.mpr c18
                                    have c18b1 : (a0 != 53) = false := bne_eq_false_iff_eq.mpr c18
                                    clear c18
                                    obtain rfl := Option.some.inj H
                                    go_enter Tryd.func32, Tryd.ntmps32
                                    go_wp2
                                    go_ret
                                    exact ⟨by first | rfl | (simp; done) | (simp [*]; done), by repeat (first | exact Drawn0.refl _ | apply Drawn0.step)⟩
                                  · rw [if_neg c18] at H
                                    have c18b0 : (a0 == 53) = false := beq_eq_false_iff_ne.mpr c18
                                    have c18b1 : (a0 != 53) = true := bne_iff_ne.mpr c18
                                    by_cases c19 : a0 = 54
                                    · rw [if_pos c19] at H
                                      have c19b0 : (a0 == 54) = true := beq_iff_eq.mpr c19
                                      have c19b1 : (a0 != 54) = false := bne_eq_false_iff_eq.mpr c19
                                      clear c19
                                      obtain rfl := Option.some.inj H
                                      go_enter Tryd.func32, Tryd.ntmps32
                                      go_wp2
                                      go_ret
                                      exact ⟨by first | rfl | (simp; done) | (simp [*]; done), by repeat (first | exact Drawn0.refl _ | apply Drawn0.step)⟩
                                    · rw [if_neg c19] at H
                                      have c19b0 : (a0 == 54) = false := beq_eq_false_iff_ne.mpr c19
                                      have c19b1 : (a0 != 54) = true := bne_iff_ne.mpr c19
                                      by_cases c20 : a0 = 55
                                      · rw [if_pos c20] at H
                                        have c20b0 : (a0 == 55) = true := beq_iff_eq.mpr c20
                                        have c20b1 : (a0 != 55) = false := bne_eq_false_iff_eq.mpr c20
                                        clear c20
                                        obtain rfl := Option.some.inj H
                                        go_enter Tryd.func32, Tryd.ntmps32
                                        go_wp2
                                        go_ret
                                        exact ⟨by first | rfl | (simp; done) | (simp [*]; done), by repeat (first | exact Drawn0.refl _ | apply Drawn0.step)⟩
                                      · rw [if_neg c20] at H
                                        have c20b0 : (a0 == 55) = false := beq_eq_false_iff_ne.mpr c20
                                        have c20b1 : (a0 != 55) = true := bne_iff_ne.mpr c20
                                        by_cases c21 : a0 = 56
                                        · rw [if_pos c21] at H
                                          have c21b0 : (a0 == 56) = true := beq_iff_eq.mpr c21
                                          have c21b1 : (a0 != 56) = false := bne_eq_false_iff_eq.mpr c21
                                          clear c21
                                          obtain rfl := Option.some.inj H
                                          go_enter Tryd.func32, Tryd.ntmps32
                                          go_wp2
                                          go_ret
                                          exact ⟨by first | rfl | (simp; done) | (simp [*]; done), by repeat (first | exact Drawn0.refl _ | apply Drawn0.step)⟩
                                        · rw [if_neg c21] at H
                                          have c21b0 : (a0 == 56) = false := beq_eq_false_iff_ne.mpr c21
                                          have c21b1 : (a0 != 56) = true := bne_iff_ne.mpr c21
                                          by_cases c22 : a0 = 57
                                          · rw [if_pos c22] at H
                                            have c22b0 : (a0 == 57) = true := beq_iff_eq.mpr c22
                                            have c22b1 : (a0 != 57) = false := bne_eq_false_iff_eq.mpr c22
                                            clear c22
                                            obtain rfl := Option.some.inj H
                                            go_enter Tryd.func32, Tryd.ntmps32
                                            go_wp2
                                            go_ret
                                            exact ⟨by first | rfl | (simp; done) | (simp [*]; done), by repeat (first | exact Drawn0.refl _ | apply Drawn0.step)⟩
                                          · rw [if_neg c22] at H
                                            have c22b0 : (a0 == 57) = false := beq_eq_false_iff_ne.mpr c22
                                            have c22b1 : (a0 != 57) = true := bne_iff_ne.mpr c22
                                            by_cases c23 : a0 = 58
                                            · rw [if_pos c23] at H
                                              have c23b0 : (a0 == 58) = true := beq_iff_eq.mpr c23
                                              have c23b1 : (a0 != 58) = false := bne_eq_false_iff_eq.mpr c23
                                              clear c23
                                              obtain rfl := Option.some.inj H
                                              go_enter Tryd.func32, Tryd.ntmps32
                                              go_wp2
                                              go_ret
                                              exact ⟨by first | rfl | (simp; done) | (simp [*]; done), by repeat (first | exact Drawn0.refl _ | apply Drawn0.step)⟩
                                            · rw [if_neg c23] at H
                                              have c23b0 : (a0 == 58) = false := beq_eq_false_iff_ne.mpr c23
                                              have c23b1 : (a0 != 58) = true := bne_iff_ne.mpr c23
                                              by_cases c24 : a0 = 59
                                              · rw [if_pos c24] at H
                                                have c24b0 : (a0 == 59) = true := beq_iff_eq.mpr c24
                                                have c24b1 : (a0 != 59) = false := bne_eq_false_iff_eq.mpr c24
                                                clear c24
                                                obtain rfl := Option.some.inj H
                                                go_enter Tryd.func32, Tryd.ntmps32
                                                go_wp2
                                                go_ret
                                                exact ⟨by first | rfl | (simp; done) | (simp [*]; done), by repeat (first | exact Drawn0.refl _ | apply Drawn0.step)⟩
                                              · rw [if_neg c24] at H
                                                have c24b0 : (a0 == 59) = false := beq_eq_false_iff_ne.mpr c24
                                                have c24b1 : (a0 != 59) = true := bne_iff_ne.mpr c24
                                                by_cases c25 : a0 = 60
                                                · rw [if_pos c25] at H
                                                  have c25b0 : (a0 == 60) = true := beq_iff_eq.mpr c25
                                                  have c25b1 : (a0 != 60) = false := bne_eq_false_iff_eq.mpr c25
                                                  clear c25
                                                  obtain rfl := Option.some.inj H
                                                  go_enter Tryd.func32, Tryd.ntmps32
                                                  go_wp2
                                                  go_ret
                                                  exact ⟨by first | rfl | (simp; done) | (simp [*]; done), by repeat (first | exact Drawn0.refl _ | apply Drawn0.step)⟩
                                                · rw [if_neg c25] at H
                                                  have c25b0 : (a0 == 60) = false := beq_eq_false_iff_ne.mpr c25
                                                  have c25b1 : (a0 != 60) = true := bne_iff_ne.mpr c25
                                                  by_cases c26 : a0 = 61
                                                  · rw [if_pos c26] at H
                                                    have c26b0 : (a0 == 61) = true := beq_iff_eq.mpr c26
                                                    have c26b1 : (a0 != 61) = false := bne_eq_false_iff_eq.mpr c26
                                                    clear c26
                                                    obtain rfl := Option.some.inj H
                                                    go_enter Tryd.func32, Tryd.ntmps32
                                                    go_wp2
                                                    go_ret
                                                    exact ⟨by first | rfl | (simp; done) | (simp [*]; done), by repeat (first | exact Drawn0.refl _ | apply Drawn0.step)⟩
                                                  · rw [if_neg c26] at H
                                                    have c26b0 : (a0 == 61) = false := beq_eq_false_iff_ne.mpr c26
                                                    have c26b1 : (a0 != 61) = true := bne_iff_ne.mpr c26
                                                    by_cases c27 : a0 = 62
                                                    · rw [if_pos c27] at H
                                                      have c27b0 : (a0 == 62) = true := beq_iff_eq.mpr c27
                                                      have c27b1 : (a0 != 62) = false := bne_eq_false_iff_eq.mpr c27
                                                      clear c27
                                                      obtain rfl := Option.some.inj H
                                                      go_enter Tryd.func32, Tryd.ntmps32
                                                      go_wp2
                                                      go_ret
                                                      exact ⟨by first | rfl | (simp; done) | (simp [*]; done), by repeat (first | exact Drawn0.refl _ | apply Drawn0.step)⟩
                                                    · rw [if_neg c27] at H
                                                      have c27b0 : (a0 == 62) = false := beq_eq_false_iff_ne.mpr c27
                                                      have c27b1 : (a0 != 62) = true := bne_iff_ne.mpr c27
                                                      by_cases c28 : a0 = 63
                                                      · rw [if_pos c28] at H
                                                        have c28b0 : (a0 == 63) = true := beq_iff_eq.mpr c28
                                                        have c28b1 : (a0 != 63) = false := bne_eq_false_iff_eq.mpr c28
                                                        clear c28
                                                        obtain rfl := Option.some.inj H
                                                        go_enter Tryd.func32, Tryd.ntmps32
                                                        go_wp2
                                                        go_ret
                                                        exact ⟨by first | rfl | (simp; done) | (simp [*]; done), by repeat (first | exact Drawn0.refl _ | apply Drawn0.step)⟩
                                                      · rw [if_neg c28] at H
                                                        have c28b0 : (a0 == 63) = false := beq_eq_false_iff_ne.mpr c28
                                                        have c28b1 : (a0 != 63) = true := bne_iff_ne.mpr c28
                                                        by_cases c29 : a0 = 64
                                                        · rw [if_pos c29] at H
                                                          have c29b0 : (a0 == 64) = true := beq_iff_eq.mpr c29
                                                          have c29b1 : (a0 != 64) = false := bne_eq_false_iff_eq.mpr c29
                                                          clear c29
                                                          obtain rfl := Option.some.inj H
                                                          go_enter Tryd.func32, Tryd.ntmps32
                                                          go_wp2
                                                          go_ret
                                                          exact ⟨by first | rfl | (simp; done) | (simp [*]; done), by repeat (first | exact Drawn0.refl _ | apply Drawn0.step)⟩
                                                        · rw [if_neg c29] at H
                                                          have c29b0 : (a0 == 64) = false := beq_eq_false_iff_ne.mpr c29
                                                          have c29b1 : (a0 != 64) = true := bne_iff_ne.mpr c29
                                                          by_cases c30 : a0 = 65
                                                          · rw [if_pos c30] at H
                                                            have c30b0 : (a0 == 65) = true := beq_iff_eq.mpr c30
                                                            have c30b1 : (a0 != 65) = false := bne_eq_false_iff_eq.mpr c30
                                                            clear c30
                                                            obtain rfl := Option.some.inj H
                                                            go_enter Tryd.func32, Tryd.ntmps32
                                                            go_wp2
                                                            go_ret
                                                            exact ⟨by first | rfl | (simp; done) | (simp [*]; done), by repeat (first | exact Drawn0.refl _ | apply Drawn0.step)⟩
                                                          · rw [if_neg c30] at H
                                                            have c30b0 : (a0 == 65) = false := beq_eq_false_iff_ne.mpr c30
                                                            have c30b1 : (a0 != 65) = true := bne_iff_ne.mpr c30
                                                            obtain rfl := Option.some.inj H
                                                            go_enter Tryd.func32, Tryd.ntmps32
                                                            go_wp2
                                                            go_ret
                                                            exact ⟨by first | rfl | (simp; done) | (simp [*]; done), by repeat (first | exact Drawn0.refl _ | apply Drawn0.step)⟩

end Go.Proofs.YtebbipofemjnmaaDoor.P
