-- Written by a program of this work's (wip/tools/px.py over the seat's translation); Lean checks it.
import Derived.Test.YtebbipofemjnmaaDoorP0
namespace Go.Proofs.YtebbipofemjnmaaDoor.P
open Go.RowKit Go.Proofs.YtebbipofemjnmaaDoorW.PrintWords Go.Proofs.YtebbipofemjnmaaDoorW.PrintLast Go.Proofs.YtebbipofemjnmaaDoorW.PrintMore
attribute [local go_sem] max2_int min2_int max_two min_two max_three min_three max_four min_four   -- for this text's walks alone
set_option linter.unusedVariables false
set_option linter.unusedSimpArgs false

/-! ### junctionref14_saying3: function 37 -/
def junctionref14_saying3.f (a0 : Int) : Option (ByteArray × Bool) := if a0 = 110 then (some ((⟨#[102, 117, 108, 108]⟩ : ByteArray), true)) else (if a0 = 120 then (some ((⟨#[110, 111, 32, 105, 110, 115, 116, 114, 117, 99, 116, 105, 111, 110]⟩ : ByteArray), true)) else (if a0 = 121 then (some ((⟨#[97, 32, 119, 114, 111, 110, 103, 32, 106, 117, 109, 112]⟩ : ByteArray), true)) else (if a0 = 122 then (some ((⟨#[97, 32, 119, 114, 111, 110, 103, 32, 115, 116, 97, 99, 107]⟩ : ByteArray), true)) else (if a0 = 123 then (some ((⟨#[112, 97, 116, 104, 115, 32, 116, 104, 97, 116, 32, 109, 101, 101, 116, 32, 117, 110, 108, 105, 107, 101]⟩ : ByteArray), true)) else (if a0 = 124 then (some ((⟨#[97, 32, 119, 114, 111, 110, 103, 32, 105, 110, 100, 101, 120]⟩ : ByteArray), true)) else (if a0 = 125 then (some ((⟨#[110, 111, 32, 101, 110, 100]⟩ : ByteArray), true)) else (if a0 = 126 then (some ((⟨#[110, 101, 118, 101, 114, 32, 114, 101, 97, 99, 104, 101, 100]⟩ : ByteArray), true)) else (if a0 = 127 then (some ((⟨#[119, 114, 111, 110, 103, 32, 115, 101, 99, 116, 105, 111, 110, 115]⟩ : ByteArray), true)) else (if a0 = 128 then (some ((⟨#[97, 32, 112, 105, 99, 107, 32, 111, 117, 116, 32, 111, 102, 32, 112, 108, 97, 99, 101]⟩ : ByteArray), true)) else (if a0 = 129 then (some ((⟨#[97, 110, 32, 111, 112, 101, 114, 97, 110, 100, 32, 111, 102, 32, 116, 104, 101, 32, 119, 114, 111, 110, 103, 32, 115, 111, 114, 116]⟩ : ByteArray), true)) else (if a0 = 140 then (some ((⟨#[110, 111, 32, 116, 114, 97, 99, 101]⟩ : ByteArray), true)) else (if a0 = 141 then (some ((⟨#[110, 111, 32, 105, 110, 112, 117, 116, 115]⟩ : ByteArray), true)) else (if a0 = 150 then (some ((⟨#[97, 110, 32, 101, 110, 116, 114, 121, 32, 110, 111, 116, 32, 111, 102, 32, 116, 104, 101, 32, 116, 97, 98, 108, 101, 115]⟩ : ByteArray), true)) else (some ((⟨#[]⟩ : ByteArray), false)))))))))))))))
set_option maxHeartbeats 8000000 in
set_option maxRecDepth 100000 in
theorem junctionref14_saying3.calls (a0 : Int) (r1 : ByteArray) (r2 : Bool) (w : World) (h : junctionref14_saying3.f a0 = some (r1, r2)) :
    Calls Tryd.prog 37 #[.int .i64 a0] w fun e w' => e = .returned (.tuple #[.string r1, .bool r2]) ∧ Drawn0 w w' := by
  have H : (if a0 = 110 then (some ((⟨#[102, 117, 108, 108]⟩ : ByteArray), true)) else (if a0 = 120 then (some ((⟨#[110, 111, 32, 105, 110, 115, 116, 114, 117, 99, 116, 105, 111, 110]⟩ : ByteArray), true)) else (if a0 = 121 then (some ((⟨#[97, 32, 119, 114, 111, 110, 103, 32, 106, 117, 109, 112]⟩ : ByteArray), true)) else (if a0 = 122 then (some ((⟨#[97, 32, 119, 114, 111, 110, 103, 32, 115, 116, 97, 99, 107]⟩ : ByteArray), true)) else (if a0 = 123 then (some ((⟨#[112, 97, 116, 104, 115, 32, 116, 104, 97, 116, 32, 109, 101, 101, 116, 32, 117, 110, 108, 105, 107, 101]⟩ : ByteArray), true)) else (if a0 = 124 then (some ((⟨#[97, 32, 119, 114, 111, 110, 103, 32, 105, 110, 100, 101, 120]⟩ : ByteArray), true)) else (if a0 = 125 then (some ((⟨#[110, 111, 32, 101, 110, 100]⟩ : ByteArray), true)) else (if a0 = 126 then (some ((⟨#[110, 101, 118, 101, 114, 32, 114, 101, 97, 99, 104, 101, 100]⟩ : ByteArray), true)) else (if a0 = 127 then (some ((⟨#[119, 114, 111, 110, 103, 32, 115, 101, 99, 116, 105, 111, 110, 115]⟩ : ByteArray), true)) else (if a0 = 128 then (some ((⟨#[97, 32, 112, 105, 99, 107, 32, 111, 117, 116, 32, 111, 102, 32, 112, 108, 97, 99, 101]⟩ : ByteArray), true)) else (if a0 = 129 then (some ((⟨#[97, 110, 32, 111, 112, 101, 114, 97, 110, 100, 32, 111, 102, 32, 116, 104, 101, 32, 119, 114, 111, 110, 103, 32, 115, 111, 114, 116]⟩ : ByteArray), true)) else (if a0 = 140 then (some ((⟨#[110, 111, 32, 116, 114, 97, 99, 101]⟩ : ByteArray), true)) else (if a0 = 141 then (some ((⟨#[110, 111, 32, 105, 110, 112, 117, 116, 115]⟩ : ByteArray), true)) else (if a0 = 150 then (some ((⟨#[97, 110, 32, 101, 110, 116, 114, 121, 32, 110, 111, 116, 32, 111, 102, 32, 116, 104, 101, 32, 116, 97, 98, 108, 101, 115]⟩ : ByteArray), true)) else (some ((⟨#[]⟩ : ByteArray), false)))))))))))))))) = some (r1, r2) := h
  clear h
  by_cases c2 : a0 = 110
  · rw [if_pos c2] at H
    have c2b0 : (a0 == 110) = true := beq_iff_eq.mpr c2
    have c2b1 : (a0 != 110) = false := bne_eq_false_iff_eq.mpr c2
    clear c2
    simp only [Option.some.injEq, Prod.mk.injEq] at H
    obtain ⟨rfl, rfl⟩ := H
    go_enter Tryd.func37, Tryd.ntmps37
    go_wp2
    go_ret2
    exact ⟨by first | rfl | (simp; done) | (simp [*]; done), by repeat (first | exact Drawn0.refl _ | apply Drawn0.step)⟩
  · rw [if_neg c2] at H
    have c2b0 : (a0 == 110) = false := beq_eq_false_iff_ne.mpr c2
    have c2b1 : (a0 != 110) = true := bne_iff_ne.mpr c2
    by_cases c3 : a0 = 120
    · rw [if_pos c3] at H
      have c3b0 : (a0 == 120) = true := beq_iff_eq.mpr c3
      have c3b1 : (a0 != 120) = false := bne_eq_false_iff_eq.mpr c3
      clear c3
      simp only [Option.some.injEq, Prod.mk.injEq] at H
      obtain ⟨rfl, rfl⟩ := H
      go_enter Tryd.func37, Tryd.ntmps37
      go_wp2
      go_ret2
      exact ⟨by first | rfl | (simp; done) | (simp [*]; done), by repeat (first | exact Drawn0.refl _ | apply Drawn0.step)⟩
    · rw [if_neg c3] at H
      have c3b0 : (a0 == 120) = false := beq_eq_false_iff_ne.mpr c3
      have c3b1 : (a0 != 120) = true := bne_iff_ne.mpr c3
      by_cases c4 : a0 = 121
      · rw [if_pos c4] at H
        have c4b0 : (a0 == 121) = true := beq_iff_eq.mpr c4
        have c4b1 : (a0 != 121) = false := bne_eq_false_iff_eq.mpr c4
        clear c4
        simp only [Option.some.injEq, Prod.mk.injEq] at H
        obtain ⟨rfl, rfl⟩ := H
        go_enter Tryd.func37, Tryd.ntmps37
        go_wp2
        go_ret2
        exact ⟨by first | rfl | (simp; done) | (simp [*]; done), by repeat (first | exact Drawn0.refl _ | apply Drawn0.step)⟩
      · rw [if_neg c4] at H
        have c4b0 : (a0 == 121) = false := beq_eq_false_iff_ne.mpr c4
        have c4b1 : (a0 != 121) = true := bne_iff_ne.mpr c4
        by_cases c5 : a0 = 122
        · rw [if_pos c5] at H
          have c5b0 : (a0 == 122) = true := beq_iff_eq.mpr c5
          have c5b1 : (a0 != 122) = false := bne_eq_false_iff_eq.mpr c5
          clear c5
          simp only [Option.some.injEq, Prod.mk.injEq] at H
          obtain ⟨rfl, rfl⟩ := H
          go_enter Tryd.func37, Tryd.ntmps37
          go_wp2
          go_ret2
          exact ⟨by first | rfl | (simp; done) | (simp [*]; done), by repeat (first | exact Drawn0.refl _ | apply Drawn0.step)⟩
        · rw [if_neg c5] at H
          have c5b0 : (a0 == 122) = false := beq_eq_false_iff_ne.mpr c5
          have c5b1 : (a0 != 122) = true := bne_iff_ne.mpr c5
          by_cases c6 : a0 = 123
          · rw [if_pos c6] at H
            have c6b0 : (a0 == 123) = true := beq_iff_eq.mpr c6
            have c6b1 : (a0 != 123) = false := bne_eq_false_iff_eq.mpr c6
            clear c6
            simp only [Option.some.injEq, Prod.mk.injEq] at H
            obtain ⟨rfl, rfl⟩ := H
            go_enter Tryd.func37, Tryd.ntmps37
            go_wp2
            go_ret2
            exact ⟨by first | rfl | (simp; done) | (simp [*]; done), by repeat (first | exact Drawn0.refl _ | apply Drawn0.step)⟩
          · rw [if_neg c6] at H
            have c6b0 : (a0 == 123) = false := beq_eq_false_iff_ne.mpr c6
            have c6b1 : (a0 != 123) = true := bne_iff_ne.mpr c6
            by_cases c7 : a0 = 124
            · rw [if_pos c7] at H
              have c7b0 : (a0 == 124) = true := beq_iff_eq.mpr c7
              have c7b1 : (a0 != 124) = false := bne_eq_false_iff_eq.mpr c7
              clear c7
              simp only [Option.some.injEq, Prod.mk.injEq] at H
              obtain ⟨rfl, rfl⟩ := H
              go_enter Tryd.func37, Tryd.ntmps37
              go_wp2
              go_ret2
              exact ⟨by first | rfl | (simp; done) | (simp [*]; done), by repeat (first | exact Drawn0.refl _ | apply Drawn0.step)⟩
            · rw [if_neg c7] at H
              have c7b0 : (a0 == 124) = false := beq_eq_false_iff_ne.mpr c7
              have c7b1 : (a0 != 124) = true := bne_iff_ne.mpr c7
              by_cases c8 : a0 = 125
              · rw [if_pos c8] at H
                have c8b0 : (a0 == 125) = true := beq_iff_eq.mpr c8
                have c8b1 : (a0 != 125) = false := bne_eq_false_iff_eq.mpr c8
                clear c8
                simp only [Option.some.injEq, Prod.mk.injEq] at H
                obtain ⟨rfl, rfl⟩ := H
                go_enter Tryd.func37, Tryd.ntmps37
                go_wp2
                go_ret2
                exact ⟨by first | rfl | (simp; done) | (simp [*]; done), by repeat (first | exact Drawn0.refl _ | apply Drawn0.step)⟩
              · rw [if_neg c8] at H
                have c8b0 : (a0 == 125) = false := beq_eq_false_iff_ne.mpr c8
                have c8b1 : (a0 != 125) = true := bne_iff_ne.mpr c8
                by_cases c9 : a0 = 126
                · rw [if_pos c9] at H
                  have c9b0 : (a0 == 126) = true := beq_iff_eq.mpr c9
                  have c9b1 : (a0 != 126) = false := bne_eq_false_iff_eq.mpr c9
                  clear c9
                  simp only [Option.some.injEq, Prod.mk.injEq] at H
                  obtain ⟨rfl, rfl⟩ := H
                  go_enter Tryd.func37, Tryd.ntmps37
                  go_wp2
                  go_ret2
                  exact ⟨by first | rfl | (simp; done) | (simp [*]; done), by repeat (first | exact Drawn0.refl _ | apply Drawn0.step)⟩
                · rw [if_neg c9] at H
                  have c9b0 : (a0 == 126) = false := beq_eq_false_iff_ne.mpr c9
                  have c9b1 : (a0 != 126) = true := bne_iff_ne.mpr c9
                  by_cases c10 : a0 = 127
                  · rw [if_pos c10] at H
                    have c10b0 : (a0 == 127) = true := beq_iff_eq.mpr c10
                    have c10b1 : (a0 != 127) = false := bne_eq_false_iff_eq.mpr c10
                    clear c10
                    simp only [Option.some.injEq, Prod.mk.injEq] at H
                    obtain ⟨rfl, rfl⟩ := H
                    go_enter Tryd.func37, Tryd.ntmps37
                    go_wp2
                    go_ret2
                    exact ⟨by first | rfl | (simp; done) | (simp [*]; done), by repeat (first | exact Drawn0.refl _ | apply Drawn0.step)⟩
                  · rw [if_neg c10] at H
                    have c10b0 : (a0 == 127) = false := beq_eq_false_iff_ne.mpr c10
                    have c10b1 : (a0 != 127) = true := bne_iff_ne.mpr c10
                    by_cases c11 : a0 = 128
                    · rw [if_pos c11] at H
                      have c11b0 : (a0 == 128) = true := beq_iff_eq.mpr c11
                      have c11b1 : (a0 != 128) = false := bne_eq_false_iff_eq.mpr c11
                      clear c11
                      simp only [Option.some.injEq, Prod.mk.injEq] at H
                      obtain ⟨rfl, rfl⟩ := H
                      go_enter Tryd.func37, Tryd.ntmps37
                      go_wp2
                      go_ret2
                      exact ⟨by first | rfl | (simp; done) | (simp [*]; done), by repeat (first | exact Drawn0.refl _ | apply Drawn0.step)⟩
                    · rw [if_neg c11] at H
                      have c11b0 : (a0 == 128) = false := beq_eq_false_iff_ne.mpr c11
                      have c11b1 : (a0 != 128) = true := bne_iff_ne.mpr c11
                      by_cases c12 : a0 = 129
                      · rw [if_pos c12] at H
                        have c12b0 : (a0 == 129) = true := beq_iff_eq.mpr c12
                        have c12b1 : (a0 != 129) = false := bne_eq_false_iff_eq.mpr c12
                        clear c12
                        simp only [Option.some.injEq, Prod.mk.injEq] at H
                        obtain ⟨rfl, rfl⟩ := H
                        go_enter Tryd.func37, Tryd.ntmps37
                        go_wp2
                        go_ret2
                        exact ⟨by first | rfl | (simp; done) | (simp [*]; done), by repeat (first | exact Drawn0.refl _ | apply Drawn0.step)⟩
                      · rw [if_neg c12] at H
                        have c12b0 : (a0 == 129) = false := beq_eq_false_iff_ne.mpr c12
                        have c12b1 : (a0 != 129) = true := bne_iff_ne.mpr c12
                        by_cases c13 : a0 = 140
                        · rw [if_pos c13] at H
                          have c13b0 : (a0 == 140) = true := beq_iff_eq.mpr c13
                          have c13b1 : (a0 != 140) = false := bne_eq_false_iff_eq.mpr c13
                          clear c13
                          simp only [Option.some.injEq, Prod.mk.injEq] at H
                          obtain ⟨rfl, rfl⟩ := H
                          go_enter Tryd.func37, Tryd.ntmps37
                          go_wp2
                          go_ret2
                          exact ⟨by first | rfl | (simp; done) | (simp [*]; done), by repeat (first | exact Drawn0.refl _ | apply Drawn0.step)⟩
                        · rw [if_neg c13] at H
                          have c13b0 : (a0 == 140) = false := beq_eq_false_iff_ne.mpr c13
                          have c13b1 : (a0 != 140) = true := bne_iff_ne.mpr c13
                          by_cases c14 : a0 = 141
                          · rw [if_pos c14] at H
                            have c14b0 : (a0 == 141) = true := beq_iff_eq.mpr c14
                            have c14b1 : (a0 != 141) = false := bne_eq_false_iff_eq.mpr c14
                            clear c14
                            simp only [Option.some.injEq, Prod.mk.injEq] at H
                            obtain ⟨rfl, rfl⟩ := H
                            go_enter Tryd.func37, Tryd.ntmps37
                            go_wp2
                            go_ret2
                            exact ⟨by first | rfl | (simp; done) | (simp [*]; done), by repeat (first | exact Drawn0.refl _ | apply Drawn0.step)⟩
                          · rw [if_neg c14] at H
                            have c14b0 : (a0 == 141) = false := beq_eq_false_iff_ne.mpr c14
                            have c14b1 : (a0 != 141) = true := bne_iff_ne.mpr c14
                            by_cases c15 : a0 = 150
                            · rw [if_pos c15] at H
                              have c15b0 : (a0 == 150) = true := beq_iff_eq.mpr c15
                              have c15b1 : (a0 != 150) = false := bne_eq_false_iff_eq.mpr c15
                              clear c15
                              simp only [Option.some.injEq, Prod.mk.injEq] at H
                              obtain ⟨rfl, rfl⟩ := H
                              go_enter Tryd.func37, Tryd.ntmps37
                              go_wp2
                              go_ret2
                              exact ⟨by first | rfl | (simp; done) | (simp [*]; done), by repeat (first | exact Drawn0.refl _ | apply Drawn0.step)⟩
                            · rw [if_neg c15] at H
                              have c15b0 : (a0 == 150) = false := beq_eq_false_iff_ne.mpr c15
                              have c15b1 : (a0 != 150) = true := bne_iff_ne.mpr c15
                              simp only [Option.some.injEq, Prod.mk.injEq] at H
                              obtain ⟨rfl, rfl⟩ := H
                              go_enter Tryd.func37, Tryd.ntmps37
                              go_wp2
                              go_ret2
                              exact ⟨by first | rfl | (simp; done) | (simp [*]; done), by repeat (first | exact Drawn0.refl _ | apply Drawn0.step)⟩

end Go.Proofs.YtebbipofemjnmaaDoor.P
