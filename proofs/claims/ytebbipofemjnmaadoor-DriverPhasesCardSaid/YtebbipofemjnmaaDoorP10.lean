-- Written by a program of this work's (wip/tools/px.py over the seat's translation); Lean checks it.
import Derived.Test.YtebbipofemjnmaaDoorP0
namespace Go.Proofs.YtebbipofemjnmaaDoor.P
open Go.RowKit Go.Proofs.YtebbipofemjnmaaDoorW.PrintWords Go.Proofs.YtebbipofemjnmaaDoorW.PrintLast Go.Proofs.YtebbipofemjnmaaDoorW.PrintMore
attribute [local go_sem] max2_int min2_int max_two min_two max_three min_three max_four min_four   -- for this text's walks alone
set_option linter.unusedVariables false
set_option linter.unusedSimpArgs false

/-! ### junctionref14_saying4: function 38 -/
def junctionref14_saying4.f (a0 : Int) : Option (ByteArray × Bool) := if a0 = 160 then (some ((⟨#[110, 111, 32, 102, 108, 97, 115, 104]⟩ : ByteArray), true)) else (if a0 = 161 then (some ((⟨#[110, 111, 32, 115, 117, 99, 104, 32, 115, 108, 111, 116]⟩ : ByteArray), true)) else (if a0 = 162 then (some ((⟨#[97, 110, 32, 101, 109, 112, 116, 121, 32, 115, 108, 111, 116]⟩ : ByteArray), true)) else (if a0 = 163 then (some ((⟨#[110, 111, 32, 114, 111, 111, 109]⟩ : ByteArray), true)) else (if a0 = 164 then (some ((⟨#[100, 97, 116, 97, 32, 116, 104, 97, 116, 32, 99, 97, 110, 110, 111, 116, 32, 98, 101, 32, 107, 101, 112, 116]⟩ : ByteArray), true)) else (if a0 = 165 then (some ((⟨#[105, 110, 32, 117, 115, 101]⟩ : ByteArray), true)) else (if a0 = 166 then (some ((⟨#[97, 110, 32, 97, 99, 116, 32, 116, 104, 97, 116, 32, 99, 97, 110, 110, 111, 116, 32, 98, 101, 32, 100, 111, 110, 101]⟩ : ByteArray), true)) else (if a0 = 167 then (some ((⟨#[119, 111, 114, 110, 32, 111, 117, 116]⟩ : ByteArray), true)) else (if a0 = 170 then (some ((⟨#[110, 111, 32, 102, 114, 97, 109, 101]⟩ : ByteArray), true)) else (if a0 = 171 then (some ((⟨#[97, 32, 119, 114, 111, 110, 103, 32, 115, 117, 109]⟩ : ByteArray), true)) else (if a0 = 172 then (some ((⟨#[110, 111, 116, 32, 115, 116, 117, 102, 102, 101, 100]⟩ : ByteArray), true)) else (if a0 = 173 then (some ((⟨#[110, 111, 32, 109, 101, 115, 115, 97, 103, 101]⟩ : ByteArray), true)) else (if a0 = 174 then (some ((⟨#[97, 32, 102, 117, 108, 108, 32, 113, 117, 101, 117, 101]⟩ : ByteArray), true)) else (if a0 = 180 then (some ((⟨#[116, 111, 111, 32, 108, 111, 110, 103]⟩ : ByteArray), true)) else (if a0 = 181 then (some ((⟨#[97, 32, 108, 105, 110, 101, 32, 116, 104, 97, 116, 32, 105, 115, 32, 110, 111, 110, 101]⟩ : ByteArray), true)) else (if a0 = 182 then (some ((⟨#[110, 111, 32, 100, 97, 116, 101]⟩ : ByteArray), true)) else (if a0 = 183 then (some ((⟨#[110, 111, 32, 116, 105, 109, 101, 32, 111, 102, 32, 100, 97, 121]⟩ : ByteArray), true)) else (if a0 = 184 then (some ((⟨#[110, 111, 32, 115, 117, 99, 104, 32, 107, 105, 110, 100, 32, 111, 102, 32, 100, 97, 121]⟩ : ByteArray), true)) else (if a0 = 185 then (some ((⟨#[116, 119, 105, 99, 101]⟩ : ByteArray), true)) else (if a0 = 186 then (some ((⟨#[111, 117, 116, 32, 111, 102, 32, 111, 114, 100, 101, 114]⟩ : ByteArray), true)) else (if a0 = 187 then (some ((⟨#[116, 111, 111, 32, 109, 97, 110, 121]⟩ : ByteArray), true)) else (if a0 = 188 then (some ((⟨#[115, 111, 109, 101, 116, 104, 105, 110, 103, 32, 105, 115, 32, 109, 105, 115, 115, 105, 110, 103]⟩ : ByteArray), true)) else (if a0 = 189 then (some ((⟨#[111, 117, 116, 115, 105, 100, 101, 32, 116, 104, 101, 32, 99, 97, 108, 101, 110, 100, 97, 114]⟩ : ByteArray), true)) else (if a0 = 190 then (some ((⟨#[110, 111, 32, 99, 111, 109, 109, 97, 110, 100]⟩ : ByteArray), true)) else (if a0 = 191 then (some ((⟨#[97, 32, 119, 114, 111, 110, 103, 32, 97, 114, 103, 117, 109, 101, 110, 116]⟩ : ByteArray), true)) else (if a0 = 192 then (some ((⟨#[111, 102, 102]⟩ : ByteArray), true)) else (if a0 = 193 then (some ((⟨#[97, 32, 119, 114, 111, 110, 103, 32, 117, 112, 108, 111, 97, 100]⟩ : ByteArray), true)) else (if a0 = 194 then (some ((⟨#[114, 101, 102, 117, 115, 101, 100]⟩ : ByteArray), true)) else (some ((⟨#[]⟩ : ByteArray), false)))))))))))))))))))))))))))))
set_option maxHeartbeats 8000000 in
set_option maxRecDepth 100000 in
theorem junctionref14_saying4.calls (a0 : Int) (r1 : ByteArray) (r2 : Bool) (w : World) (h : junctionref14_saying4.f a0 = some (r1, r2)) :
    Calls Tryd.prog 38 #[.int .i64 a0] w fun e w' => e = .returned (.tuple #[.string r1, .bool r2]) ∧ Drawn0 w w' := by
  have H : (if a0 = 160 then (some ((⟨#[110, 111, 32, 102, 108, 97, 115, 104]⟩ : ByteArray), true)) else (if a0 = 161 then (some ((⟨#[110, 111, 32, 115, 117, 99, 104, 32, 115, 108, 111, 116]⟩ : ByteArray), true)) else (if a0 = 162 then (some ((⟨#[97, 110, 32, 101, 109, 112, 116, 121, 32, 115, 108, 111, 116]⟩ : ByteArray), true)) else (if a0 = 163 then (some ((⟨#[110, 111, 32, 114, 111, 111, 109]⟩ : ByteArray), true)) else (if a0 = 164 then (some ((⟨#[100, 97, 116, 97, 32, 116, 104, 97, 116, 32, 99, 97, 110, 110, 111, 116, 32, 98, 101, 32, 107, 101, 112, 116]⟩ : ByteArray), true)) else (if a0 = 165 then (some ((⟨#[105, 110, 32, 117, 115, 101]⟩ : ByteArray), true)) else (if a0 = 166 then (some ((⟨#[97, 110, 32, 97, 99, 116, 32, 116, 104, 97, 116, 32, 99, 97, 110, 110, 111, 116, 32, 98, 101, 32, 100, 111, 110, 101]⟩ : ByteArray), true)) else (if a0 = 167 then (some ((⟨#[119, 111, 114, 110, 32, 111, 117, 116]⟩ : ByteArray), true)) else (if a0 = 170 then (some ((⟨#[110, 111, 32, 102, 114, 97, 109, 101]⟩ : ByteArray), true)) else (if a0 = 171 then (some ((⟨#[97, 32, 119, 114, 111, 110, 103, 32, 115, 117, 109]⟩ : ByteArray), true)) else (if a0 = 172 then (some ((⟨#[110, 111, 116, 32, 115, 116, 117, 102, 102, 101, 100]⟩ : ByteArray), true)) else (if a0 = 173 then (some ((⟨#[110, 111, 32, 109, 101, 115, 115, 97, 103, 101]⟩ : ByteArray), true)) else (if a0 = 174 then (some ((⟨#[97, 32, 102, 117, 108, 108, 32, 113, 117, 101, 117, 101]⟩ : ByteArray), true)) else (if a0 = 180 then (some ((⟨#[116, 111, 111, 32, 108, 111, 110, 103]⟩ : ByteArray), true)) else (if a0 = 181 then (some ((⟨#[97, 32, 108, 105, 110, 101, 32, 116, 104, 97, 116, 32, 105, 115, 32, 110, 111, 110, 101]⟩ : ByteArray), true)) else (if a0 = 182 then (some ((⟨#[110, 111, 32, 100, 97, 116, 101]⟩ : ByteArray), true)) else (if a0 = 183 then (some ((⟨#[110, 111, 32, 116, 105, 109, 101, 32, 111, 102, 32, 100, 97, 121]⟩ : ByteArray), true)) else (if a0 = 184 then (some ((⟨#[110, 111, 32, 115, 117, 99, 104, 32, 107, 105, 110, 100, 32, 111, 102, 32, 100, 97, 121]⟩ : ByteArray), true)) else (if a0 = 185 then (some ((⟨#[116, 119, 105, 99, 101]⟩ : ByteArray), true)) else (if a0 = 186 then (some ((⟨#[111, 117, 116, 32, 111, 102, 32, 111, 114, 100, 101, 114]⟩ : ByteArray), true)) else (if a0 = 187 then (some ((⟨#[116, 111, 111, 32, 109, 97, 110, 121]⟩ : ByteArray), true)) else (if a0 = 188 then (some ((⟨#[115, 111, 109, 101, 116, 104, 105, 110, 103, 32, 105, 115, 32, 109, 105, 115, 115, 105, 110, 103]⟩ : ByteArray), true)) else (if a0 = 189 then (some ((⟨#[111, 117, 116, 115, 105, 100, 101, 32, 116, 104, 101, 32, 99, 97, 108, 101, 110, 100, 97, 114]⟩ : ByteArray), true)) else (if a0 = 190 then (some ((⟨#[110, 111, 32, 99, 111, 109, 109, 97, 110, 100]⟩ : ByteArray), true)) else (if a0 = 191 then (some ((⟨#[97, 32, 119, 114, 111, 110, 103, 32, 97, 114, 103, 117, 109, 101, 110, 116]⟩ : ByteArray), true)) else (if a0 = 192 then (some ((⟨#[111, 102, 102]⟩ : ByteArray), true)) else (if a0 = 193 then (some ((⟨#[97, 32, 119, 114, 111, 110, 103, 32, 117, 112, 108, 111, 97, 100]⟩ : ByteArray), true)) else (if a0 = 194 then (some ((⟨#[114, 101, 102, 117, 115, 101, 100]⟩ : ByteArray), true)) else (some ((⟨#[]⟩ : ByteArray), false)))))))))))))))))))))))))))))) = some (r1, r2) := h
  clear h
  by_cases c2 : a0 = 160
  · rw [if_pos c2] at H
    have c2b0 : (a0 == 160) = true := beq_iff_eq.mpr c2
    have c2b1 : (a0 != 160) = false := bne_eq_false_iff_eq.mpr c2
    clear c2
    simp only [Option.some.injEq, Prod.mk.injEq] at H
    obtain ⟨rfl, rfl⟩ := H
    go_enter Tryd.func38, Tryd.ntmps38
    go_wp2
    go_ret2
    exact ⟨by first | rfl | (simp; done) | (simp [*]; done), by repeat (first | exact Drawn0.refl _ | apply Drawn0.step)⟩
  · rw [if_neg c2] at H
    have c2b0 : (a0 == 160) = false := beq_eq_false_iff_ne.mpr c2
    have c2b1 : (a0 != 160) = true := bne_iff_ne.mpr c2
    by_cases c3 : a0 = 161
    · rw [if_pos c3] at H
      have c3b0 : (a0 == 161) = true := beq_iff_eq.mpr c3
      have c3b1 : (a0 != 161) = false := bne_eq_false_iff_eq.mpr c3
      clear c3
      simp only [Option.some.injEq, Prod.mk.injEq] at H
      obtain ⟨rfl, rfl⟩ := H
      go_enter Tryd.func38, Tryd.ntmps38
      go_wp2
      go_ret2
      exact ⟨by first | rfl | (simp; done) | (simp [*]; done), by repeat (first | exact Drawn0.refl _ | apply Drawn0.step)⟩
    · rw [if_neg c3] at H
      have c3b0 : (a0 == 161) = false := beq_eq_false_iff_ne.mpr c3
      have c3b1 : (a0 != 161) = true := bne_iff_ne.mpr c3
      by_cases c4 : a0 = 162
      · rw [if_pos c4] at H
        have c4b0 : (a0 == 162) = true := beq_iff_eq.mpr c4
        have c4b1 : (a0 != 162) = false := bne_eq_false_iff_eq.mpr c4
        clear c4
        simp only [Option.some.injEq, Prod.mk.injEq] at H
        obtain ⟨rfl, rfl⟩ := H
        go_enter Tryd.func38, Tryd.ntmps38
        go_wp2
        go_ret2
        exact ⟨by first | rfl | (simp; done) | (simp [*]; done), by repeat (first | exact Drawn0.refl _ | apply Drawn0.step)⟩
      · rw [if_neg c4] at H
        have c4b0 : (a0 == 162) = false := beq_eq_false_iff_ne.mpr c4
        have c4b1 : (a0 != 162) = true := bne_iff_ne.mpr c4
        by_cases c5 : a0 = 163
        · rw [if_pos c5] at H
          have c5b0 : (a0 == 163) = true := beq_iff_eq.mpr c5
          have c5b1 : (a0 != 163) = false := bne_eq_false_iff_eq.mpr c5
          clear c5
          simp only [Option.some.injEq, Prod.mk.injEq] at H
          obtain ⟨rfl, rfl⟩ := H
          go_enter Tryd.func38, Tryd.ntmps38
          go_wp2
          go_ret2
          exact ⟨by first | rfl | (simp; done) | (simp [*]; done), by repeat (first | exact Drawn0.refl _ | apply Drawn0.step)⟩
        · rw [if_neg c5] at H
          have c5b0 : (a0 == 163) = false := beq_eq_false_iff_ne.mpr c5
          have c5b1 : (a0 != 163) = true := bne_iff_ne.mpr c5
          by_cases c6 : a0 = 164
          · rw [if_pos c6] at H
            have c6b0 : (a0 == 164) = true := beq_iff_eq.mpr c6
            have c6b1 : (a0 != 164) = false := bne_eq_false_iff_eq.mpr c6
            clear c6
            simp only [Option.some.injEq, Prod.mk.injEq] at H
            obtain ⟨rfl, rfl⟩ := H
            go_enter Tryd.func38, Tryd.ntmps38
            go_wp2
            go_ret2
            exact ⟨by first | rfl | (simp; done) | (simp [*]; done), by repeat (first | exact Drawn0.refl _ | apply Drawn0.step)⟩
          · rw [if_neg c6] at H
            have c6b0 : (a0 == 164) = false := beq_eq_false_iff_ne.mpr c6
            have c6b1 : (a0 != 164) = true := bne_iff_ne.mpr c6
            by_cases c7 : a0 = 165
            · rw [if_pos c7] at H
              have c7b0 : (a0 == 165) = true := beq_iff_eq.mpr c7
              have c7b1 : (a0 != 165) = false := bne_eq_false_iff_eq.mpr c7
              clear c7
              simp only [Option.some.injEq, Prod.mk.injEq] at H
              obtain ⟨rfl, rfl⟩ := H
              go_enter Tryd.func38, Tryd.ntmps38
              go_wp2
              go_ret2
              exact ⟨by first | rfl | (simp; done) | (simp [*]; done), by repeat (first | exact Drawn0.refl _ | apply Drawn0.step)⟩
            · rw [if_neg c7] at H
              have c7b0 : (a0 == 165) = false := beq_eq_false_iff_ne.mpr c7
              have c7b1 : (a0 != 165) = true := bne_iff_ne.mpr c7
              by_cases c8 : a0 = 166
              · rw [if_pos c8] at H
                have c8b0 : (a0 == 166) = true := beq_iff_eq.mpr c8
                have c8b1 : (a0 != 166) = false := bne_eq_false_iff_eq.mpr c8
                clear c8
                simp only [Option.some.injEq, Prod.mk.injEq] at H
                obtain ⟨rfl, rfl⟩ := H
                go_enter Tryd.func38, Tryd.ntmps38
                go_wp2
                go_ret2
                exact ⟨by first | rfl | (simp; done) | (simp [*]; done), by repeat (first | exact Drawn0.refl _ | apply Drawn0.step)⟩
              · rw [if_neg c8] at H
                have c8b0 : (a0 == 166) = false := beq_eq_false_iff_ne.mpr c8
                have c8b1 : (a0 != 166) = true := bne_iff_ne.mpr c8
                by_cases c9 : a0 = 167
                · rw [if_pos c9] at H
                  have c9b0 : (a0 == 167) = true := beq_iff_eq.mpr c9
                  have c9b1 : (a0 != 167) = false := bne_eq_false_iff_eq.mpr c9
                  clear c9
                  simp only [Option.some.injEq, Prod.mk.injEq] at H
                  obtain ⟨rfl, rfl⟩ := H
                  go_enter Tryd.func38, Tryd.ntmps38
                  go_wp2
                  go_ret2
                  exact ⟨by first | rfl | (simp; done) | (simp [*]; done), by repeat (first | exact Drawn0.refl _ | apply Drawn0.step)⟩
                · rw [if_neg c9] at H
                  have c9b0 : (a0 == 167) = false := beq_eq_false_iff_ne.mpr c9
                  have c9b1 : (a0 != 167) = true := bne_iff_ne.mpr c9
                  by_cases c10 : a0 = 170
                  · rw [if_pos c10] at H
                    have c10b0 : (a0 == 170) = true := beq_iff_eq.mpr c10
                    have c10b1 : (a0 != 170) = false := bne_eq_false_iff_eq.mpr c10
                    clear c10
                    simp only [Option.some.injEq, Prod.mk.injEq] at H
                    obtain ⟨rfl, rfl⟩ := H
                    go_enter Tryd.func38, Tryd.ntmps38
                    go_wp2
                    go_ret2
                    exact ⟨by first | rfl | (simp; done) | (simp [*]; done), by repeat (first | exact Drawn0.refl _ | apply Drawn0.step)⟩
                  · rw [if_neg c10] at H
                    have c10b0 : (a0 == 170) = false := beq_eq_false_iff_ne.mpr c10
                    have c10b1 : (a0 != 170) = true := bne_iff_ne.mpr c10
                    by_cases c11 : a0 = 171
                    · rw [if_pos c11] at H
                      have c11b0 : (a0 == 171) = true := beq_iff_eq.mpr c11
                      have c11b1 : (a0 != 171) = false := bne_eq_false_iff_eq.mpr c11
                      clear c11
                      simp only [Option.some.injEq, Prod.mk.injEq] at H
                      obtain ⟨rfl, rfl⟩ := H
                      go_enter Tryd.func38, Tryd.ntmps38
                      go_wp2
                      go_ret2
                      exact ⟨by first | rfl | (simp; done) | (simp [*]; done), by repeat (first | exact Drawn0.refl _ | apply Drawn0.step)⟩
                    · rw [if_neg c11] at H
                      have c11b0 : (a0 == 171) = false := beq_eq_false_iff_ne.mpr c11
                      have c11b1 : (a0 != 171) = true := bne_iff_ne.mpr c11
                      by_cases c12 : a0 = 172
                      · rw [if_pos c12] at H
                        have c12b0 : (a0 == 172) = true := beq_iff_eq.mpr c12
                        have c12b1 : (a0 != 172) = false := bne_eq_false_iff_eq.mpr c12
                        clear c12
                        simp only [Option.some.injEq, Prod.mk.injEq] at H
                        obtain ⟨rfl, rfl⟩ := H
                        go_enter Tryd.func38, Tryd.ntmps38
                        go_wp2
                        go_ret2
                        exact ⟨by first | rfl | (simp; done) | (simp [*]; done), by repeat (first | exact Drawn0.refl _ | apply Drawn0.step)⟩
                      · rw [if_neg c12] at H
                        have c12b0 : (a0 == 172) = false := beq_eq_false_iff_ne.mpr c12
                        have c12b1 : (a0 != 172) = true := bne_iff_ne.mpr c12
                        by_cases c13 : a0 = 173
                        · rw [if_pos c13] at H
                          have c13b0 : (a0 == 173) = true := beq_iff_eq.mpr c13
                          have c13b1 : (a0 != 173) = false := bne_eq_false_iff_eq.mpr c13
                          clear c13
                          simp only [Option.some.injEq, Prod.mk.injEq] at H
                          obtain ⟨rfl, rfl⟩ := H
                          go_enter Tryd.func38, Tryd.ntmps38
                          go_wp2
                          go_ret2
                          exact ⟨by first | rfl | (simp; done) | (simp [*]; done), by repeat (first | exact Drawn0.refl _ | apply Drawn0.step)⟩
                        · rw [if_neg c13] at H
                          have c13b0 : (a0 == 173) = false := beq_eq_false_iff_ne.mpr c13
                          have c13b1 : (a0 != 173) = true := bne_iff_ne.mpr c13
                          by_cases c14 : a0 = 174
                          · rw [if_pos c14] at H
                            have c14b0 : (a0 == 174) = true := beq_iff_eq.mpr c14
                            have c14b1 : (a0 != 174) = false := bne_eq_false_iff_eq.mpr c14
                            clear c14
                            simp only [Option.some.injEq, Prod.mk.injEq] at H
                            obtain ⟨rfl, rfl⟩ := H
                            go_enter Tryd.func38, Tryd.ntmps38
                            go_wp2
                            go_ret2
                            exact ⟨by first | rfl | (simp; done) | (simp [*]; done), by repeat (first | exact Drawn0.refl _ | apply Drawn0.step)⟩
                          · rw [if_neg c14] at H
                            have c14b0 : (a0 == 174) = false := beq_eq_false_iff_ne.mpr c14
                            have c14b1 : (a0 != 174) = true := bne_iff_ne.mpr c14
                            by_cases c15 : a0 = 180
                            · rw [if_pos c15] at H
                              have c15b0 : (a0 == 180) = true := beq_iff_eq.mpr c15
                              have c15b1 : (a0 != 180) = false := bne_eq_false_iff_eq.mpr c15
                              clear c15
                              simp only [Option.some.injEq, Prod.mk.injEq] at H
                              obtain ⟨rfl, rfl⟩ := H
                              go_enter Tryd.func38, Tryd.ntmps38
                              go_wp2
                              go_ret2
                              exact ⟨by first | rfl | (simp; done) | (simp [*]; done), by repeat (first | exact Drawn0.refl _ | apply Drawn0.step)⟩
                            · rw [if_neg c15] at H
                              have c15b0 : (a0 == 180) = false := beq_eq_false_iff_ne.mpr c15
                              have c15b1 : (a0 != 180) = true := bne_iff_ne.mpr c15
                              by_cases c16 : a0 = 181
                              · rw [if_pos c16] at H
                                have c16b0 : (a0 == 181) = true := beq_iff_eq.mpr c16
                                have c16b1 : (a0 != 181) = false := bne_eq_false_iff_eq.mpr c16
                                clear c16
                                simp only [Option.some.injEq, Prod.mk.injEq] at H
                                obtain ⟨rfl, rfl⟩ := H
                                go_enter Tryd.func38, Tryd.ntmps38
                                go_wp2
                                go_ret2
                                exact ⟨by first | rfl | (simp; done) | (simp [*]; done), by repeat (first | exact Drawn0.refl _ | apply Drawn0.step)⟩
                              · rw [if_neg c16] at H
                                have c16b0 : (a0 == 181) = false := beq_eq_false_iff_ne.mpr c16
                                have c16b1 : (a0 != 181) = true := bne_iff_ne.mpr c16
                                by_cases c17 : a0 = 182
                                · rw [if_pos c17] at H
                                  have c17b0 : (a0 == 182) = true := beq_iff_eq.mpr c17
                                  have c17b1 : (a0 != 182) = false := bne_eq_false_iff_eq.mpr c17
                                  clear c17
                                  simp only [Option.some.injEq, Prod.mk.injEq] at H
                                  obtain ⟨rfl, rfl⟩ := H
                                  go_enter Tryd.func38, Tryd.ntmps38
                                  go_wp2
                                  go_ret2
                                  exact ⟨by first | rfl | (simp; done) | (simp [*]; done), by repeat (first | exact Drawn0.refl _ | apply Drawn0.step)⟩
                                · rw [if_neg c17] at H
                                  have c17b0 : (a0 == 182) = false := beq_eq_false_iff_ne.mpr c17
                                  have c17b1 : (a0 != 182) = true := bne_iff_ne.mpr c17
                                  by_cases c18 : a0 = 183
                                  · rw [if_pos c18] at H
                                    have c18b0 : (a0 == 183) = true := beq_iff_eq.mpr c18
                                    have c18b1 : (a0 != 183) = false := bne_eq_false_iff_eq.mpr c18
                                    clear c18
                                    simp only [Option.some.injEq, Prod.mk.injEq] at H
                                    obtain ⟨rfl, rfl⟩ := H
                                    go_enter Tryd.func38, Tryd.ntmps38
                                    go_wp2
                                    go_ret2
                                    exact ⟨by first | rfl | (simp; done) | (simp [*]; done), by repeat (first | exact Drawn0.refl _ | apply Drawn0.step)⟩
                                  · rw [if_neg c18] at H
                                    have c18b0 : (a0 == 183) = false := beq_eq_false_iff_ne.mpr c18
                                    have c18b1 : (a0 != 183) = true := bne_iff_ne.mpr c18
                                    by_cases c19 : a0 = 184
                                    · rw [if_pos c19] at H
                                      have c19b0 : (a0 == 184) = true := beq_iff_eq.mpr c19
                                      have c19b1 : (a0 != 184) = false := bne_eq_false_iff_eq.mpr c19
                                      clear c19
                                      simp only [Option.some.injEq, Prod.mk.injEq] at H
                                      obtain ⟨rfl, rfl⟩ := H
                                      go_enter Tryd.func38, Tryd.ntmps38
                                      go_wp2
                                      go_ret2
                                      exact ⟨by first | rfl | (simp; done) | (simp [*]; done), by repeat (first | exact Drawn0.refl _ | apply Drawn0.step)⟩
                                    · rw [if_neg c19] at H
                                      have c19b0 : (a0 == 184) = false := beq_eq_false_iff_ne.mpr c19
                                      have c19b1 : (a0 != 184) = true := bne_iff_ne.mpr c19
                                      by_cases c20 : a0 = 185
                                      · rw [if_pos c20] at H
                                        have c20b0 : (a0 == 185) = true := beq_iff_eq.mpr c20
                                        have c20b1 : (a0 != 185) = false := bne_eq_false_iff_eq.mpr c20
                                        clear c20
                                        simp only [Option.some.injEq, Prod.mk.injEq] at H
                                        obtain ⟨rfl, rfl⟩ := H
                                        go_enter Tryd.func38, Tryd.ntmps38
                                        go_wp2
                                        go_ret2
                                        exact ⟨by first | rfl | (simp; done) | (simp [*]; done), by repeat (first | exact Drawn0.refl _ | apply Drawn0.step)⟩
                                      · rw [if_neg c20] at H
                                        have c20b0 : (a0 == 185) = false := beq_eq_false_iff_ne.mpr c20
                                        have c20b1 : (a0 != 185) = true := bne_iff_ne.mpr c20
                                        by_cases c21 : a0 = 186
                                        · rw [if_pos c21] at H
                                          have c21b0 : (a0 == 186) = true := beq_iff_eq.mpr c21
                                          have c21b1 : (a0 != 186) = false := bne_eq_false_iff_eq.mpr c21
                                          clear c21
                                          simp only [Option.some.injEq, Prod.mk.injEq] at H
                                          obtain ⟨rfl, rfl⟩ := H
                                          go_enter Tryd.func38, Tryd.ntmps38
                                          go_wp2
                                          go_ret2
                                          exact ⟨by first | rfl | (simp; done) | (simp [*]; done), by repeat (first | exact Drawn0.refl _ | apply Drawn0.step)⟩
                                        · rw [if_neg c21] at H
                                          have c21b0 : (a0 == 186) = false := beq_eq_false_iff_ne.mpr c21
                                          have c21b1 : (a0 != 186) = true := bne_iff_ne.mpr c21
                                          by_cases c22 : a0 = 187
                                          · rw [if_pos c22] at H
                                            have c22b0 : (a0 == 187) = true := beq_iff_eq.mpr c22
                                            have c22b1 : (a0 != 187) = false := bne_eq_false_iff_eq.mpr c22
                                            clear c22
                                            simp only [Option.some.injEq, Prod.mk.injEq] at H
                                            obtain ⟨rfl, rfl⟩ := H
                                            go_enter Tryd.func38, Tryd.ntmps38
                                            go_wp2
                                            go_ret2
                                            exact ⟨by first | rfl | (simp; done) | (simp [*]; done), by repeat (first | exact Drawn0.refl _ | apply Drawn0.step)⟩
                                          · rw [if_neg c22] at H
                                            have c22b0 : (a0 == 187) = false := beq_eq_false_iff_ne.mpr c22
                                            have c22b1 : (a0 != 187) = true := bne_iff_ne.mpr c22
                                            by_cases c23 : a0 = 188
                                            · rw [if_pos c23] at H
                                              have c23b0 : (a0 == 188) = true := beq_iff_eq.mpr c23
                                              have c23b1 : (a0 != 188) = false := bne_eq_false_iff_eq.mpr c23
                                              clear c23
                                              simp only [Option.some.injEq, Prod.mk.injEq] at H
                                              obtain ⟨rfl, rfl⟩ := H
                                              go_enter Tryd.func38, Tryd.ntmps38
                                              go_wp2
                                              go_ret2
                                              exact ⟨by first | rfl | (simp; done) | (simp [*]; done), by repeat (first | exact Drawn0.refl _ | apply Drawn0.step)⟩
                                            · rw [if_neg c23] at H
                                              have c23b0 : (a0 == 188) = false := beq_eq_false_iff_ne.mpr c23
                                              have c23b1 : (a0 != 188) = true := bne_iff_ne.mpr c23
                                              by_cases c24 : a0 = 189
                                              · rw [if_pos c24] at H
                                                have c24b0 : (a0 == 189) = true := beq_iff_eq.mpr c24
                                                have c24b1 : (a0 != 189) = false := bne_eq_false_iff_eq.mpr c24
                                                clear c24
                                                simp only [Option.some.injEq, Prod.mk.injEq] at H
                                                obtain ⟨rfl, rfl⟩ := H
                                                go_enter Tryd.func38, Tryd.ntmps38
                                                go_wp2
                                                go_ret2
                                                exact ⟨by first | rfl | (simp; done) | (simp [*]; done), by repeat (first | exact Drawn0.refl _ | apply Drawn0.step)⟩
                                              · rw [if_neg c24] at H
                                                have c24b0 : (a0 == 189) = false := beq_eq_false_iff_ne.mpr c24
                                                have c24b1 : (a0 != 189) = true := bne_iff_ne.mpr c24
                                                by_cases c25 : a0 = 190
                                                · rw [if_pos c25] at H
                                                  have c25b0 : (a0 == 190) = true := beq_iff_eq.mpr c25
                                                  have c25b1 : (a0 != 190) = false := bne_eq_false_iff_eq.mpr c25
                                                  clear c25
                                                  simp only [Option.some.injEq, Prod.mk.injEq] at H
                                                  obtain ⟨rfl, rfl⟩ := H
                                                  go_enter Tryd.func38, Tryd.ntmps38
                                                  go_wp2
                                                  go_ret2
                                                  exact ⟨by first | rfl | (simp; done) | (simp [*]; done), by repeat (first | exact Drawn0.refl _ | apply Drawn0.step)⟩
                                                · rw [if_neg c25] at H
                                                  have c25b0 : (a0 == 190) = false := beq_eq_false_iff_ne.mpr c25
                                                  have c25b1 : (a0 != 190) = true := bne_iff_ne.mpr c25
                                                  by_cases c26 : a0 = 191
                                                  · rw [if_pos c26] at H
                                                    have c26b0 : (a0 == 191) = true := beq_iff_eq.mpr c26
                                                    have c26b1 : (a0 != 191) = false := bne_eq_false_iff_eq.mpr c26
                                                    clear c26
                                                    simp only [Option.some.injEq, Prod.mk.injEq] at H
                                                    obtain ⟨rfl, rfl⟩ := H
                                                    go_enter Tryd.func38, Tryd.ntmps38
                                                    go_wp2
                                                    go_ret2
                                                    exact ⟨by first | rfl | (simp; done) | (simp [*]; done), by repeat (first | exact Drawn0.refl _ | apply Drawn0.step)⟩
                                                  · rw [if_neg c26] at H
                                                    have c26b0 : (a0 == 191) = false := beq_eq_false_iff_ne.mpr c26
                                                    have c26b1 : (a0 != 191) = true := bne_iff_ne.mpr c26
                                                    by_cases c27 : a0 = 192
                                                    · rw [if_pos c27] at H
                                                      have c27b0 : (a0 == 192) = true := beq_iff_eq.mpr c27
                                                      have c27b1 : (a0 != 192) = false := bne_eq_false_iff_eq.mpr c27
                                                      clear c27
                                                      simp only [Option.some.injEq, Prod.mk.injEq] at H
                                                      obtain ⟨rfl, rfl⟩ := H
                                                      go_enter Tryd.func38, Tryd.ntmps38
                                                      go_wp2
                                                      go_ret2
                                                      exact ⟨by first | rfl | (simp; done) | (simp [*]; done), by repeat (first | exact Drawn0.refl _ | apply Drawn0.step)⟩
                                                    · rw [if_neg c27] at H
                                                      have c27b0 : (a0 == 192) = false := beq_eq_false_iff_ne.mpr c27
                                                      have c27b1 : (a0 != 192) = true := bne_iff_ne.mpr c27
                                                      by_cases c28 : a0 = 193
                                                      · rw [if_pos c28] at H
                                                        have c28b0 : (a0 == 193) = true := beq_iff_eq.mpr c28
                                                        have c28b1 : (a0 != 193) = false := bne_eq_false_iff_eq.mpr c28
                                                        clear c28
                                                        simp only [Option.some.injEq, Prod.mk.injEq] at H
                                                        obtain ⟨rfl, rfl⟩ := H
                                                        go_enter Tryd.func38, Tryd.ntmps38
                                                        go_wp2
                                                        go_ret2
                                                        exact ⟨by first | rfl | (simp; done) | (simp [*]; done), by repeat (first | exact Drawn0.refl _ | apply Drawn0.step)⟩
                                                      · rw [if_neg c28] at H
                                                        have c28b0 : (a0 == 193) = false := beq_eq_false_iff_ne.mpr c28
                                                        have c28b1 : (a0 != 193) = true := bne_iff_ne.mpr c28
                                                        by_cases c29 : a0 = 194
                                                        · rw [if_pos c29] at H
                                                          have c29b0 : (a0 == 194) = true := beq_iff_eq.mpr c29
                                                          have c29b1 : (a0 != 194) = false := bne_eq_false_iff_eq.mpr c29
                                                          clear c29
                                                          simp only [Option.some.injEq, Prod.mk.injEq] at H
                                                          obtain ⟨rfl, rfl⟩ := H
                                                          go_enter Tryd.func38, Tryd.ntmps38
                                                          go_wp2
                                                          go_ret2
                                                          exact ⟨by first | rfl | (simp; done) | (simp [*]; done), by repeat (first | exact Drawn0.refl _ | apply Drawn0.step)⟩
                                                        · rw [if_neg c29] at H
                                                          have c29b0 : (a0 == 194) = false := beq_eq_false_iff_ne.mpr c29
                                                          have c29b1 : (a0 != 194) = true := bne_iff_ne.mpr c29
                                                          simp only [Option.some.injEq, Prod.mk.injEq] at H
                                                          obtain ⟨rfl, rfl⟩ := H
                                                          go_enter Tryd.func38, Tryd.ntmps38
                                                          go_wp2
                                                          go_ret2
                                                          exact ⟨by first | rfl | (simp; done) | (simp [*]; done), by repeat (first | exact Drawn0.refl _ | apply Drawn0.step)⟩

end Go.Proofs.YtebbipofemjnmaaDoor.P
