-- Written by a program of this work's (wip/tools/px.py over the seat's translation); Lean checks it.
import Derived.Test.YtdgempbldhdihaaDoorP0
namespace Go.Proofs.YtdgempbldhdihaaDoor.P
open Go.RowKit Go.Proofs.YtdgempbldhdihaaDoorW.PrintWords Go.Proofs.YtdgempbldhdihaaDoorW.PrintLast Go.Proofs.YtdgempbldhdihaaDoorW.PrintMore
attribute [local go_sem] max2_int min2_int max_two min_two max_three min_three max_four min_four   -- for this text's walks alone
set_option linter.unusedVariables false
set_option linter.unusedSimpArgs false

/-! ### junctionlaw6_Room_kept: function 18 -/
mutual
def junctionlaw6_Room_kept.j0 : Nat → Bool → List (S42) → List (S47) → List (S98) → List (List (S95)) → Option (Bool)
  | 0, _, _, _, _, _ => none
  | k + 1, x49, x226000, x226001, x226002, x226003 => if x49 = true then (some false) else (junctionlaw6_Room_kept.l0 k 0 x226000 x226001 x226002 x226003)
def junctionlaw6_Room_kept.l0 : Nat → Int → List (S42) → List (S47) → List (S98) → List (List (S95)) → Option (Bool)
  | 0, _, _, _, _, _ => none
  | k + 1, x5, x226000, x226001, x226002, x226003 => if x5 < (x226003.length : Int) then (if 0 ≤ x5 then (if 0 ≤ (wrap64 (((rd_L12 x226003 x5).length : Int) - 1)) then (if (wrap64 (((rd_L12 x226003 x5).length : Int) - 1)) < ((rd_L12 x226003 x5).length : Int) then (if ((rd_T95 (rd_L12 x226003 x5) (wrap64 (((rd_L12 x226003 x5).length : Int) - 1))).f0) = 77 then (if 0 ≤ (wrap64 (((rd_L12 x226003 x5).length : Int) - 2)) then (if (wrap64 (((rd_L12 x226003 x5).length : Int) - 2)) < ((rd_L12 x226003 x5).length : Int) then (if ((rd_T95 (rd_L12 x226003 x5) (wrap64 (((rd_L12 x226003 x5).length : Int) - 2))).f0) = 77 then (junctionlaw6_Room_kept.l0 k (wrap64 (x5 + 1)) x226000 x226001 x226002 x226003) else (some false)) else (none)) else (none)) else (some false)) else (none)) else (none)) else (none)) else (if (x226002.length : Int) = 0 then (some true) else (if 0 ≤ (wrap64 ((x226002.length : Int) - 1)) then (if (wrap64 ((x226002.length : Int) - 1)) < (x226002.length : Int) then (if ((rd_T98 x226002 (wrap64 ((x226002.length : Int) - 1))).f1) = 77 then (if 0 ≤ (wrap64 ((x226002.length : Int) - 2)) then (if (wrap64 ((x226002.length : Int) - 2)) < (x226002.length : Int) then (some (((rd_T98 x226002 (wrap64 ((x226002.length : Int) - 2))).f1) == 77)) else (none)) else (none)) else (some false)) else (none)) else (none)))
end
def junctionlaw6_Room_kept.f (k : Nat) (l0_0 : List (S42)) (l0_1 : List (S47)) (l0_2 : List (S98)) (l0_3 : List (List (S95))) : Option (Bool) := if 0 ≤ (wrap64 ((l0_0.length : Int) - 1)) then (if (wrap64 ((l0_0.length : Int) - 1)) < (l0_0.length : Int) then (if ((rd_T42 l0_0 (wrap64 ((l0_0.length : Int) - 1))).f2) = 77 then (if 0 ≤ (wrap64 ((l0_0.length : Int) - 2)) then (if (wrap64 ((l0_0.length : Int) - 2)) < (l0_0.length : Int) then (if ((rd_T42 l0_0 (wrap64 ((l0_0.length : Int) - 2))).f2) = 77 then (if 0 ≤ (wrap64 ((l0_1.length : Int) - 1)) then (if (wrap64 ((l0_1.length : Int) - 1)) < (l0_1.length : Int) then (if ((rd_T47 l0_1 (wrap64 ((l0_1.length : Int) - 1))).f2) = 77 then (if 0 ≤ (wrap64 ((l0_1.length : Int) - 2)) then (if (wrap64 ((l0_1.length : Int) - 2)) < (l0_1.length : Int) then (junctionlaw6_Room_kept.j0 k (((rd_T47 l0_1 (wrap64 ((l0_1.length : Int) - 2))).f2) != 77) l0_0 l0_1 l0_2 l0_3) else (none)) else (none)) else (junctionlaw6_Room_kept.j0 k true l0_0 l0_1 l0_2 l0_3)) else (none)) else (none)) else (junctionlaw6_Room_kept.j0 k true l0_0 l0_1 l0_2 l0_3)) else (none)) else (none)) else (junctionlaw6_Room_kept.j0 k true l0_0 l0_1 l0_2 l0_3)) else (none)) else (none)
theorem junctionlaw6_Room_kept.mono_l : ∀ k, (∀ y0 y1 y2 y3 y4, LeO (junctionlaw6_Room_kept.j0 k y0 y1 y2 y3 y4) (junctionlaw6_Room_kept.j0 (k + 1) y0 y1 y2 y3 y4)) ∧ (∀ y0 y1 y2 y3 y4, LeO (junctionlaw6_Room_kept.l0 k y0 y1 y2 y3 y4) (junctionlaw6_Room_kept.l0 (k + 1) y0 y1 y2 y3 y4))
  | 0 => ⟨fun _ _ _ _ _ r h => by simp [junctionlaw6_Room_kept.j0] at h, fun _ _ _ _ _ r h => by simp [junctionlaw6_Room_kept.l0] at h⟩
  | k + 1 => by
    obtain ⟨ih0, ih1⟩ := junctionlaw6_Room_kept.mono_l k
    refine ⟨?_, ?_⟩
    · intro y0 y1 y2 y3 y4
      unfold junctionlaw6_Room_kept.j0
      repeat' first
      | (with_reducible exact ih0 _ _ _ _ _)
      | (with_reducible exact ih1 _ _ _ _ _)
      | (with_reducible exact LeO.refl _)
      | (with_reducible exact LeO.none _)
      | (with_reducible refine LeO.ite ?_ ?_)
      | (with_reducible refine LeO.bind ?_ (fun _ => ?_))
      | exact ih0 _ _ _ _ _
      | exact ih1 _ _ _ _ _
      | exact LeO.none _
      | refine LeO.ite ?_ ?_
      | refine LeO.bind ?_ (fun _ => ?_)
    · intro y0 y1 y2 y3 y4
      unfold junctionlaw6_Room_kept.l0
      repeat' first
      | (with_reducible exact ih0 _ _ _ _ _)
      | (with_reducible exact ih1 _ _ _ _ _)
      | (with_reducible exact LeO.refl _)
      | (with_reducible exact LeO.none _)
      | (with_reducible refine LeO.ite ?_ ?_)
      | (with_reducible refine LeO.bind ?_ (fun _ => ?_))
      | exact ih0 _ _ _ _ _
      | exact ih1 _ _ _ _ _
      | exact LeO.none _
      | refine LeO.ite ?_ ?_
      | refine LeO.bind ?_ (fun _ => ?_)
theorem junctionlaw6_Room_kept.mono : ∀ a0 a1 a2 a3 k, LeO (junctionlaw6_Room_kept.f k a0 a1 a2 a3) (junctionlaw6_Room_kept.f (k + 1) a0 a1 a2 a3) := by
  intro a0 a1 a2 a3 k
  obtain ⟨ih0, ih1⟩ := junctionlaw6_Room_kept.mono_l k
  unfold junctionlaw6_Room_kept.f
  repeat' first
      | (with_reducible exact ih0 _ _ _ _ _)
      | (with_reducible exact ih1 _ _ _ _ _)
      | (with_reducible exact LeO.refl _)
      | (with_reducible exact LeO.none _)
      | (with_reducible refine LeO.ite ?_ ?_)
      | (with_reducible refine LeO.bind ?_ (fun _ => ?_))
      | exact ih0 _ _ _ _ _
      | exact ih1 _ _ _ _ _
      | exact LeO.none _
      | refine LeO.ite ?_ ?_
      | refine LeO.bind ?_ (fun _ => ?_)
set_option maxHeartbeats 8000000 in
set_option maxRecDepth 100000 in
theorem junctionlaw6_Room_kept.calls (k : Nat) (A0_0 : Option Addr) (c0_0 : Nat) (l0_0 : List (S42)) (A0_1 : Option Addr) (c0_1 : Nat) (l0_1 : List (S47)) (A0_2 : Option Addr) (c0_2 : Nat) (l0_2 : List (S98)) (A0_3 : Option Addr) (c0_3 : Nat) (l0_3 : List (List (S95))) (r : Bool) (w : World) (hr0_0 : Kd.C k42 w A0_0 l0_0.length l0_0) (hc0_0 : l0_0.length ≤ c0_0) (hr0_1 : Kd.C k47 w A0_1 l0_1.length l0_1) (hc0_1 : l0_1.length ≤ c0_1) (hr0_2 : Kd.C k98 w A0_2 l0_2.length l0_2) (hc0_2 : l0_2.length ≤ c0_2) (hr0_3 : Kd.C (Kd.slice 95 k95) w A0_3 l0_3.length l0_3) (hc0_3 : l0_3.length ≤ c0_3) (h : junctionlaw6_Room_kept.f k l0_0 l0_1 l0_2 l0_3 = some r) :
    Calls Tryd.prog 18 #[.agg #[.slice A0_0 l0_0.length c0_0, .slice A0_1 l0_1.length c0_1, .slice A0_2 l0_2.length c0_2, .slice A0_3 l0_3.length c0_3]] w fun e w' => e = .returned (.bool r) ∧ Below w.heap.size w w' := by
  have hu30 := Tryd.underlying30
  have HR0_0 := Aside0.mk hr0_0
  have HC0_0 := Aside0.mk hc0_0
  clear hr0_0 hc0_0
  have HR0_1 := Aside0.mk hr0_1
  have HC0_1 := Aside0.mk hc0_1
  clear hr0_1 hc0_1
  have HR0_2 := Aside0.mk hr0_2
  have HC0_2 := Aside0.mk hc0_2
  clear hr0_2 hc0_2
  have HR0_3 := Aside0.mk hr0_3
  have HC0_3 := Aside0.mk hc0_3
  clear hr0_3 hc0_3
  have HB := Aside0.mk (Below.refl w.heap.size w)
  have H : (if 0 ≤ (wrap64 ((l0_0.length : Int) - 1)) then (if (wrap64 ((l0_0.length : Int) - 1)) < (l0_0.length : Int) then (if ((rd_T42 l0_0 (wrap64 ((l0_0.length : Int) - 1))).f2) = 77 then (if 0 ≤ (wrap64 ((l0_0.length : Int) - 2)) then (if (wrap64 ((l0_0.length : Int) - 2)) < (l0_0.length : Int) then (if ((rd_T42 l0_0 (wrap64 ((l0_0.length : Int) - 2))).f2) = 77 then (if 0 ≤ (wrap64 ((l0_1.length : Int) - 1)) then (if (wrap64 ((l0_1.length : Int) - 1)) < (l0_1.length : Int) then (if ((rd_T47 l0_1 (wrap64 ((l0_1.length : Int) - 1))).f2) = 77 then (if 0 ≤ (wrap64 ((l0_1.length : Int) - 2)) then (if (wrap64 ((l0_1.length : Int) - 2)) < (l0_1.length : Int) then (junctionlaw6_Room_kept.j0 k (((rd_T47 l0_1 (wrap64 ((l0_1.length : Int) - 2))).f2) != 77) l0_0 l0_1 l0_2 l0_3) else (none)) else (none)) else (junctionlaw6_Room_kept.j0 k true l0_0 l0_1 l0_2 l0_3)) else (none)) else (none)) else (junctionlaw6_Room_kept.j0 k true l0_0 l0_1 l0_2 l0_3)) else (none)) else (none)) else (junctionlaw6_Room_kept.j0 k true l0_0 l0_1 l0_2 l0_3)) else (none)) else (none)) = some r := h
  clear h
  have HC2 := Aside0.mk H
  clear H
  go_enter Tryd.func18, Tryd.ntmps18
  go_upto_region 3 with (first | ((with_reducible refine gate_dst (N := 1) rfl ?_); refine box_event ?hg (N := 1) ?hd (cs := #[.slice A0_0 l0_0.length c0_0, .slice A0_1 l0_1.length c0_1, .slice A0_2 l0_2.length c0_2, .slice A0_3 l0_3.length c0_3]) (t := 30) ?hr ?_; (case hd => rfl); (case hg => rfl); (case hr => first | (go_simp; done) | (go_simp; rfl)); intro gb225 hg w3 hbox hb; have n0_ := Aside0.mk (below_step (by repeat (first | (with_reducible first | exact HB.out | apply below_alloc | apply pw_below_drewN | apply below_drew1) | exact HB.out)) hb); have n1_ := Aside0.mk (hbox); have n2_ := Aside0.mk ((by rw [hg]; exact (below_size (by repeat (first | (with_reducible first | exact HB.out | apply below_alloc | apply pw_below_drewN | apply below_drew1) | exact HB.out))) : w.heap.size ≤ gb225)); have n3_ := Aside0.mk ((by rw [hg]; exact (below_size (by repeat (first | (with_reducible first | exact HB.out | apply below_alloc | apply pw_below_drewN | apply below_drew1) | exact HB.out))) : w.heap.size ≤ gb225)); clear HB; have HB := n0_; have BK225 := n1_; have GW225 := n2_; have GE225 := n3_; clear n0_ n1_ n2_ n3_; clear hb hbox hg; have hcz4_0 : w3.cell? ⟨gb225, 0, none⟩ = some (.slice A0_0 l0_0.length c0_0) := (blk_cell BK225.out 0).trans rfl; have hcz4_1 : w3.cell? ⟨gb225, 1, none⟩ = some (.slice A0_1 l0_1.length c0_1) := (blk_cell BK225.out 1).trans rfl; have hcz4_2 : w3.cell? ⟨gb225, 2, none⟩ = some (.slice A0_2 l0_2.length c0_2) := (blk_cell BK225.out 2).trans rfl; have hcz4_3 : w3.cell? ⟨gb225, 3, none⟩ = some (.slice A0_3 l0_3.length c0_3) := (blk_cell BK225.out 3).trans rfl; have hfz4_0 := blk_frozen BK225.out 0; have hfz4_1 := blk_frozen BK225.out 1; have hfz4_2 := blk_frozen BK225.out 2; have hfz4_3 := blk_frozen BK225.out 3))
  (try simp only [Act.put, List.setIfInBounds_toArray, List.set_cons_zero, List.set_cons_succ])
  go_cut [49] (fun v49 wc => ∃ (kq : Nat) (x49_1 : Bool), v49 = .bool x49_1 ∧ Aside0 (junctionlaw6_Room_kept.j0 kq x49_1 l0_0 l0_1 l0_2 l0_3 = some r) ∧ Aside0 (kq ≤ k) ∧ Aside0 (wc.heap[gb225]? = some (.cells #[(.slice A0_0 l0_0.length c0_0), (.slice A0_1 l0_1.length c0_1), (.slice A0_2 l0_2.length c0_2), (.slice A0_3 l0_3.length c0_3)] 30 (0, 0))) ∧ Aside0 (Below w.heap.size w wc))
  case first =>
    have H := HC2.out
    clear HC2
    obtain ⟨ji5, hji5⟩ : ∃ j_ : Int, (wrap64 ((l0_0.length : Int) - 1)) = j_ := ⟨_, rfl⟩
    replace H : (if 0 ≤ (ji5) then (if (ji5) < (l0_0.length : Int) then (if ((rd_T42 l0_0 (ji5)).f2) = 77 then (if 0 ≤ (wrap64 ((l0_0.length : Int) - 2)) then (if (wrap64 ((l0_0.length : Int) - 2)) < (l0_0.length : Int) then (if ((rd_T42 l0_0 (wrap64 ((l0_0.length : Int) - 2))).f2) = 77 then (if 0 ≤ (wrap64 ((l0_1.length : Int) - 1)) then (if (wrap64 ((l0_1.length : Int) - 1)) < (l0_1.length : Int) then (if ((rd_T47 l0_1 (wrap64 ((l0_1.length : Int) - 1))).f2) = 77 then (if 0 ≤ (wrap64 ((l0_1.length : Int) - 2)) then (if (wrap64 ((l0_1.length : Int) - 2)) < (l0_1.length : Int) then (junctionlaw6_Room_kept.j0 k (((rd_T47 l0_1 (wrap64 ((l0_1.length : Int) - 2))).f2) != 77) l0_0 l0_1 l0_2 l0_3) else (none)) else (none)) else (junctionlaw6_Room_kept.j0 k true l0_0 l0_1 l0_2 l0_3)) else (none)) else (none)) else (junctionlaw6_Room_kept.j0 k true l0_0 l0_1 l0_2 l0_3)) else (none)) else (none)) else (junctionlaw6_Room_kept.j0 k true l0_0 l0_1 l0_2 l0_3)) else (none)) else (none)) = some r := by first | (rw [hji5] at H; exact H) | (simp only [hji5] at H ⊢; exact H)
    have hji5w : (IntKind.i64.wrap ((l0_0.length : Int) - 1)) = ji5 := (i64_w _).trans hji5
    by_cases c6 : 0 ≤ (ji5)
    · rw [if_pos c6] at H
      have c6b0 : decide (0 ≤ (ji5)) = true := decide_eq_true c6
      clear c6
      (first | rw [c6b0] | (simp only [i64_w, i32_w]; rw [c6b0]) | skip)
      by_cases c7 : (ji5) < (l0_0.length : Int)
      · rw [if_pos c7] at H
        have c7b0 : decide ((ji5) < (l0_0.length : Int)) = true := decide_eq_true c7
        clear c7
        by_cases c8 : ((rd_T42 l0_0 (ji5)).f2) = 77
        · rw [if_pos c8] at H
          have c8b0 : (((rd_T42 l0_0 (ji5)).f2) == 77) = true := beq_iff_eq.mpr c8
          have c8b1 : (((rd_T42 l0_0 (ji5)).f2) != 77) = false := bne_eq_false_iff_eq.mpr c8
          clear c8
          obtain ⟨ji9, hji9⟩ : ∃ j_ : Int, (wrap64 ((l0_0.length : Int) - 2)) = j_ := ⟨_, rfl⟩
          replace H : (if 0 ≤ (ji9) then (if (ji9) < (l0_0.length : Int) then (if ((rd_T42 l0_0 (ji9)).f2) = 77 then (if 0 ≤ (wrap64 ((l0_1.length : Int) - 1)) then (if (wrap64 ((l0_1.length : Int) - 1)) < (l0_1.length : Int) then (if ((rd_T47 l0_1 (wrap64 ((l0_1.length : Int) - 1))).f2) = 77 then (if 0 ≤ (wrap64 ((l0_1.length : Int) - 2)) then (if (wrap64 ((l0_1.length : Int) - 2)) < (l0_1.length : Int) then (junctionlaw6_Room_kept.j0 k (((rd_T47 l0_1 (wrap64 ((l0_1.length : Int) - 2))).f2) != 77) l0_0 l0_1 l0_2 l0_3) else (none)) else (none)) else (junctionlaw6_Room_kept.j0 k true l0_0 l0_1 l0_2 l0_3)) else (none)) else (none)) else (junctionlaw6_Room_kept.j0 k true l0_0 l0_1 l0_2 l0_3)) else (none)) else (none)) = some r := by first | (rw [hji9] at H; exact H) | (simp only [hji9] at H ⊢; exact H)
          have hji9w : (IntKind.i64.wrap ((l0_0.length : Int) - 2)) = ji9 := (i64_w _).trans hji9
          by_cases c10 : 0 ≤ (ji9)
          · rw [if_pos c10] at H
            have c10b0 : decide (0 ≤ (ji9)) = true := decide_eq_true c10
            clear c10
            by_cases c11 : (ji9) < (l0_0.length : Int)
            · rw [if_pos c11] at H
              have c11b0 : decide ((ji9) < (l0_0.length : Int)) = true := decide_eq_true c11
              clear c11
              by_cases c12 : ((rd_T42 l0_0 (ji9)).f2) = 77
              · rw [if_pos c12] at H
                have c12b0 : (((rd_T42 l0_0 (ji9)).f2) == 77) = true := beq_iff_eq.mpr c12
                have c12b1 : (((rd_T42 l0_0 (ji9)).f2) != 77) = false := bne_eq_false_iff_eq.mpr c12
                clear c12
                obtain ⟨ji13, hji13⟩ : ∃ j_ : Int, (wrap64 ((l0_1.length : Int) - 1)) = j_ := ⟨_, rfl⟩
                replace H : (if 0 ≤ (ji13) then (if (ji13) < (l0_1.length : Int) then (if ((rd_T47 l0_1 (ji13)).f2) = 77 then (if 0 ≤ (wrap64 ((l0_1.length : Int) - 2)) then (if (wrap64 ((l0_1.length : Int) - 2)) < (l0_1.length : Int) then (junctionlaw6_Room_kept.j0 k (((rd_T47 l0_1 (wrap64 ((l0_1.length : Int) - 2))).f2) != 77) l0_0 l0_1 l0_2 l0_3) else (none)) else (none)) else (junctionlaw6_Room_kept.j0 k true l0_0 l0_1 l0_2 l0_3)) else (none)) else (none)) = some r := by first | (rw [hji13] at H; exact H) | (simp only [hji13] at H ⊢; exact H)
                have hji13w : (IntKind.i64.wrap ((l0_1.length : Int) - 1)) = ji13 := (i64_w _).trans hji13
                by_cases c14 : 0 ≤ (ji13)
                · rw [if_pos c14] at H
                  have c14b0 : decide (0 ≤ (ji13)) = true := decide_eq_true c14
                  clear c14
                  by_cases c15 : (ji13) < (l0_1.length : Int)
                  · rw [if_pos c15] at H
                    have c15b0 : decide ((ji13) < (l0_1.length : Int)) = true := decide_eq_true c15
                    clear c15
                    by_cases c16 : ((rd_T47 l0_1 (ji13)).f2) = 77
                    · rw [if_pos c16] at H
                      have c16b0 : (((rd_T47 l0_1 (ji13)).f2) == 77) = true := beq_iff_eq.mpr c16
                      have c16b1 : (((rd_T47 l0_1 (ji13)).f2) != 77) = false := bne_eq_false_iff_eq.mpr c16
                      clear c16
                      obtain ⟨ji17, hji17⟩ : ∃ j_ : Int, (wrap64 ((l0_1.length : Int) - 2)) = j_ := ⟨_, rfl⟩
                      replace H : (if 0 ≤ (ji17) then (if (ji17) < (l0_1.length : Int) then (junctionlaw6_Room_kept.j0 k (((rd_T47 l0_1 (ji17)).f2) != 77) l0_0 l0_1 l0_2 l0_3) else (none)) else (none)) = some r := by first | (rw [hji17] at H; exact H) | (simp only [hji17] at H ⊢; exact H)
                      have hji17w : (IntKind.i64.wrap ((l0_1.length : Int) - 2)) = ji17 := (i64_w _).trans hji17
                      by_cases c18 : 0 ≤ (ji17)
                      · rw [if_pos c18] at H
                        have c18b0 : decide (0 ≤ (ji17)) = true := decide_eq_true c18
                        clear c18
                        by_cases c19 : (ji17) < (l0_1.length : Int)
                        · rw [if_pos c19] at H
                          have c19b0 : decide ((ji17) < (l0_1.length : Int)) = true := decide_eq_true c19
                          clear c19
                          have H' := Aside0.mk H
                          clear H
                          have hcz20_0 : w3.cell? ⟨gb225, 0, none⟩ = some (.slice A0_0 l0_0.length c0_0) := (blk_cell BK225.out 0).trans rfl
                          have hcz20_1 : w3.cell? ⟨gb225, 1, none⟩ = some (.slice A0_1 l0_1.length c0_1) := (blk_cell BK225.out 1).trans rfl
                          have hcz20_2 : w3.cell? ⟨gb225, 2, none⟩ = some (.slice A0_2 l0_2.length c0_2) := (blk_cell BK225.out 2).trans rfl
                          have hcz20_3 : w3.cell? ⟨gb225, 3, none⟩ = some (.slice A0_3 l0_3.length c0_3) := (blk_cell BK225.out 3).trans rfl
                          have hfz20_0 := blk_frozen BK225.out 0
                          have hfz20_1 := blk_frozen BK225.out 1
                          have hfz20_2 := blk_frozen BK225.out 2
                          have hfz20_3 := blk_frozen BK225.out 3
                          have p226 : 0 ≤ ((ji5) : Int) := of_decide_eq_true (by first | (with_reducible assumption) | assumption)
                          have q226 : (ji5) < (l0_0.length : Int) := of_decide_eq_true (by first | (with_reducible assumption) | assumption)
                          obtain ⟨ad226, e226, hx226_0, hx226_1, hx226_2, hx226_3, hx226_4⟩ := at_T42 HR0_0.out (ji5) p226 q226
                          cases e226
                          replace hx226_0 := (HB.out.cell (World.block_lt_of_cell? w _ hx226_0)).trans hx226_0
                          replace hx226_1 := (HB.out.cell (World.block_lt_of_cell? w _ hx226_1)).trans hx226_1
                          replace hx226_2 := (HB.out.cell (World.block_lt_of_cell? w _ hx226_2)).trans hx226_2
                          replace hx226_3 := (HB.out.cell (World.block_lt_of_cell? w _ hx226_3)).trans hx226_3
                          replace hx226_4 := (HB.out.cell (World.block_lt_of_cell? w _ hx226_4)).trans hx226_4
                          replace p226 := eq_true p226
                          replace q226 := eq_true q226
                          have p227 : 0 ≤ ((ji9) : Int) := of_decide_eq_true (by first | (with_reducible assumption) | assumption)
                          have q227 : (ji9) < (l0_0.length : Int) := of_decide_eq_true (by first | (with_reducible assumption) | assumption)
                          obtain ⟨ad227, e227, hx227_0, hx227_1, hx227_2, hx227_3, hx227_4⟩ := at_T42 HR0_0.out (ji9) p227 q227
                          obtain rfl : ad226 = ad227 := (by injection e227)
                          replace hx227_0 := (HB.out.cell (World.block_lt_of_cell? w _ hx227_0)).trans hx227_0
                          replace hx227_1 := (HB.out.cell (World.block_lt_of_cell? w _ hx227_1)).trans hx227_1
                          replace hx227_2 := (HB.out.cell (World.block_lt_of_cell? w _ hx227_2)).trans hx227_2
                          replace hx227_3 := (HB.out.cell (World.block_lt_of_cell? w _ hx227_3)).trans hx227_3
                          replace hx227_4 := (HB.out.cell (World.block_lt_of_cell? w _ hx227_4)).trans hx227_4
                          replace p227 := eq_true p227
                          replace q227 := eq_true q227
                          have p228 : 0 ≤ ((ji13) : Int) := of_decide_eq_true (by first | (with_reducible assumption) | assumption)
                          have q228 : (ji13) < (l0_1.length : Int) := of_decide_eq_true (by first | (with_reducible assumption) | assumption)
                          obtain ⟨ad228, e228, hx228_0, hx228_1, hx228_2, hx228_3⟩ := at_T47 HR0_1.out (ji13) p228 q228
                          cases e228
                          replace hx228_0 := (HB.out.cell (World.block_lt_of_cell? w _ hx228_0)).trans hx228_0
                          replace hx228_1 := (HB.out.cell (World.block_lt_of_cell? w _ hx228_1)).trans hx228_1
                          replace hx228_2 := (HB.out.cell (World.block_lt_of_cell? w _ hx228_2)).trans hx228_2
                          replace hx228_3 := (HB.out.cell (World.block_lt_of_cell? w _ hx228_3)).trans hx228_3
                          replace p228 := eq_true p228
                          replace q228 := eq_true q228
                          have p229 : 0 ≤ ((ji17) : Int) := of_decide_eq_true (by first | (with_reducible assumption) | assumption)
                          have q229 : (ji17) < (l0_1.length : Int) := of_decide_eq_true (by first | (with_reducible assumption) | assumption)
                          obtain ⟨ad229, e229, hx229_0, hx229_1, hx229_2, hx229_3⟩ := at_T47 HR0_1.out (ji17) p229 q229
                          obtain rfl : ad228 = ad229 := (by injection e229)
                          replace hx229_0 := (HB.out.cell (World.block_lt_of_cell? w _ hx229_0)).trans hx229_0
                          replace hx229_1 := (HB.out.cell (World.block_lt_of_cell? w _ hx229_1)).trans hx229_1
                          replace hx229_2 := (HB.out.cell (World.block_lt_of_cell? w _ hx229_2)).trans hx229_2
                          replace hx229_3 := (HB.out.cell (World.block_lt_of_cell? w _ hx229_3)).trans hx229_3
                          replace p229 := eq_true p229
                          replace q229 := eq_true q229
                          go_wp2
                          go_meet
                          case rel => exact ⟨_, ((((rd_T47 l0_1 (ji17)).f2) != 77)), (by first | rfl | (simp; done) | (simp only [← hji17] <;> (first | rfl | simp)) | (simp [*]; done)), H', ⟨by first | omega | exact Nat.le_refl _⟩, ⟨by (with_reducible repeat (first | refine blk_drewN ?_ _ | refine blk_drew ?_ | refine blk_alloc ?_ _)); exact BK225.out⟩, ⟨by repeat (first | (with_reducible first | exact HB.out | apply below_alloc | apply pw_below_drewN | apply below_drew1 | refine below_set ?_ GE225.out) | exact HB.out)⟩⟩
                        · rw [if_neg c19] at H
                          exact absurd H (by simp)
                      · rw [if_neg c18] at H
                        exact absurd H (by simp)
                    · rw [if_neg c16] at H
                      have c16b0 : (((rd_T47 l0_1 (ji13)).f2) == 77) = false := beq_eq_false_iff_ne.mpr c16
                      have c16b1 : (((rd_T47 l0_1 (ji13)).f2) != 77) = true := bne_iff_ne.mpr c16
                      have H' := Aside0.mk H
                      clear H
                      have hcz21_0 : w3.cell? ⟨gb225, 0, none⟩ = some (.slice A0_0 l0_0.length c0_0) := (blk_cell BK225.out 0).trans rfl
                      have hcz21_1 : w3.cell? ⟨gb225, 1, none⟩ = some (.slice A0_1 l0_1.length c0_1) := (blk_cell BK225.out 1).trans rfl
                      have hcz21_2 : w3.cell? ⟨gb225, 2, none⟩ = some (.slice A0_2 l0_2.length c0_2) := (blk_cell BK225.out 2).trans rfl
                      have hcz21_3 : w3.cell? ⟨gb225, 3, none⟩ = some (.slice A0_3 l0_3.length c0_3) := (blk_cell BK225.out 3).trans rfl
                      have hfz21_0 := blk_frozen BK225.out 0
                      have hfz21_1 := blk_frozen BK225.out 1
                      have hfz21_2 := blk_frozen BK225.out 2
                      have hfz21_3 := blk_frozen BK225.out 3
                      have p226 : 0 ≤ ((ji5) : Int) := of_decide_eq_true (by first | (with_reducible assumption) | assumption)
                      have q226 : (ji5) < (l0_0.length : Int) := of_decide_eq_true (by first | (with_reducible assumption) | assumption)
                      obtain ⟨ad226, e226, hx226_0, hx226_1, hx226_2, hx226_3, hx226_4⟩ := at_T42 HR0_0.out (ji5) p226 q226
                      cases e226
                      replace hx226_0 := (HB.out.cell (World.block_lt_of_cell? w _ hx226_0)).trans hx226_0
                      replace hx226_1 := (HB.out.cell (World.block_lt_of_cell? w _ hx226_1)).trans hx226_1
                      replace hx226_2 := (HB.out.cell (World.block_lt_of_cell? w _ hx226_2)).trans hx226_2
                      replace hx226_3 := (HB.out.cell (World.block_lt_of_cell? w _ hx226_3)).trans hx226_3
                      replace hx226_4 := (HB.out.cell (World.block_lt_of_cell? w _ hx226_4)).trans hx226_4
                      replace p226 := eq_true p226
                      replace q226 := eq_true q226
                      have p227 : 0 ≤ ((ji9) : Int) := of_decide_eq_true (by first | (with_reducible assumption) | assumption)
                      have q227 : (ji9) < (l0_0.length : Int) := of_decide_eq_true (by first | (with_reducible assumption) | assumption)
                      obtain ⟨ad227, e227, hx227_0, hx227_1, hx227_2, hx227_3, hx227_4⟩ := at_T42 HR0_0.out (ji9) p227 q227
                      obtain rfl : ad226 = ad227 := (by injection e227)
                      replace hx227_0 := (HB.out.cell (World.block_lt_of_cell? w _ hx227_0)).trans hx227_0
                      replace hx227_1 := (HB.out.cell (World.block_lt_of_cell? w _ hx227_1)).trans hx227_1
                      replace hx227_2 := (HB.out.cell (World.block_lt_of_cell? w _ hx227_2)).trans hx227_2
                      replace hx227_3 := (HB.out.cell (World.block_lt_of_cell? w _ hx227_3)).trans hx227_3
                      replace hx227_4 := (HB.out.cell (World.block_lt_of_cell? w _ hx227_4)).trans hx227_4
                      replace p227 := eq_true p227
                      replace q227 := eq_true q227
                      have p228 : 0 ≤ ((ji13) : Int) := of_decide_eq_true (by first | (with_reducible assumption) | assumption)
                      have q228 : (ji13) < (l0_1.length : Int) := of_decide_eq_true (by first | (with_reducible assumption) | assumption)
                      obtain ⟨ad228, e228, hx228_0, hx228_1, hx228_2, hx228_3⟩ := at_T47 HR0_1.out (ji13) p228 q228
                      cases e228
                      replace hx228_0 := (HB.out.cell (World.block_lt_of_cell? w _ hx228_0)).trans hx228_0
                      replace hx228_1 := (HB.out.cell (World.block_lt_of_cell? w _ hx228_1)).trans hx228_1
                      replace hx228_2 := (HB.out.cell (World.block_lt_of_cell? w _ hx228_2)).trans hx228_2
                      replace hx228_3 := (HB.out.cell (World.block_lt_of_cell? w _ hx228_3)).trans hx228_3
                      replace p228 := eq_true p228
                      replace q228 := eq_true q228
                      go_wp2
                      go_meet
                      case rel => exact ⟨_, (true), (by first | rfl | (simp; done) | (simp [*]; done)), H', ⟨by first | omega | exact Nat.le_refl _⟩, ⟨by (with_reducible repeat (first | refine blk_drewN ?_ _ | refine blk_drew ?_ | refine blk_alloc ?_ _)); exact BK225.out⟩, ⟨by repeat (first | (with_reducible first | exact HB.out | apply below_alloc | apply pw_below_drewN | apply below_drew1 | refine below_set ?_ GE225.out) | exact HB.out)⟩⟩
                  · rw [if_neg c15] at H
                    exact absurd H (by simp)
                · rw [if_neg c14] at H
                  exact absurd H (by simp)
              · rw [if_neg c12] at H
                have c12b0 : (((rd_T42 l0_0 (ji9)).f2) == 77) = false := beq_eq_false_iff_ne.mpr c12
                have c12b1 : (((rd_T42 l0_0 (ji9)).f2) != 77) = true := bne_iff_ne.mpr c12
                have H' := Aside0.mk H
                clear H
                have hcz22_0 : w3.cell? ⟨gb225, 0, none⟩ = some (.slice A0_0 l0_0.length c0_0) := (blk_cell BK225.out 0).trans rfl
                have hcz22_1 : w3.cell? ⟨gb225, 1, none⟩ = some (.slice A0_1 l0_1.length c0_1) := (blk_cell BK225.out 1).trans rfl
                have hcz22_2 : w3.cell? ⟨gb225, 2, none⟩ = some (.slice A0_2 l0_2.length c0_2) := (blk_cell BK225.out 2).trans rfl
                have hcz22_3 : w3.cell? ⟨gb225, 3, none⟩ = some (.slice A0_3 l0_3.length c0_3) := (blk_cell BK225.out 3).trans rfl
                have hfz22_0 := blk_frozen BK225.out 0
                have hfz22_1 := blk_frozen BK225.out 1
                have hfz22_2 := blk_frozen BK225.out 2
                have hfz22_3 := blk_frozen BK225.out 3
                have p226 : 0 ≤ ((ji5) : Int) := of_decide_eq_true (by first | (with_reducible assumption) | assumption)
                have q226 : (ji5) < (l0_0.length : Int) := of_decide_eq_true (by first | (with_reducible assumption) | assumption)
                obtain ⟨ad226, e226, hx226_0, hx226_1, hx226_2, hx226_3, hx226_4⟩ := at_T42 HR0_0.out (ji5) p226 q226
                cases e226
                replace hx226_0 := (HB.out.cell (World.block_lt_of_cell? w _ hx226_0)).trans hx226_0
                replace hx226_1 := (HB.out.cell (World.block_lt_of_cell? w _ hx226_1)).trans hx226_1
                replace hx226_2 := (HB.out.cell (World.block_lt_of_cell? w _ hx226_2)).trans hx226_2
                replace hx226_3 := (HB.out.cell (World.block_lt_of_cell? w _ hx226_3)).trans hx226_3
                replace hx226_4 := (HB.out.cell (World.block_lt_of_cell? w _ hx226_4)).trans hx226_4
                replace p226 := eq_true p226
                replace q226 := eq_true q226
                have p227 : 0 ≤ ((ji9) : Int) := of_decide_eq_true (by first | (with_reducible assumption) | assumption)
                have q227 : (ji9) < (l0_0.length : Int) := of_decide_eq_true (by first | (with_reducible assumption) | assumption)
                obtain ⟨ad227, e227, hx227_0, hx227_1, hx227_2, hx227_3, hx227_4⟩ := at_T42 HR0_0.out (ji9) p227 q227
                obtain rfl : ad226 = ad227 := (by injection e227)
                replace hx227_0 := (HB.out.cell (World.block_lt_of_cell? w _ hx227_0)).trans hx227_0
                replace hx227_1 := (HB.out.cell (World.block_lt_of_cell? w _ hx227_1)).trans hx227_1
                replace hx227_2 := (HB.out.cell (World.block_lt_of_cell? w _ hx227_2)).trans hx227_2
                replace hx227_3 := (HB.out.cell (World.block_lt_of_cell? w _ hx227_3)).trans hx227_3
                replace hx227_4 := (HB.out.cell (World.block_lt_of_cell? w _ hx227_4)).trans hx227_4
                replace p227 := eq_true p227
                replace q227 := eq_true q227
                go_wp2
                go_meet
                case rel => exact ⟨_, (true), (by first | rfl | (simp; done) | (simp [*]; done)), H', ⟨by first | omega | exact Nat.le_refl _⟩, ⟨by (with_reducible repeat (first | refine blk_drewN ?_ _ | refine blk_drew ?_ | refine blk_alloc ?_ _)); exact BK225.out⟩, ⟨by repeat (first | (with_reducible first | exact HB.out | apply below_alloc | apply pw_below_drewN | apply below_drew1 | refine below_set ?_ GE225.out) | exact HB.out)⟩⟩
            · rw [if_neg c11] at H
              exact absurd H (by simp)
          · rw [if_neg c10] at H
            exact absurd H (by simp)
        · rw [if_neg c8] at H
          have c8b0 : (((rd_T42 l0_0 (ji5)).f2) == 77) = false := beq_eq_false_iff_ne.mpr c8
          have c8b1 : (((rd_T42 l0_0 (ji5)).f2) != 77) = true := bne_iff_ne.mpr c8
          have H' := Aside0.mk H
          clear H
          have hcz23_0 : w3.cell? ⟨gb225, 0, none⟩ = some (.slice A0_0 l0_0.length c0_0) := (blk_cell BK225.out 0).trans rfl
          have hcz23_1 : w3.cell? ⟨gb225, 1, none⟩ = some (.slice A0_1 l0_1.length c0_1) := (blk_cell BK225.out 1).trans rfl
          have hcz23_2 : w3.cell? ⟨gb225, 2, none⟩ = some (.slice A0_2 l0_2.length c0_2) := (blk_cell BK225.out 2).trans rfl
          have hcz23_3 : w3.cell? ⟨gb225, 3, none⟩ = some (.slice A0_3 l0_3.length c0_3) := (blk_cell BK225.out 3).trans rfl
          have hfz23_0 := blk_frozen BK225.out 0
          have hfz23_1 := blk_frozen BK225.out 1
          have hfz23_2 := blk_frozen BK225.out 2
          have hfz23_3 := blk_frozen BK225.out 3
          have p226 : 0 ≤ ((ji5) : Int) := of_decide_eq_true (by first | (with_reducible assumption) | assumption)
          have q226 : (ji5) < (l0_0.length : Int) := of_decide_eq_true (by first | (with_reducible assumption) | assumption)
          obtain ⟨ad226, e226, hx226_0, hx226_1, hx226_2, hx226_3, hx226_4⟩ := at_T42 HR0_0.out (ji5) p226 q226
          cases e226
          replace hx226_0 := (HB.out.cell (World.block_lt_of_cell? w _ hx226_0)).trans hx226_0
          replace hx226_1 := (HB.out.cell (World.block_lt_of_cell? w _ hx226_1)).trans hx226_1
          replace hx226_2 := (HB.out.cell (World.block_lt_of_cell? w _ hx226_2)).trans hx226_2
          replace hx226_3 := (HB.out.cell (World.block_lt_of_cell? w _ hx226_3)).trans hx226_3
          replace hx226_4 := (HB.out.cell (World.block_lt_of_cell? w _ hx226_4)).trans hx226_4
          replace p226 := eq_true p226
          replace q226 := eq_true q226
          go_wp2
          go_meet
          case rel => exact ⟨_, (true), (by first | rfl | (simp; done) | (simp [*]; done)), H', ⟨by first | omega | exact Nat.le_refl _⟩, ⟨by (with_reducible repeat (first | refine blk_drewN ?_ _ | refine blk_drew ?_ | refine blk_alloc ?_ _)); exact BK225.out⟩, ⟨by repeat (first | (with_reducible first | exact HB.out | apply below_alloc | apply pw_below_drewN | apply below_drew1 | refine below_set ?_ GE225.out) | exact HB.out)⟩⟩
      · rw [if_neg c7] at H
        exact absurd H (by simp)
    · rw [if_neg c6] at H
      exact absurd H (by simp)
  case rest =>
    clear HC2
    obtain ⟨kq, x49_1, rfl, HA, HJ1, BK225, HB⟩ := hcut
    cases kq with
    | zero => exact absurd HA.out (by simp [junctionlaw6_Room_kept.j0])
    | succ kj1 =>
      have H := HA.out
      clear HA
      simp only [junctionlaw6_Room_kept.j0] at H
      by_cases c24 : x49_1 = true
      · subst c24
        have H1 : (some false) = some r := by rw [if_pos rfl] at H; exact H
        clear H
        have H := H1
        clear H1
        obtain rfl := Option.some.inj H
        go_wp2
        go_ret
        exact ⟨by first | rfl | (simp [errW_none, errW_some] <;> rfl) | (simp [*, errW_none, errW_some] <;> rfl), by repeat (first | (with_reducible first | exact HB.out | apply below_alloc | apply pw_below_drewN | apply below_drew1 | refine below_set ?_ GE225.out) | exact HB.out)⟩
      · replace c24 := Bool.eq_false_iff.mpr c24
        subst c24
        have H1 : (junctionlaw6_Room_kept.l0 kj1 0 l0_0 l0_1 l0_2 l0_3) = some r := by rw [if_neg (show ¬ (false = true) by decide)] at H; exact H
        clear H
        have H := H1
        clear H1
        have H' := Aside0.mk H
        clear H
        go_wp2
        go_loopg [5] kj1 (fun kq v5 w' => ∃ (x5_2 : Int), v5 = .int .i64 x5_2 ∧ Aside0 (junctionlaw6_Room_kept.l0 kq x5_2 l0_0 l0_1 l0_2 l0_3 = some r) ∧ Aside0 (kq ≤ kj1) ∧ Aside0 (w'.heap[gb225]? = some (.cells #[(.slice A0_0 l0_0.length c0_0), (.slice A0_1 l0_1.length c0_1), (.slice A0_2 l0_2.length c0_2), (.slice A0_3 l0_3.length c0_3)] 30 (0, 0))) ∧ Aside0 (Below w.heap.size w w'))
        case atStart => exact ⟨(0), (by first | rfl | (simp; done) | (simp [*]; done)), H', ⟨Nat.le_refl _⟩, ⟨by (with_reducible repeat (first | refine blk_drewN ?_ _ | refine blk_drew ?_ | refine blk_alloc ?_ _)); exact BK225.out⟩, ⟨by repeat (first | (with_reducible first | exact HB.out | apply below_alloc | apply pw_below_drewN | apply below_drew1 | refine below_set ?_ GE225.out) | exact HB.out)⟩⟩
        case round =>
          clear H'
          obtain ⟨x5_2, rfl, HA, HK2, BK225, HB⟩ := hrel
          cases gk with
          | zero => exact absurd HA.out (by simp [junctionlaw6_Room_kept.l0])
          | succ k2 =>
            have H := HA.out
            clear HA
            simp only [junctionlaw6_Room_kept.l0] at H
            by_cases c25 : x5_2 < (l0_3.length : Int)
            · rw [if_pos c25] at H
              have c25b0 : decide (x5_2 < (l0_3.length : Int)) = true := decide_eq_true c25
              clear c25
              by_cases c26 : 0 ≤ x5_2
              · rw [if_pos c26] at H
                have c26b0 : decide (0 ≤ x5_2) = true := decide_eq_true c26
                clear c26
                obtain ⟨ji27, hji27⟩ : ∃ j_ : Int, (wrap64 (((rd_L12 l0_3 x5_2).length : Int) - 1)) = j_ := ⟨_, rfl⟩
                replace H : (if 0 ≤ (ji27) then (if (ji27) < ((rd_L12 l0_3 x5_2).length : Int) then (if ((rd_T95 (rd_L12 l0_3 x5_2) (ji27)).f0) = 77 then (if 0 ≤ (wrap64 (((rd_L12 l0_3 x5_2).length : Int) - 2)) then (if (wrap64 (((rd_L12 l0_3 x5_2).length : Int) - 2)) < ((rd_L12 l0_3 x5_2).length : Int) then (if ((rd_T95 (rd_L12 l0_3 x5_2) (wrap64 (((rd_L12 l0_3 x5_2).length : Int) - 2))).f0) = 77 then (junctionlaw6_Room_kept.l0 k2 (wrap64 (x5_2 + 1)) l0_0 l0_1 l0_2 l0_3) else (some false)) else (none)) else (none)) else (some false)) else (none)) else (none)) = some r := by first | (rw [hji27] at H; exact H) | (simp only [hji27] at H ⊢; exact H)
                have hji27w : (IntKind.i64.wrap (((rd_L12 l0_3 x5_2).length : Int) - 1)) = ji27 := (i64_w _).trans hji27
                by_cases c28 : 0 ≤ (ji27)
                · rw [if_pos c28] at H
                  have c28b0 : decide (0 ≤ (ji27)) = true := decide_eq_true c28
                  clear c28
                  by_cases c29 : (ji27) < ((rd_L12 l0_3 x5_2).length : Int)
                  · rw [if_pos c29] at H
                    have c29b0 : decide ((ji27) < ((rd_L12 l0_3 x5_2).length : Int)) = true := decide_eq_true c29
                    clear c29
                    by_cases c30 : ((rd_T95 (rd_L12 l0_3 x5_2) (ji27)).f0) = 77
                    · rw [if_pos c30] at H
                      have c30b0 : (((rd_T95 (rd_L12 l0_3 x5_2) (ji27)).f0) == 77) = true := beq_iff_eq.mpr c30
                      have c30b1 : (((rd_T95 (rd_L12 l0_3 x5_2) (ji27)).f0) != 77) = false := bne_eq_false_iff_eq.mpr c30
                      clear c30
                      obtain ⟨ji31, hji31⟩ : ∃ j_ : Int, (wrap64 (((rd_L12 l0_3 x5_2).length : Int) - 2)) = j_ := ⟨_, rfl⟩
                      replace H : (if 0 ≤ (ji31) then (if (ji31) < ((rd_L12 l0_3 x5_2).length : Int) then (if ((rd_T95 (rd_L12 l0_3 x5_2) (ji31)).f0) = 77 then (junctionlaw6_Room_kept.l0 k2 (wrap64 (x5_2 + 1)) l0_0 l0_1 l0_2 l0_3) else (some false)) else (none)) else (none)) = some r := by first | (rw [hji31] at H; exact H) | (simp only [hji31] at H ⊢; exact H)
                      have hji31w : (IntKind.i64.wrap (((rd_L12 l0_3 x5_2).length : Int) - 2)) = ji31 := (i64_w _).trans hji31
                      by_cases c32 : 0 ≤ (ji31)
                      · rw [if_pos c32] at H
                        have c32b0 : decide (0 ≤ (ji31)) = true := decide_eq_true c32
                        clear c32
                        by_cases c33 : (ji31) < ((rd_L12 l0_3 x5_2).length : Int)
                        · rw [if_pos c33] at H
                          have c33b0 : decide ((ji31) < ((rd_L12 l0_3 x5_2).length : Int)) = true := decide_eq_true c33
                          clear c33
                          by_cases c34 : ((rd_T95 (rd_L12 l0_3 x5_2) (ji31)).f0) = 77
                          · rw [if_pos c34] at H
                            have c34b0 : (((rd_T95 (rd_L12 l0_3 x5_2) (ji31)).f0) == 77) = true := beq_iff_eq.mpr c34
                            have c34b1 : (((rd_T95 (rd_L12 l0_3 x5_2) (ji31)).f0) != 77) = false := bne_eq_false_iff_eq.mpr c34
                            clear c34
                            have H' := Aside0.mk H
                            clear H
                            have hcz35_0 : wr.cell? ⟨gb225, 0, none⟩ = some (.slice A0_0 l0_0.length c0_0) := (blk_cell BK225.out 0).trans rfl
                            have hcz35_1 : wr.cell? ⟨gb225, 1, none⟩ = some (.slice A0_1 l0_1.length c0_1) := (blk_cell BK225.out 1).trans rfl
                            have hcz35_2 : wr.cell? ⟨gb225, 2, none⟩ = some (.slice A0_2 l0_2.length c0_2) := (blk_cell BK225.out 2).trans rfl
                            have hcz35_3 : wr.cell? ⟨gb225, 3, none⟩ = some (.slice A0_3 l0_3.length c0_3) := (blk_cell BK225.out 3).trans rfl
                            have hfz35_0 := blk_frozen BK225.out 0
                            have hfz35_1 := blk_frozen BK225.out 1
                            have hfz35_2 := blk_frozen BK225.out 2
                            have hfz35_3 := blk_frozen BK225.out 3
                            have p230 : 0 ≤ (x5_2 : Int) := of_decide_eq_true (by first | (with_reducible assumption) | assumption)
                            have q230 : x5_2 < (l0_3.length : Int) := of_decide_eq_true (by first | (with_reducible assumption) | assumption)
                            obtain ⟨ad230, A230_0, c230_0, e230, hx230_0, hl230_0, hi230_0⟩ := at_L12 HR0_3.out x5_2 p230 q230
                            cases e230
                            replace hx230_0 := (HB.out.cell (World.block_lt_of_cell? w _ hx230_0)).trans hx230_0
                            have HR230_0 := Aside0.mk hi230_0
                            have HC230_0 := Aside0.mk hl230_0
                            clear hi230_0 hl230_0
                            replace p230 := eq_true p230
                            replace q230 := eq_true q230
                            have p231 : 0 ≤ (x5_2 : Int) := of_decide_eq_true (by first | (with_reducible assumption) | assumption)
                            have q231 : x5_2 < (l0_3.length : Int) := of_decide_eq_true (by first | (with_reducible assumption) | assumption)
                            obtain ⟨ad231, A231_0, c231_0, e231, hx231_0, hl231_0, hi231_0⟩ := at_L12 HR0_3.out x5_2 p231 q231
                            obtain rfl : ad230 = ad231 := (by injection e231)
                            replace hx231_0 := (HB.out.cell (World.block_lt_of_cell? w _ hx231_0)).trans hx231_0
                            have HR231_0 := Aside0.mk hi231_0
                            have HC231_0 := Aside0.mk hl231_0
                            clear hi231_0 hl231_0
                            replace p231 := eq_true p231
                            replace q231 := eq_true q231
                            have ea_ := Option.some.inj (hx230_0.symm.trans hx231_0)
                            injection ea_ with ea_ en_ ec_
                            subst ea_
                            subst ec_
                            clear en_
                            have p232 : 0 ≤ ((ji27) : Int) := of_decide_eq_true (by first | (with_reducible assumption) | assumption)
                            have q232 : (ji27) < ((rd_L12 l0_3 x5_2).length : Int) := of_decide_eq_true (by first | (with_reducible assumption) | assumption)
                            obtain ⟨ad232, A232_1, c232_1, e232, hx232_0, hx232_1, hl232_1, hi232_1⟩ := at_T95 HR231_0.out (ji27) p232 q232
                            cases e232
                            replace hx232_0 := (HB.out.cell (World.block_lt_of_cell? w _ hx232_0)).trans hx232_0
                            replace hx232_1 := (HB.out.cell (World.block_lt_of_cell? w _ hx232_1)).trans hx232_1
                            have HR232_1 := Aside0.mk hi232_1
                            have HC232_1 := Aside0.mk hl232_1
                            clear hi232_1 hl232_1
                            replace p232 := eq_true p232
                            replace q232 := eq_true q232
                            have p233 : 0 ≤ (x5_2 : Int) := of_decide_eq_true (by first | (with_reducible assumption) | assumption)
                            have q233 : x5_2 < (l0_3.length : Int) := of_decide_eq_true (by first | (with_reducible assumption) | assumption)
                            obtain ⟨ad233, A233_0, c233_0, e233, hx233_0, hl233_0, hi233_0⟩ := at_L12 HR0_3.out x5_2 p233 q233
                            obtain rfl : ad230 = ad233 := (by injection e233)
                            replace hx233_0 := (HB.out.cell (World.block_lt_of_cell? w _ hx233_0)).trans hx233_0
                            have HR233_0 := Aside0.mk hi233_0
                            have HC233_0 := Aside0.mk hl233_0
                            clear hi233_0 hl233_0
                            replace p233 := eq_true p233
                            replace q233 := eq_true q233
                            have ea_ := Option.some.inj (hx230_0.symm.trans hx233_0)
                            injection ea_ with ea_ en_ ec_
                            subst ea_
                            subst ec_
                            clear en_
                            have p234 : 0 ≤ ((ji31) : Int) := of_decide_eq_true (by first | (with_reducible assumption) | assumption)
                            have q234 : (ji31) < ((rd_L12 l0_3 x5_2).length : Int) := of_decide_eq_true (by first | (with_reducible assumption) | assumption)
                            obtain ⟨ad234, A234_1, c234_1, e234, hx234_0, hx234_1, hl234_1, hi234_1⟩ := at_T95 HR233_0.out (ji31) p234 q234
                            cases e234
                            replace hx234_0 := (HB.out.cell (World.block_lt_of_cell? w _ hx234_0)).trans hx234_0
                            replace hx234_1 := (HB.out.cell (World.block_lt_of_cell? w _ hx234_1)).trans hx234_1
                            have HR234_1 := Aside0.mk hi234_1
                            have HC234_1 := Aside0.mk hl234_1
                            clear hi234_1 hl234_1
                            replace p234 := eq_true p234
                            replace q234 := eq_true q234
                            go_wp2
                            go_roundg k2
                            case measure => have := HJ1.out; have := HK2.out; omega
                            case rel => exact ⟨(wrap64 (x5_2 + 1)), (by first | rfl | (simp; done) | (simp [*]; done)), H', ⟨by have := HJ1.out; have := HK2.out; omega⟩, ⟨by (with_reducible repeat (first | refine blk_drewN ?_ _ | refine blk_drew ?_ | refine blk_alloc ?_ _)); exact BK225.out⟩, ⟨by repeat (first | (with_reducible first | exact HB.out | apply below_alloc | apply pw_below_drewN | apply below_drew1 | refine below_set ?_ GE225.out) | exact HB.out)⟩⟩
                          · rw [if_neg c34] at H
                            have c34b0 : (((rd_T95 (rd_L12 l0_3 x5_2) (ji31)).f0) == 77) = false := beq_eq_false_iff_ne.mpr c34
                            have c34b1 : (((rd_T95 (rd_L12 l0_3 x5_2) (ji31)).f0) != 77) = true := bne_iff_ne.mpr c34
                            obtain rfl := Option.some.inj H
                            have hcz36_0 : wr.cell? ⟨gb225, 0, none⟩ = some (.slice A0_0 l0_0.length c0_0) := (blk_cell BK225.out 0).trans rfl
                            have hcz36_1 : wr.cell? ⟨gb225, 1, none⟩ = some (.slice A0_1 l0_1.length c0_1) := (blk_cell BK225.out 1).trans rfl
                            have hcz36_2 : wr.cell? ⟨gb225, 2, none⟩ = some (.slice A0_2 l0_2.length c0_2) := (blk_cell BK225.out 2).trans rfl
                            have hcz36_3 : wr.cell? ⟨gb225, 3, none⟩ = some (.slice A0_3 l0_3.length c0_3) := (blk_cell BK225.out 3).trans rfl
                            have hfz36_0 := blk_frozen BK225.out 0
                            have hfz36_1 := blk_frozen BK225.out 1
                            have hfz36_2 := blk_frozen BK225.out 2
                            have hfz36_3 := blk_frozen BK225.out 3
                            have p230 : 0 ≤ (x5_2 : Int) := of_decide_eq_true (by first | (with_reducible assumption) | assumption)
                            have q230 : x5_2 < (l0_3.length : Int) := of_decide_eq_true (by first | (with_reducible assumption) | assumption)
                            obtain ⟨ad230, A230_0, c230_0, e230, hx230_0, hl230_0, hi230_0⟩ := at_L12 HR0_3.out x5_2 p230 q230
                            cases e230
                            replace hx230_0 := (HB.out.cell (World.block_lt_of_cell? w _ hx230_0)).trans hx230_0
                            have HR230_0 := Aside0.mk hi230_0
                            have HC230_0 := Aside0.mk hl230_0
                            clear hi230_0 hl230_0
                            replace p230 := eq_true p230
                            replace q230 := eq_true q230
                            have p231 : 0 ≤ (x5_2 : Int) := of_decide_eq_true (by first | (with_reducible assumption) | assumption)
                            have q231 : x5_2 < (l0_3.length : Int) := of_decide_eq_true (by first | (with_reducible assumption) | assumption)
                            obtain ⟨ad231, A231_0, c231_0, e231, hx231_0, hl231_0, hi231_0⟩ := at_L12 HR0_3.out x5_2 p231 q231
                            obtain rfl : ad230 = ad231 := (by injection e231)
                            replace hx231_0 := (HB.out.cell (World.block_lt_of_cell? w _ hx231_0)).trans hx231_0
                            have HR231_0 := Aside0.mk hi231_0
                            have HC231_0 := Aside0.mk hl231_0
                            clear hi231_0 hl231_0
                            replace p231 := eq_true p231
                            replace q231 := eq_true q231
                            have ea_ := Option.some.inj (hx230_0.symm.trans hx231_0)
                            injection ea_ with ea_ en_ ec_
                            subst ea_
                            subst ec_
                            clear en_
                            have p232 : 0 ≤ ((ji27) : Int) := of_decide_eq_true (by first | (with_reducible assumption) | assumption)
                            have q232 : (ji27) < ((rd_L12 l0_3 x5_2).length : Int) := of_decide_eq_true (by first | (with_reducible assumption) | assumption)
                            obtain ⟨ad232, A232_1, c232_1, e232, hx232_0, hx232_1, hl232_1, hi232_1⟩ := at_T95 HR231_0.out (ji27) p232 q232
                            cases e232
                            replace hx232_0 := (HB.out.cell (World.block_lt_of_cell? w _ hx232_0)).trans hx232_0
                            replace hx232_1 := (HB.out.cell (World.block_lt_of_cell? w _ hx232_1)).trans hx232_1
                            have HR232_1 := Aside0.mk hi232_1
                            have HC232_1 := Aside0.mk hl232_1
                            clear hi232_1 hl232_1
                            replace p232 := eq_true p232
                            replace q232 := eq_true q232
                            have p233 : 0 ≤ (x5_2 : Int) := of_decide_eq_true (by first | (with_reducible assumption) | assumption)
                            have q233 : x5_2 < (l0_3.length : Int) := of_decide_eq_true (by first | (with_reducible assumption) | assumption)
                            obtain ⟨ad233, A233_0, c233_0, e233, hx233_0, hl233_0, hi233_0⟩ := at_L12 HR0_3.out x5_2 p233 q233
                            obtain rfl : ad230 = ad233 := (by injection e233)
                            replace hx233_0 := (HB.out.cell (World.block_lt_of_cell? w _ hx233_0)).trans hx233_0
                            have HR233_0 := Aside0.mk hi233_0
                            have HC233_0 := Aside0.mk hl233_0
                            clear hi233_0 hl233_0
                            replace p233 := eq_true p233
                            replace q233 := eq_true q233
                            have ea_ := Option.some.inj (hx230_0.symm.trans hx233_0)
                            injection ea_ with ea_ en_ ec_
                            subst ea_
                            subst ec_
                            clear en_
                            have p234 : 0 ≤ ((ji31) : Int) := of_decide_eq_true (by first | (with_reducible assumption) | assumption)
                            have q234 : (ji31) < ((rd_L12 l0_3 x5_2).length : Int) := of_decide_eq_true (by first | (with_reducible assumption) | assumption)
                            obtain ⟨ad234, A234_1, c234_1, e234, hx234_0, hx234_1, hl234_1, hi234_1⟩ := at_T95 HR233_0.out (ji31) p234 q234
                            cases e234
                            replace hx234_0 := (HB.out.cell (World.block_lt_of_cell? w _ hx234_0)).trans hx234_0
                            replace hx234_1 := (HB.out.cell (World.block_lt_of_cell? w _ hx234_1)).trans hx234_1
                            have HR234_1 := Aside0.mk hi234_1
                            have HC234_1 := Aside0.mk hl234_1
                            clear hi234_1 hl234_1
                            replace p234 := eq_true p234
                            replace q234 := eq_true q234
                            go_wp2
                            go_ret
                            exact ⟨by first | rfl | (simp [errW_none, errW_some] <;> rfl) | (simp only [← hji27, ← hji31]; first | rfl | (simp [errW_none, errW_some] <;> rfl)) | (simp [*, errW_none, errW_some] <;> rfl), by repeat (first | (with_reducible first | exact HB.out | apply below_alloc | apply pw_below_drewN | apply below_drew1 | refine below_set ?_ GE225.out) | exact HB.out)⟩
                        · rw [if_neg c33] at H
                          exact absurd H (by simp)
                      · rw [if_neg c32] at H
                        exact absurd H (by simp)
                    · rw [if_neg c30] at H
                      have c30b0 : (((rd_T95 (rd_L12 l0_3 x5_2) (ji27)).f0) == 77) = false := beq_eq_false_iff_ne.mpr c30
                      have c30b1 : (((rd_T95 (rd_L12 l0_3 x5_2) (ji27)).f0) != 77) = true := bne_iff_ne.mpr c30
                      obtain rfl := Option.some.inj H
                      have hcz37_0 : wr.cell? ⟨gb225, 0, none⟩ = some (.slice A0_0 l0_0.length c0_0) := (blk_cell BK225.out 0).trans rfl
                      have hcz37_1 : wr.cell? ⟨gb225, 1, none⟩ = some (.slice A0_1 l0_1.length c0_1) := (blk_cell BK225.out 1).trans rfl
                      have hcz37_2 : wr.cell? ⟨gb225, 2, none⟩ = some (.slice A0_2 l0_2.length c0_2) := (blk_cell BK225.out 2).trans rfl
                      have hcz37_3 : wr.cell? ⟨gb225, 3, none⟩ = some (.slice A0_3 l0_3.length c0_3) := (blk_cell BK225.out 3).trans rfl
                      have hfz37_0 := blk_frozen BK225.out 0
                      have hfz37_1 := blk_frozen BK225.out 1
                      have hfz37_2 := blk_frozen BK225.out 2
                      have hfz37_3 := blk_frozen BK225.out 3
                      have p230 : 0 ≤ (x5_2 : Int) := of_decide_eq_true (by first | (with_reducible assumption) | assumption)
                      have q230 : x5_2 < (l0_3.length : Int) := of_decide_eq_true (by first | (with_reducible assumption) | assumption)
                      obtain ⟨ad230, A230_0, c230_0, e230, hx230_0, hl230_0, hi230_0⟩ := at_L12 HR0_3.out x5_2 p230 q230
                      cases e230
                      replace hx230_0 := (HB.out.cell (World.block_lt_of_cell? w _ hx230_0)).trans hx230_0
                      have HR230_0 := Aside0.mk hi230_0
                      have HC230_0 := Aside0.mk hl230_0
                      clear hi230_0 hl230_0
                      replace p230 := eq_true p230
                      replace q230 := eq_true q230
                      have p231 : 0 ≤ (x5_2 : Int) := of_decide_eq_true (by first | (with_reducible assumption) | assumption)
                      have q231 : x5_2 < (l0_3.length : Int) := of_decide_eq_true (by first | (with_reducible assumption) | assumption)
                      obtain ⟨ad231, A231_0, c231_0, e231, hx231_0, hl231_0, hi231_0⟩ := at_L12 HR0_3.out x5_2 p231 q231
                      obtain rfl : ad230 = ad231 := (by injection e231)
                      replace hx231_0 := (HB.out.cell (World.block_lt_of_cell? w _ hx231_0)).trans hx231_0
                      have HR231_0 := Aside0.mk hi231_0
                      have HC231_0 := Aside0.mk hl231_0
                      clear hi231_0 hl231_0
                      replace p231 := eq_true p231
                      replace q231 := eq_true q231
                      have ea_ := Option.some.inj (hx230_0.symm.trans hx231_0)
                      injection ea_ with ea_ en_ ec_
                      subst ea_
                      subst ec_
                      clear en_
                      have p232 : 0 ≤ ((ji27) : Int) := of_decide_eq_true (by first | (with_reducible assumption) | assumption)
                      have q232 : (ji27) < ((rd_L12 l0_3 x5_2).length : Int) := of_decide_eq_true (by first | (with_reducible assumption) | assumption)
                      obtain ⟨ad232, A232_1, c232_1, e232, hx232_0, hx232_1, hl232_1, hi232_1⟩ := at_T95 HR231_0.out (ji27) p232 q232
                      cases e232
                      replace hx232_0 := (HB.out.cell (World.block_lt_of_cell? w _ hx232_0)).trans hx232_0
                      replace hx232_1 := (HB.out.cell (World.block_lt_of_cell? w _ hx232_1)).trans hx232_1
                      have HR232_1 := Aside0.mk hi232_1
                      have HC232_1 := Aside0.mk hl232_1
                      clear hi232_1 hl232_1
                      replace p232 := eq_true p232
                      replace q232 := eq_true q232
                      go_wp2
                      go_ret
                      exact ⟨by first | rfl | (simp [errW_none, errW_some] <;> rfl) | (simp only [← hji27]; first | rfl | (simp [errW_none, errW_some] <;> rfl)) | (simp [*, errW_none, errW_some] <;> rfl), by repeat (first | (with_reducible first | exact HB.out | apply below_alloc | apply pw_below_drewN | apply below_drew1 | refine below_set ?_ GE225.out) | exact HB.out)⟩
                  · rw [if_neg c29] at H
                    exact absurd H (by simp)
                · rw [if_neg c28] at H
                  exact absurd H (by simp)
              · rw [if_neg c26] at H
                exact absurd H (by simp)
            · rw [if_neg c25] at H
              have c25b0 : decide (x5_2 < (l0_3.length : Int)) = false := decide_eq_false c25
              clear c25
              by_cases c38 : (l0_2.length : Int) = 0
              · rw [if_pos c38] at H
                have c38b0 : ((l0_2.length : Int) == 0) = true := beq_iff_eq.mpr c38
                have c38b1 : ((l0_2.length : Int) != 0) = false := bne_eq_false_iff_eq.mpr c38
                clear c38
                obtain rfl := Option.some.inj H
                have hcz39_0 : wr.cell? ⟨gb225, 0, none⟩ = some (.slice A0_0 l0_0.length c0_0) := (blk_cell BK225.out 0).trans rfl
                have hcz39_1 : wr.cell? ⟨gb225, 1, none⟩ = some (.slice A0_1 l0_1.length c0_1) := (blk_cell BK225.out 1).trans rfl
                have hcz39_2 : wr.cell? ⟨gb225, 2, none⟩ = some (.slice A0_2 l0_2.length c0_2) := (blk_cell BK225.out 2).trans rfl
                have hcz39_3 : wr.cell? ⟨gb225, 3, none⟩ = some (.slice A0_3 l0_3.length c0_3) := (blk_cell BK225.out 3).trans rfl
                have hfz39_0 := blk_frozen BK225.out 0
                have hfz39_1 := blk_frozen BK225.out 1
                have hfz39_2 := blk_frozen BK225.out 2
                have hfz39_3 := blk_frozen BK225.out 3
                go_wp2
                go_ret
                exact ⟨by first | rfl | (simp [errW_none, errW_some] <;> rfl) | (simp [*, errW_none, errW_some] <;> rfl), by repeat (first | (with_reducible first | exact HB.out | apply below_alloc | apply pw_below_drewN | apply below_drew1 | refine below_set ?_ GE225.out) | exact HB.out)⟩
              · rw [if_neg c38] at H
                have c38b0 : ((l0_2.length : Int) == 0) = false := beq_eq_false_iff_ne.mpr c38
                have c38b1 : ((l0_2.length : Int) != 0) = true := bne_iff_ne.mpr c38
                have c38b2 : ¬ (l0_2 = []) := fun h_ => c38 (by rw [h_]; rfl)
                obtain ⟨ji40, hji40⟩ : ∃ j_ : Int, (wrap64 ((l0_2.length : Int) - 1)) = j_ := ⟨_, rfl⟩
                replace H : (if 0 ≤ (ji40) then (if (ji40) < (l0_2.length : Int) then (if ((rd_T98 l0_2 (ji40)).f1) = 77 then (if 0 ≤ (wrap64 ((l0_2.length : Int) - 2)) then (if (wrap64 ((l0_2.length : Int) - 2)) < (l0_2.length : Int) then (some (((rd_T98 l0_2 (wrap64 ((l0_2.length : Int) - 2))).f1) == 77)) else (none)) else (none)) else (some false)) else (none)) else (none)) = some r := by first | (rw [hji40] at H; exact H) | (simp only [hji40] at H ⊢; exact H)
                have hji40w : (IntKind.i64.wrap ((l0_2.length : Int) - 1)) = ji40 := (i64_w _).trans hji40
                by_cases c41 : 0 ≤ (ji40)
                · rw [if_pos c41] at H
                  have c41b0 : decide (0 ≤ (ji40)) = true := decide_eq_true c41
                  clear c41
                  by_cases c42 : (ji40) < (l0_2.length : Int)
                  · rw [if_pos c42] at H
                    have c42b0 : decide ((ji40) < (l0_2.length : Int)) = true := decide_eq_true c42
                    clear c42
                    by_cases c43 : ((rd_T98 l0_2 (ji40)).f1) = 77
                    · rw [if_pos c43] at H
                      have c43b0 : (((rd_T98 l0_2 (ji40)).f1) == 77) = true := beq_iff_eq.mpr c43
                      have c43b1 : (((rd_T98 l0_2 (ji40)).f1) != 77) = false := bne_eq_false_iff_eq.mpr c43
                      clear c43
                      obtain ⟨ji44, hji44⟩ : ∃ j_ : Int, (wrap64 ((l0_2.length : Int) - 2)) = j_ := ⟨_, rfl⟩
                      replace H : (if 0 ≤ (ji44) then (if (ji44) < (l0_2.length : Int) then (some (((rd_T98 l0_2 (ji44)).f1) == 77)) else (none)) else (none)) = some r := by first | (rw [hji44] at H; exact H) | (simp only [hji44] at H ⊢; exact H)
                      have hji44w : (IntKind.i64.wrap ((l0_2.length : Int) - 2)) = ji44 := (i64_w _).trans hji44
                      by_cases c45 : 0 ≤ (ji44)
                      · rw [if_pos c45] at H
                        have c45b0 : decide (0 ≤ (ji44)) = true := decide_eq_true c45
                        clear c45
                        by_cases c46 : (ji44) < (l0_2.length : Int)
                        · rw [if_pos c46] at H
                          have c46b0 : decide ((ji44) < (l0_2.length : Int)) = true := decide_eq_true c46
                          clear c46
                          obtain rfl := Option.some.inj H
                          have hcz47_0 : wr.cell? ⟨gb225, 0, none⟩ = some (.slice A0_0 l0_0.length c0_0) := (blk_cell BK225.out 0).trans rfl
                          have hcz47_1 : wr.cell? ⟨gb225, 1, none⟩ = some (.slice A0_1 l0_1.length c0_1) := (blk_cell BK225.out 1).trans rfl
                          have hcz47_2 : wr.cell? ⟨gb225, 2, none⟩ = some (.slice A0_2 l0_2.length c0_2) := (blk_cell BK225.out 2).trans rfl
                          have hcz47_3 : wr.cell? ⟨gb225, 3, none⟩ = some (.slice A0_3 l0_3.length c0_3) := (blk_cell BK225.out 3).trans rfl
                          have hfz47_0 := blk_frozen BK225.out 0
                          have hfz47_1 := blk_frozen BK225.out 1
                          have hfz47_2 := blk_frozen BK225.out 2
                          have hfz47_3 := blk_frozen BK225.out 3
                          have p235 : 0 ≤ ((ji40) : Int) := of_decide_eq_true (by first | (with_reducible assumption) | assumption)
                          have q235 : (ji40) < (l0_2.length : Int) := of_decide_eq_true (by first | (with_reducible assumption) | assumption)
                          obtain ⟨ad235, A235_3, c235_3, A235_4, c235_4, A235_5, c235_5, A235_6, c235_6, e235, hx235_0, hx235_1, hx235_2, hx235_3, hx235_4, hx235_5, hx235_6, hl235_3, hi235_3, hl235_4, hi235_4, hl235_5, hi235_5, hl235_6, hi235_6⟩ := at_T98 HR0_2.out (ji40) p235 q235
                          cases e235
                          replace hx235_0 := (HB.out.cell (World.block_lt_of_cell? w _ hx235_0)).trans hx235_0
                          replace hx235_1 := (HB.out.cell (World.block_lt_of_cell? w _ hx235_1)).trans hx235_1
                          replace hx235_2 := (HB.out.cell (World.block_lt_of_cell? w _ hx235_2)).trans hx235_2
                          replace hx235_3 := (HB.out.cell (World.block_lt_of_cell? w _ hx235_3)).trans hx235_3
                          replace hx235_4 := (HB.out.cell (World.block_lt_of_cell? w _ hx235_4)).trans hx235_4
                          replace hx235_5 := (HB.out.cell (World.block_lt_of_cell? w _ hx235_5)).trans hx235_5
                          replace hx235_6 := (HB.out.cell (World.block_lt_of_cell? w _ hx235_6)).trans hx235_6
                          have HR235_3 := Aside0.mk hi235_3
                          have HC235_3 := Aside0.mk hl235_3
                          clear hi235_3 hl235_3
                          have HR235_4 := Aside0.mk hi235_4
                          have HC235_4 := Aside0.mk hl235_4
                          clear hi235_4 hl235_4
                          have HR235_5 := Aside0.mk hi235_5
                          have HC235_5 := Aside0.mk hl235_5
                          clear hi235_5 hl235_5
                          have HR235_6 := Aside0.mk hi235_6
                          have HC235_6 := Aside0.mk hl235_6
                          clear hi235_6 hl235_6
                          replace p235 := eq_true p235
                          replace q235 := eq_true q235
                          have p236 : 0 ≤ ((ji44) : Int) := of_decide_eq_true (by first | (with_reducible assumption) | assumption)
                          have q236 : (ji44) < (l0_2.length : Int) := of_decide_eq_true (by first | (with_reducible assumption) | assumption)
                          obtain ⟨ad236, A236_3, c236_3, A236_4, c236_4, A236_5, c236_5, A236_6, c236_6, e236, hx236_0, hx236_1, hx236_2, hx236_3, hx236_4, hx236_5, hx236_6, hl236_3, hi236_3, hl236_4, hi236_4, hl236_5, hi236_5, hl236_6, hi236_6⟩ := at_T98 HR0_2.out (ji44) p236 q236
                          obtain rfl : ad235 = ad236 := (by injection e236)
                          replace hx236_0 := (HB.out.cell (World.block_lt_of_cell? w _ hx236_0)).trans hx236_0
                          replace hx236_1 := (HB.out.cell (World.block_lt_of_cell? w _ hx236_1)).trans hx236_1
                          replace hx236_2 := (HB.out.cell (World.block_lt_of_cell? w _ hx236_2)).trans hx236_2
                          replace hx236_3 := (HB.out.cell (World.block_lt_of_cell? w _ hx236_3)).trans hx236_3
                          replace hx236_4 := (HB.out.cell (World.block_lt_of_cell? w _ hx236_4)).trans hx236_4
                          replace hx236_5 := (HB.out.cell (World.block_lt_of_cell? w _ hx236_5)).trans hx236_5
                          replace hx236_6 := (HB.out.cell (World.block_lt_of_cell? w _ hx236_6)).trans hx236_6
                          have HR236_3 := Aside0.mk hi236_3
                          have HC236_3 := Aside0.mk hl236_3
                          clear hi236_3 hl236_3
                          have HR236_4 := Aside0.mk hi236_4
                          have HC236_4 := Aside0.mk hl236_4
                          clear hi236_4 hl236_4
                          have HR236_5 := Aside0.mk hi236_5
                          have HC236_5 := Aside0.mk hl236_5
                          clear hi236_5 hl236_5
                          have HR236_6 := Aside0.mk hi236_6
                          have HC236_6 := Aside0.mk hl236_6
                          clear hi236_6 hl236_6
                          replace p236 := eq_true p236
                          replace q236 := eq_true q236
                          go_wp2
                          go_ret
                          exact ⟨by first | rfl | (simp [errW_none, errW_some] <;> rfl) | (simp only [← hji40, ← hji44]; first | rfl | (simp [errW_none, errW_some] <;> rfl)) | (simp [*, errW_none, errW_some] <;> rfl), by repeat (first | (with_reducible first | exact HB.out | apply below_alloc | apply pw_below_drewN | apply below_drew1 | refine below_set ?_ GE225.out) | exact HB.out)⟩
                        · rw [if_neg c46] at H
                          exact absurd H (by simp)
                      · rw [if_neg c45] at H
                        exact absurd H (by simp)
                    · rw [if_neg c43] at H
                      have c43b0 : (((rd_T98 l0_2 (ji40)).f1) == 77) = false := beq_eq_false_iff_ne.mpr c43
                      have c43b1 : (((rd_T98 l0_2 (ji40)).f1) != 77) = true := bne_iff_ne.mpr c43
                      obtain rfl := Option.some.inj H
                      have hcz48_0 : wr.cell? ⟨gb225, 0, none⟩ = some (.slice A0_0 l0_0.length c0_0) := (blk_cell BK225.out 0).trans rfl
                      have hcz48_1 : wr.cell? ⟨gb225, 1, none⟩ = some (.slice A0_1 l0_1.length c0_1) := (blk_cell BK225.out 1).trans rfl
                      have hcz48_2 : wr.cell? ⟨gb225, 2, none⟩ = some (.slice A0_2 l0_2.length c0_2) := (blk_cell BK225.out 2).trans rfl
                      have hcz48_3 : wr.cell? ⟨gb225, 3, none⟩ = some (.slice A0_3 l0_3.length c0_3) := (blk_cell BK225.out 3).trans rfl
                      have hfz48_0 := blk_frozen BK225.out 0
                      have hfz48_1 := blk_frozen BK225.out 1
                      have hfz48_2 := blk_frozen BK225.out 2
                      have hfz48_3 := blk_frozen BK225.out 3
                      have p235 : 0 ≤ ((ji40) : Int) := of_decide_eq_true (by first | (with_reducible assumption) | assumption)
                      have q235 : (ji40) < (l0_2.length : Int) := of_decide_eq_true (by first | (with_reducible assumption) | assumption)
                      obtain ⟨ad235, A235_3, c235_3, A235_4, c235_4, A235_5, c235_5, A235_6, c235_6, e235, hx235_0, hx235_1, hx235_2, hx235_3, hx235_4, hx235_5, hx235_6, hl235_3, hi235_3, hl235_4, hi235_4, hl235_5, hi235_5, hl235_6, hi235_6⟩ := at_T98 HR0_2.out (ji40) p235 q235
                      cases e235
                      replace hx235_0 := (HB.out.cell (World.block_lt_of_cell? w _ hx235_0)).trans hx235_0
                      replace hx235_1 := (HB.out.cell (World.block_lt_of_cell? w _ hx235_1)).trans hx235_1
                      replace hx235_2 := (HB.out.cell (World.block_lt_of_cell? w _ hx235_2)).trans hx235_2
                      replace hx235_3 := (HB.out.cell (World.block_lt_of_cell? w _ hx235_3)).trans hx235_3
                      replace hx235_4 := (HB.out.cell (World.block_lt_of_cell? w _ hx235_4)).trans hx235_4
                      replace hx235_5 := (HB.out.cell (World.block_lt_of_cell? w _ hx235_5)).trans hx235_5
                      replace hx235_6 := (HB.out.cell (World.block_lt_of_cell? w _ hx235_6)).trans hx235_6
                      have HR235_3 := Aside0.mk hi235_3
                      have HC235_3 := Aside0.mk hl235_3
                      clear hi235_3 hl235_3
                      have HR235_4 := Aside0.mk hi235_4
                      have HC235_4 := Aside0.mk hl235_4
                      clear hi235_4 hl235_4
                      have HR235_5 := Aside0.mk hi235_5
                      have HC235_5 := Aside0.mk hl235_5
                      clear hi235_5 hl235_5
                      have HR235_6 := Aside0.mk hi235_6
                      have HC235_6 := Aside0.mk hl235_6
                      clear hi235_6 hl235_6
                      replace p235 := eq_true p235
                      replace q235 := eq_true q235
                      go_wp2
                      go_ret
                      exact ⟨by first | rfl | (simp [errW_none, errW_some] <;> rfl) | (simp only [← hji40]; first | rfl | (simp [errW_none, errW_some] <;> rfl)) | (simp [*, errW_none, errW_some] <;> rfl), by repeat (first | (with_reducible first | exact HB.out | apply below_alloc | apply pw_below_drewN | apply below_drew1 | refine below_set ?_ GE225.out) | exact HB.out)⟩
                  · rw [if_neg c42] at H
                    exact absurd H (by simp)
                · rw [if_neg c41] at H
                  exact absurd H (by simp)

end Go.Proofs.YtdgempbldhdihaaDoor.P
