-- Written by a program of this work's (wip/tools/px.py over the seat's translation); Lean checks it.
import Derived.Test.YtdgempbldhdihaaDoorP0
import Derived.Test.YtdgempbldhdihaaDoorP17
import Derived.Test.YtdgempbldhdihaaDoorP21
namespace Go.Proofs.YtdgempbldhdihaaDoor.P
open Go.RowKit Go.Proofs.YtdgempbldhdihaaDoorW.PrintWords Go.Proofs.YtdgempbldhdihaaDoorW.PrintLast Go.Proofs.YtdgempbldhdihaaDoorW.PrintMore
attribute [local go_sem] max2_int min2_int max_two min_two max_three min_three max_four min_four   -- for this text's walks alone
set_option linter.unusedVariables false
set_option linter.unusedSimpArgs false

/-! ### junctionref6_move: function 46 -/
mutual
def junctionref6_move.l0 : Nat → Int → Int → Bool → Int → Int → List (S42) → List (S47) → Option (Int)
  | 0, _, _, _, _, _, _, _ => none
  | k + 1, x1, x2, x3, x9, x10, x195000, x195001 => if x10 < (x195000.length : Int) then ((junctionref6_has.f x1 x10).bind fun t195 => (if t195 = true then ((junctionref6_has.f x2 x10).bind fun t196 => (junctionref6_move.j1 k x1 x2 x3 x9 x10 (!t196) x195000 x195001)) else (junctionref6_move.j1 k x1 x2 x3 x9 x10 false x195000 x195001))) else (some x9)
def junctionref6_move.j1 : Nat → Int → Int → Bool → Int → Int → Bool → List (S42) → List (S47) → Option (Int)
  | 0, _, _, _, _, _, _, _, _ => none
  | k + 1, x1, x2, x3, x9, x10, x11, x195000, x195001 => (junctionref6_has.f x2 x10).bind fun t197 => (if t197 = true then ((junctionref6_has.f x1 x10).bind fun t198 => (junctionref6_move.j2 k x1 x2 x3 x9 x10 x11 (!t198) x195000 x195001)) else (junctionref6_move.j2 k x1 x2 x3 x9 x10 x11 false x195000 x195001))
def junctionref6_move.j2 : Nat → Int → Int → Bool → Int → Int → Bool → Bool → List (S42) → List (S47) → Option (Int)
  | 0, _, _, _, _, _, _, _, _, _ => none
  | k + 1, x1, x2, x3, x9, x10, x11, x12, x195000, x195001 => if x11 = true then (if 0 ≤ x10 then (if x10 < (x195000.length : Int) then (junctionref6_move.j3 k x1 x2 x3 x9 x10 x12 (wrap64 (1 + ((rd_T42 x195000 x10).f3))) x195000 x195001) else (none)) else (none)) else (junctionref6_move.j3 k x1 x2 x3 x9 x10 x12 0 x195000 x195001)
def junctionref6_move.j3 : Nat → Int → Int → Bool → Int → Int → Bool → Int → List (S42) → List (S47) → Option (Int)
  | 0, _, _, _, _, _, _, _, _, _ => none
  | k + 1, x1, x2, x3, x9, x10, x12, x13, x195000, x195001 => if x12 = true then (junctionref6_move.l1 k x1 x2 x3 x9 x10 0 0 x195000 x195001) else (junctionref6_move.l0 k x1 x2 x3 (mx x9 x13) (wrap64 (x10 + 1)) x195000 x195001)
def junctionref6_move.l1 : Nat → Int → Int → Bool → Int → Int → Int → Int → List (S42) → List (S47) → Option (Int)
  | 0, _, _, _, _, _, _, _, _, _ => none
  | k + 1, x1, x2, x3, x9, x10, x14, x15, x195000, x195001 => if x15 < (x195000.length : Int) then ((junctionref6_has.f x1 x15).bind fun t201 => (if t201 = true then ((junctionref6_has.f x2 x15).bind fun t202 => (if x3 = true then ((junctionref6_wait.f k x195000 x195001 x15 x10).bind fun t203 => (junctionref6_move.l1 k x1 x2 x3 x9 x10 (mx x14 t203) (wrap64 (x15 + 1)) x195000 x195001)) else (if t202 = true then (junctionref6_move.l1 k x1 x2 x3 x9 x10 x14 (wrap64 (x15 + 1)) x195000 x195001) else ((junctionref6_wait.f k x195000 x195001 x15 x10).bind fun t204 => (junctionref6_move.l1 k x1 x2 x3 x9 x10 (mx x14 t204) (wrap64 (x15 + 1)) x195000 x195001))))) else (if x3 = true then ((junctionref6_wait.f k x195000 x195001 x15 x10).bind fun t205 => (junctionref6_move.l1 k x1 x2 x3 x9 x10 (mx x14 t205) (wrap64 (x15 + 1)) x195000 x195001)) else (junctionref6_move.l1 k x1 x2 x3 x9 x10 x14 (wrap64 (x15 + 1)) x195000 x195001)))) else (if 0 ≤ x10 then (if x10 < (x195000.length : Int) then (junctionref6_move.l0 k x1 x2 x3 (mx x9 (wrap64 ((wrap64 (1 + x14)) + ((rd_T42 x195000 x10).f4)))) (wrap64 (x10 + 1)) x195000 x195001) else (none)) else (none))
end
def junctionref6_move.f (k : Nat) (l0_0 : List (S42)) (l0_1 : List (S47)) (a1 : Int) (a2 : Int) (a3 : Bool) : Option (Int) := junctionref6_move.l0 k a1 a2 a3 0 0 l0_0 l0_1
theorem junctionref6_move.mono_l : ∀ k, (∀ y0 y1 y2 y3 y4 y5 y6, LeO (junctionref6_move.l0 k y0 y1 y2 y3 y4 y5 y6) (junctionref6_move.l0 (k + 1) y0 y1 y2 y3 y4 y5 y6)) ∧ (∀ y0 y1 y2 y3 y4 y5 y6 y7, LeO (junctionref6_move.j1 k y0 y1 y2 y3 y4 y5 y6 y7) (junctionref6_move.j1 (k + 1) y0 y1 y2 y3 y4 y5 y6 y7)) ∧ (∀ y0 y1 y2 y3 y4 y5 y6 y7 y8, LeO (junctionref6_move.j2 k y0 y1 y2 y3 y4 y5 y6 y7 y8) (junctionref6_move.j2 (k + 1) y0 y1 y2 y3 y4 y5 y6 y7 y8)) ∧ (∀ y0 y1 y2 y3 y4 y5 y6 y7 y8, LeO (junctionref6_move.j3 k y0 y1 y2 y3 y4 y5 y6 y7 y8) (junctionref6_move.j3 (k + 1) y0 y1 y2 y3 y4 y5 y6 y7 y8)) ∧ (∀ y0 y1 y2 y3 y4 y5 y6 y7 y8, LeO (junctionref6_move.l1 k y0 y1 y2 y3 y4 y5 y6 y7 y8) (junctionref6_move.l1 (k + 1) y0 y1 y2 y3 y4 y5 y6 y7 y8))
  | 0 => ⟨fun _ _ _ _ _ _ _ r h => by simp [junctionref6_move.l0] at h, fun _ _ _ _ _ _ _ _ r h => by simp [junctionref6_move.j1] at h, fun _ _ _ _ _ _ _ _ _ r h => by simp [junctionref6_move.j2] at h, fun _ _ _ _ _ _ _ _ _ r h => by simp [junctionref6_move.j3] at h, fun _ _ _ _ _ _ _ _ _ r h => by simp [junctionref6_move.l1] at h⟩
  | k + 1 => by
    obtain ⟨ih0, ih1, ih2, ih3, ih4⟩ := junctionref6_move.mono_l k
    refine ⟨?_, ?_, ?_, ?_, ?_⟩
    · intro y0 y1 y2 y3 y4 y5 y6
      unfold junctionref6_move.l0
      repeat' first
      | (with_reducible exact ih0 _ _ _ _ _ _ _)
      | (with_reducible exact ih1 _ _ _ _ _ _ _ _)
      | (with_reducible exact ih2 _ _ _ _ _ _ _ _ _)
      | (with_reducible exact ih3 _ _ _ _ _ _ _ _ _)
      | (with_reducible exact ih4 _ _ _ _ _ _ _ _ _)
      | (with_reducible exact junctionref6_wait.mono _ _ _ _ _)
      | (with_reducible exact LeO.refl _)
      | (with_reducible exact LeO.none _)
      | (with_reducible refine LeO.ite ?_ ?_)
      | (with_reducible refine LeO.bind ?_ (fun _ => ?_))
      | exact ih0 _ _ _ _ _ _ _
      | exact ih1 _ _ _ _ _ _ _ _
      | exact ih2 _ _ _ _ _ _ _ _ _
      | exact ih3 _ _ _ _ _ _ _ _ _
      | exact ih4 _ _ _ _ _ _ _ _ _
      | exact junctionref6_wait.mono _ _ _ _ _
      | exact LeO.none _
      | refine LeO.ite ?_ ?_
      | refine LeO.bind ?_ (fun _ => ?_)
    · intro y0 y1 y2 y3 y4 y5 y6 y7
      unfold junctionref6_move.j1
      repeat' first
      | (with_reducible exact ih0 _ _ _ _ _ _ _)
      | (with_reducible exact ih1 _ _ _ _ _ _ _ _)
      | (with_reducible exact ih2 _ _ _ _ _ _ _ _ _)
      | (with_reducible exact ih3 _ _ _ _ _ _ _ _ _)
      | (with_reducible exact ih4 _ _ _ _ _ _ _ _ _)
      | (with_reducible exact junctionref6_wait.mono _ _ _ _ _)
      | (with_reducible exact LeO.refl _)
      | (with_reducible exact LeO.none _)
      | (with_reducible refine LeO.ite ?_ ?_)
      | (with_reducible refine LeO.bind ?_ (fun _ => ?_))
      | exact ih0 _ _ _ _ _ _ _
      | exact ih1 _ _ _ _ _ _ _ _
      | exact ih2 _ _ _ _ _ _ _ _ _
      | exact ih3 _ _ _ _ _ _ _ _ _
      | exact ih4 _ _ _ _ _ _ _ _ _
      | exact junctionref6_wait.mono _ _ _ _ _
      | exact LeO.none _
      | refine LeO.ite ?_ ?_
      | refine LeO.bind ?_ (fun _ => ?_)
    · intro y0 y1 y2 y3 y4 y5 y6 y7 y8
      unfold junctionref6_move.j2
      repeat' first
      | (with_reducible exact ih0 _ _ _ _ _ _ _)
      | (with_reducible exact ih1 _ _ _ _ _ _ _ _)
      | (with_reducible exact ih2 _ _ _ _ _ _ _ _ _)
      | (with_reducible exact ih3 _ _ _ _ _ _ _ _ _)
      | (with_reducible exact ih4 _ _ _ _ _ _ _ _ _)
      | (with_reducible exact junctionref6_wait.mono _ _ _ _ _)
      | (with_reducible exact LeO.refl _)
      | (with_reducible exact LeO.none _)
      | (with_reducible refine LeO.ite ?_ ?_)
      | (with_reducible refine LeO.bind ?_ (fun _ => ?_))
      | exact ih0 _ _ _ _ _ _ _
      | exact ih1 _ _ _ _ _ _ _ _
      | exact ih2 _ _ _ _ _ _ _ _ _
      | exact ih3 _ _ _ _ _ _ _ _ _
      | exact ih4 _ _ _ _ _ _ _ _ _
      | exact junctionref6_wait.mono _ _ _ _ _
      | exact LeO.none _
      | refine LeO.ite ?_ ?_
      | refine LeO.bind ?_ (fun _ => ?_)
    · intro y0 y1 y2 y3 y4 y5 y6 y7 y8
      unfold junctionref6_move.j3
      repeat' first
      | (with_reducible exact ih0 _ _ _ _ _ _ _)
      | (with_reducible exact ih1 _ _ _ _ _ _ _ _)
      | (with_reducible exact ih2 _ _ _ _ _ _ _ _ _)
      | (with_reducible exact ih3 _ _ _ _ _ _ _ _ _)
      | (with_reducible exact ih4 _ _ _ _ _ _ _ _ _)
      | (with_reducible exact junctionref6_wait.mono _ _ _ _ _)
      | (with_reducible exact LeO.refl _)
      | (with_reducible exact LeO.none _)
      | (with_reducible refine LeO.ite ?_ ?_)
      | (with_reducible refine LeO.bind ?_ (fun _ => ?_))
      | exact ih0 _ _ _ _ _ _ _
      | exact ih1 _ _ _ _ _ _ _ _
      | exact ih2 _ _ _ _ _ _ _ _ _
      | exact ih3 _ _ _ _ _ _ _ _ _
      | exact ih4 _ _ _ _ _ _ _ _ _
      | exact junctionref6_wait.mono _ _ _ _ _
      | exact LeO.none _
      | refine LeO.ite ?_ ?_
      | refine LeO.bind ?_ (fun _ => ?_)
    · intro y0 y1 y2 y3 y4 y5 y6 y7 y8
      unfold junctionref6_move.l1
      repeat' first
      | (with_reducible exact ih0 _ _ _ _ _ _ _)
      | (with_reducible exact ih1 _ _ _ _ _ _ _ _)
      | (with_reducible exact ih2 _ _ _ _ _ _ _ _ _)
      | (with_reducible exact ih3 _ _ _ _ _ _ _ _ _)
      | (with_reducible exact ih4 _ _ _ _ _ _ _ _ _)
      | (with_reducible exact junctionref6_wait.mono _ _ _ _ _)
      | (with_reducible exact LeO.refl _)
      | (with_reducible exact LeO.none _)
      | (with_reducible refine LeO.ite ?_ ?_)
      | (with_reducible refine LeO.bind ?_ (fun _ => ?_))
      | exact ih0 _ _ _ _ _ _ _
      | exact ih1 _ _ _ _ _ _ _ _
      | exact ih2 _ _ _ _ _ _ _ _ _
      | exact ih3 _ _ _ _ _ _ _ _ _
      | exact ih4 _ _ _ _ _ _ _ _ _
      | exact junctionref6_wait.mono _ _ _ _ _
      | exact LeO.none _
      | refine LeO.ite ?_ ?_
      | refine LeO.bind ?_ (fun _ => ?_)
theorem junctionref6_move.mono : ∀ a0 a1 a2 a3 a4 k, LeO (junctionref6_move.f k a0 a1 a2 a3 a4) (junctionref6_move.f (k + 1) a0 a1 a2 a3 a4) := by
  intro a0 a1 a2 a3 a4 k
  obtain ⟨ih0, ih1, ih2, ih3, ih4⟩ := junctionref6_move.mono_l k
  unfold junctionref6_move.f
  repeat' first
      | (with_reducible exact ih0 _ _ _ _ _ _ _)
      | (with_reducible exact ih1 _ _ _ _ _ _ _ _)
      | (with_reducible exact ih2 _ _ _ _ _ _ _ _ _)
      | (with_reducible exact ih3 _ _ _ _ _ _ _ _ _)
      | (with_reducible exact ih4 _ _ _ _ _ _ _ _ _)
      | (with_reducible exact junctionref6_wait.mono _ _ _ _ _)
      | (with_reducible exact LeO.refl _)
      | (with_reducible exact LeO.none _)
      | (with_reducible refine LeO.ite ?_ ?_)
      | (with_reducible refine LeO.bind ?_ (fun _ => ?_))
      | exact ih0 _ _ _ _ _ _ _
      | exact ih1 _ _ _ _ _ _ _ _
      | exact ih2 _ _ _ _ _ _ _ _ _
      | exact ih3 _ _ _ _ _ _ _ _ _
      | exact ih4 _ _ _ _ _ _ _ _ _
      | exact junctionref6_wait.mono _ _ _ _ _
      | exact LeO.none _
      | refine LeO.ite ?_ ?_
      | refine LeO.bind ?_ (fun _ => ?_)
set_option maxHeartbeats 8000000 in
set_option maxRecDepth 100000 in
theorem junctionref6_move.calls (k : Nat) (A0_0 : Option Addr) (c0_0 : Nat) (l0_0 : List (S42)) (A0_1 : Option Addr) (c0_1 : Nat) (l0_1 : List (S47)) (a1 : Int) (a2 : Int) (a3 : Bool) (r : Int) (w : World) (hr0_0 : Kd.C k42 w A0_0 l0_0.length l0_0) (hc0_0 : l0_0.length ≤ c0_0) (hr0_1 : Kd.C k47 w A0_1 l0_1.length l0_1) (hc0_1 : l0_1.length ≤ c0_1) (h : junctionref6_move.f k l0_0 l0_1 a1 a2 a3 = some r) :
    Calls Tryd.prog 46 #[.agg #[.slice A0_0 l0_0.length c0_0, .slice A0_1 l0_1.length c0_1], .int .u64 a1, .int .u64 a2, .bool a3] w fun e w' => e = .returned (.int .i64 r) ∧ Below w.heap.size w w' := by
  have hu25 := Tryd.underlying25
  have HR0_0 := Aside0.mk hr0_0
  have HC0_0 := Aside0.mk hc0_0
  clear hr0_0 hc0_0
  have HR0_1 := Aside0.mk hr0_1
  have HC0_1 := Aside0.mk hc0_1
  clear hr0_1 hc0_1
  have HB := Aside0.mk (Below.refl w.heap.size w)
  have H : (junctionref6_move.l0 k a1 a2 a3 0 0 l0_0 l0_1) = some r := h
  clear h
  have H' := Aside0.mk H
  clear H
  go_enter Tryd.func46, Tryd.ntmps46
  go_wp2_with (first | ((with_reducible refine gate_dst (N := 4) rfl ?_); refine box_event ?hg (N := 4) ?hd (cs := #[.slice A0_0 l0_0.length c0_0, .slice A0_1 l0_1.length c0_1]) (t := 25) ?hr ?_; (case hd => rfl); (case hg => rfl); (case hr => first | (go_simp; done) | (go_simp; rfl)); intro gb194 hg w5 hbox hb; have n0_ := Aside0.mk (below_step (by repeat (first | (with_reducible first | exact HB.out | apply below_alloc | apply pw_below_drewN | apply below_drew1) | exact HB.out)) hb); have n1_ := Aside0.mk (hbox); have n2_ := Aside0.mk ((by rw [hg]; exact (below_size (by repeat (first | (with_reducible first | exact HB.out | apply below_alloc | apply pw_below_drewN | apply below_drew1) | exact HB.out))) : w.heap.size ≤ gb194)); have n3_ := Aside0.mk ((by rw [hg]; exact (below_size (by repeat (first | (with_reducible first | exact HB.out | apply below_alloc | apply pw_below_drewN | apply below_drew1) | exact HB.out))) : w.heap.size ≤ gb194)); clear HB; have HB := n0_; have BK194 := n1_; have GW194 := n2_; have GE194 := n3_; clear n0_ n1_ n2_ n3_; clear hb hbox hg))
  go_loopg [9, 10] k (fun kq v9 v10 w' => ∃ (x9_1 : Int) (x10_1 : Int), v9 = .int .i64 x9_1 ∧ v10 = .int .i64 x10_1 ∧ Aside0 (junctionref6_move.l0 kq a1 a2 a3 x9_1 x10_1 l0_0 l0_1 = some r) ∧ Aside0 (kq ≤ k) ∧ Aside0 (w'.heap[gb194]? = some (.cells #[(.slice A0_0 l0_0.length c0_0), (.slice A0_1 l0_1.length c0_1)] 25 (0, 0))) ∧ Aside0 (Below w.heap.size w w'))
  case atStart => exact ⟨(0), (0), (by first | rfl | (simp; done) | (simp [*]; done)), (by first | rfl | (simp; done) | (simp [*]; done)), H', ⟨Nat.le_refl _⟩, ⟨by (with_reducible repeat (first | refine blk_drewN ?_ _ | refine blk_drew ?_ | refine blk_alloc ?_ _)); exact BK194.out⟩, ⟨by repeat (first | (with_reducible first | exact HB.out | apply below_alloc | apply pw_below_drewN | apply below_drew1 | refine below_set ?_ GE194.out) | exact HB.out)⟩⟩
  case round =>
    clear H'
    obtain ⟨x9_1, x10_1, rfl, rfl, HA, HK1, BK194, HB⟩ := hrel
    cases gk with
    | zero => exact absurd HA.out (by simp [junctionref6_move.l0])
    | succ k1 =>
      have H := HA.out
      clear HA
      simp only [junctionref6_move.l0] at H
      by_cases c6 : x10_1 < (l0_0.length : Int)
      · rw [if_pos c6] at H
        have c6b0 : decide (x10_1 < (l0_0.length : Int)) = true := decide_eq_true c6
        clear c6
        have HC7 := Aside0.mk H
        clear H
        have hcz8_0 : wr.cell? ⟨gb194, 0, none⟩ = some (.slice A0_0 l0_0.length c0_0) := (blk_cell BK194.out 0).trans rfl
        have hcz8_1 : wr.cell? ⟨gb194, 1, none⟩ = some (.slice A0_1 l0_1.length c0_1) := (blk_cell BK194.out 1).trans rfl
        have hfz8_0 := blk_frozen BK194.out 0
        have hfz8_1 := blk_frozen BK194.out 1
        go_upto_region 5 with (fail)
        go_cut [11] (fun v11 wc => ∃ (kq : Nat) (x11_6 : Bool), v11 = .bool x11_6 ∧ Aside0 (junctionref6_move.j1 kq a1 a2 a3 x9_1 x10_1 x11_6 l0_0 l0_1 = some r) ∧ Aside0 (kq ≤ k1) ∧ Aside0 (wc.heap[gb194]? = some (.cells #[(.slice A0_0 l0_0.length c0_0), (.slice A0_1 l0_1.length c0_1)] 25 (0, 0))) ∧ Aside0 (Below w.heap.size w wc))
        case first =>
          have H := HC7.out
          clear HC7
          replace H := Option.bind_eq_some_iff.mp H
          obtain ⟨t195, A90, H⟩ := H
          replace H : (if t195 = true then ((junctionref6_has.f a2 x10_1).bind fun t196 => (junctionref6_move.j1 k1 a1 a2 a3 x9_1 x10_1 (!t196) l0_0 l0_1)) else (junctionref6_move.j1 k1 a1 a2 a3 x9_1 x10_1 false l0_0 l0_1)) = some r := H
          have A9 := Aside0.mk A90
          clear A90
          by_cases c10 : t195 = true
          · subst c10
            have H1 : ((junctionref6_has.f a2 x10_1).bind fun t196 => (junctionref6_move.j1 k1 a1 a2 a3 x9_1 x10_1 (!t196) l0_0 l0_1)) = some r := by rw [if_pos rfl] at H; exact H
            clear H
            have H := H1
            clear H1
            replace H := Option.bind_eq_some_iff.mp H
            obtain ⟨t196, A110, H⟩ := H
            replace H : (junctionref6_move.j1 k1 a1 a2 a3 x9_1 x10_1 (!t196) l0_0 l0_1) = some r := H
            have A11 := Aside0.mk A110
            clear A110
            have H' := Aside0.mk H
            clear H
            go_wp2_with (first | ((with_reducible refine gate_callee (f := 50) rfl ?_); refine goesL_ (some 26) rfl rfl Tryd.func50 (by kernel_rfl) rfl #[.int .u64 a1, .int .i64 x10_1] rfl (by (try simp only [List.map_toArray, List.map_cons, List.map_nil]); first | done | rfl | (simp only [List.length_drop, List.length_take]; rfl)) ?_; (with_reducible refine (junctionref6_has.calls a1 x10_1 true _ A9.out).mono ?_); rintro e w' ⟨rfl, ⟨nd, rfl⟩⟩; refine ⟨_, rfl, ?_⟩) | (go_at_call 50; (with_reducible refine (junctionref6_has.calls a2 x10_1 t196 _ A11.out).mono ?_); rintro e w' ⟨rfl, ⟨nd, rfl⟩⟩))
            go_meet
            case rel => exact ⟨_, (!t196), (by first | rfl | (simp; done) | (simp [*]; done)), H', ⟨by have := HK1.out; first | omega | exact Nat.le_refl _⟩, ⟨by (with_reducible repeat (first | refine blk_drewN ?_ _ | refine blk_drew ?_ | refine blk_alloc ?_ _)); exact BK194.out⟩, ⟨by repeat (first | (with_reducible first | exact HB.out | apply below_alloc | apply pw_below_drewN | apply below_drew1 | refine below_set ?_ GE194.out) | exact HB.out)⟩⟩
          · replace c10 := Bool.eq_false_iff.mpr c10
            subst c10
            have H1 : (junctionref6_move.j1 k1 a1 a2 a3 x9_1 x10_1 false l0_0 l0_1) = some r := by rw [if_neg (show ¬ (false = true) by decide)] at H; exact H
            clear H
            have H := H1
            clear H1
            have H' := Aside0.mk H
            clear H
            go_wp2_with (first | ((with_reducible refine gate_callee (f := 50) rfl ?_); refine goesL_ (some 26) rfl rfl Tryd.func50 (by kernel_rfl) rfl #[.int .u64 a1, .int .i64 x10_1] rfl (by (try simp only [List.map_toArray, List.map_cons, List.map_nil]); first | done | rfl | (simp only [List.length_drop, List.length_take]; rfl)) ?_; (with_reducible refine (junctionref6_has.calls a1 x10_1 false _ A9.out).mono ?_); rintro e w' ⟨rfl, ⟨nd, rfl⟩⟩; refine ⟨_, rfl, ?_⟩))
            go_meet
            case rel => exact ⟨_, (false), (by first | rfl | (simp; done) | (simp [*]; done)), H', ⟨by have := HK1.out; first | omega | exact Nat.le_refl _⟩, ⟨by (with_reducible repeat (first | refine blk_drewN ?_ _ | refine blk_drew ?_ | refine blk_alloc ?_ _)); exact BK194.out⟩, ⟨by repeat (first | (with_reducible first | exact HB.out | apply below_alloc | apply pw_below_drewN | apply below_drew1 | refine below_set ?_ GE194.out) | exact HB.out)⟩⟩
        case rest =>
          clear HC7
          obtain ⟨kq, x11_6, rfl, HA, HJ6, BK194, HB⟩ := hcut
          cases kq with
          | zero => exact absurd HA.out (by simp [junctionref6_move.j1])
          | succ kj6 =>
            have H := HA.out
            clear HA
            simp only [junctionref6_move.j1] at H
            have HC12 := Aside0.mk H
            clear H
            go_upto_region 6 with (fail)
            go_cut [12] (fun v12 wc => ∃ (kq : Nat) (x12_11 : Bool), v12 = .bool x12_11 ∧ Aside0 (junctionref6_move.j2 kq a1 a2 a3 x9_1 x10_1 x11_6 x12_11 l0_0 l0_1 = some r) ∧ Aside0 (kq ≤ kj6) ∧ Aside0 (wc.heap[gb194]? = some (.cells #[(.slice A0_0 l0_0.length c0_0), (.slice A0_1 l0_1.length c0_1)] 25 (0, 0))) ∧ Aside0 (Below w.heap.size w wc))
            case first =>
              have H := HC12.out
              clear HC12
              replace H := Option.bind_eq_some_iff.mp H
              obtain ⟨t197, A130, H⟩ := H
              replace H : (if t197 = true then ((junctionref6_has.f a1 x10_1).bind fun t198 => (junctionref6_move.j2 kj6 a1 a2 a3 x9_1 x10_1 x11_6 (!t198) l0_0 l0_1)) else (junctionref6_move.j2 kj6 a1 a2 a3 x9_1 x10_1 x11_6 false l0_0 l0_1)) = some r := H
              have A13 := Aside0.mk A130
              clear A130
              by_cases c14 : t197 = true
              · subst c14
                have H1 : ((junctionref6_has.f a1 x10_1).bind fun t198 => (junctionref6_move.j2 kj6 a1 a2 a3 x9_1 x10_1 x11_6 (!t198) l0_0 l0_1)) = some r := by rw [if_pos rfl] at H; exact H
                clear H
                have H := H1
                clear H1
                replace H := Option.bind_eq_some_iff.mp H
                obtain ⟨t198, A150, H⟩ := H
                replace H : (junctionref6_move.j2 kj6 a1 a2 a3 x9_1 x10_1 x11_6 (!t198) l0_0 l0_1) = some r := H
                have A15 := Aside0.mk A150
                clear A150
                have H' := Aside0.mk H
                clear H
                go_wp2_with (first | ((with_reducible refine gate_callee (f := 50) rfl ?_); refine goesL_ (some 35) rfl rfl Tryd.func50 (by kernel_rfl) rfl #[.int .u64 a2, .int .i64 x10_1] rfl (by (try simp only [List.map_toArray, List.map_cons, List.map_nil]); first | done | rfl | (simp only [List.length_drop, List.length_take]; rfl)) ?_; (with_reducible refine (junctionref6_has.calls a2 x10_1 true _ A13.out).mono ?_); rintro e w' ⟨rfl, ⟨nd, rfl⟩⟩; refine ⟨_, rfl, ?_⟩) | (go_at_call 50; (with_reducible refine (junctionref6_has.calls a1 x10_1 t198 _ A15.out).mono ?_); rintro e w' ⟨rfl, ⟨nd, rfl⟩⟩))
                go_meet
                case rel => exact ⟨_, (!t198), (by first | rfl | (simp; done) | (simp [*]; done)), H', ⟨by have := HK1.out; have := HJ6.out; first | omega | exact Nat.le_refl _⟩, ⟨by (with_reducible repeat (first | refine blk_drewN ?_ _ | refine blk_drew ?_ | refine blk_alloc ?_ _)); exact BK194.out⟩, ⟨by repeat (first | (with_reducible first | exact HB.out | apply below_alloc | apply pw_below_drewN | apply below_drew1 | refine below_set ?_ GE194.out) | exact HB.out)⟩⟩
              · replace c14 := Bool.eq_false_iff.mpr c14
                subst c14
                have H1 : (junctionref6_move.j2 kj6 a1 a2 a3 x9_1 x10_1 x11_6 false l0_0 l0_1) = some r := by rw [if_neg (show ¬ (false = true) by decide)] at H; exact H
                clear H
                have H := H1
                clear H1
                have H' := Aside0.mk H
                clear H
                go_wp2_with (first | ((with_reducible refine gate_callee (f := 50) rfl ?_); refine goesL_ (some 35) rfl rfl Tryd.func50 (by kernel_rfl) rfl #[.int .u64 a2, .int .i64 x10_1] rfl (by (try simp only [List.map_toArray, List.map_cons, List.map_nil]); first | done | rfl | (simp only [List.length_drop, List.length_take]; rfl)) ?_; (with_reducible refine (junctionref6_has.calls a2 x10_1 false _ A13.out).mono ?_); rintro e w' ⟨rfl, ⟨nd, rfl⟩⟩; refine ⟨_, rfl, ?_⟩))
                go_meet
                case rel => exact ⟨_, (false), (by first | rfl | (simp; done) | (simp [*]; done)), H', ⟨by have := HK1.out; have := HJ6.out; first | omega | exact Nat.le_refl _⟩, ⟨by (with_reducible repeat (first | refine blk_drewN ?_ _ | refine blk_drew ?_ | refine blk_alloc ?_ _)); exact BK194.out⟩, ⟨by repeat (first | (with_reducible first | exact HB.out | apply below_alloc | apply pw_below_drewN | apply below_drew1 | refine below_set ?_ GE194.out) | exact HB.out)⟩⟩
            case rest =>
              clear HC12
              obtain ⟨kq, x12_11, rfl, HA, HJ11, BK194, HB⟩ := hcut
              cases kq with
              | zero => exact absurd HA.out (by simp [junctionref6_move.j2])
              | succ kj11 =>
                have H := HA.out
                clear HA
                simp only [junctionref6_move.j2] at H
                have HC16 := Aside0.mk H
                clear H
                go_upto_if 42 with (fail)
                go_cut [13] (fun v13 wc => ∃ (kq : Nat) (x13_15 : Int), v13 = .int .i64 x13_15 ∧ Aside0 (junctionref6_move.j3 kq a1 a2 a3 x9_1 x10_1 x12_11 x13_15 l0_0 l0_1 = some r) ∧ Aside0 (kq ≤ kj11) ∧ Aside0 (wc.heap[gb194]? = some (.cells #[(.slice A0_0 l0_0.length c0_0), (.slice A0_1 l0_1.length c0_1)] 25 (0, 0))) ∧ Aside0 (Below w.heap.size w wc))
                case first =>
                  have H := HC16.out
                  clear HC16
                  by_cases c17 : x11_6 = true
                  · subst c17
                    have H1 : (if 0 ≤ x10_1 then (if x10_1 < (l0_0.length : Int) then (junctionref6_move.j3 kj11 a1 a2 a3 x9_1 x10_1 x12_11 (wrap64 (1 + ((rd_T42 l0_0 x10_1).f3))) l0_0 l0_1) else (none)) else (none)) = some r := by rw [if_pos rfl] at H; exact H
                    clear H
                    have H := H1
                    clear H1
                    by_cases c18 : 0 ≤ x10_1
                    · rw [if_pos c18] at H
                      have c18b0 : decide (0 ≤ x10_1) = true := decide_eq_true c18
                      clear c18
                      (first | rw [c18b0] | (simp only [i64_w, i32_w]; rw [c18b0]) | skip)
                      by_cases c19 : x10_1 < (l0_0.length : Int)
                      · rw [if_pos c19] at H
                        have c19b0 : decide (x10_1 < (l0_0.length : Int)) = true := decide_eq_true c19
                        clear c19
                        have H' := Aside0.mk H
                        clear H
                        have hcz20_0 : wc.cell? ⟨gb194, 0, none⟩ = some (.slice A0_0 l0_0.length c0_0) := (blk_cell BK194.out 0).trans rfl
                        have hcz20_1 : wc.cell? ⟨gb194, 1, none⟩ = some (.slice A0_1 l0_1.length c0_1) := (blk_cell BK194.out 1).trans rfl
                        have hfz20_0 := blk_frozen BK194.out 0
                        have hfz20_1 := blk_frozen BK194.out 1
                        have p199 : 0 ≤ (x10_1 : Int) := of_decide_eq_true (by first | (with_reducible assumption) | assumption)
                        have q199 : x10_1 < (l0_0.length : Int) := of_decide_eq_true (by first | (with_reducible assumption) | assumption)
                        obtain ⟨ad199, e199, hx199_0, hx199_1, hx199_2, hx199_3, hx199_4⟩ := at_T42 HR0_0.out x10_1 p199 q199
                        cases e199
                        replace hx199_0 := (HB.out.cell (World.block_lt_of_cell? w _ hx199_0)).trans hx199_0
                        replace hx199_1 := (HB.out.cell (World.block_lt_of_cell? w _ hx199_1)).trans hx199_1
                        replace hx199_2 := (HB.out.cell (World.block_lt_of_cell? w _ hx199_2)).trans hx199_2
                        replace hx199_3 := (HB.out.cell (World.block_lt_of_cell? w _ hx199_3)).trans hx199_3
                        replace hx199_4 := (HB.out.cell (World.block_lt_of_cell? w _ hx199_4)).trans hx199_4
                        replace p199 := eq_true p199
                        replace q199 := eq_true q199
                        go_wp2
                        go_meet
                        case rel => exact ⟨_, (wrap64 (1 + ((rd_T42 l0_0 x10_1).f3))), (by first | rfl | (simp; done) | (simp [*]; done)), H', ⟨by have := HK1.out; have := HJ6.out; have := HJ11.out; first | omega | exact Nat.le_refl _⟩, ⟨by (with_reducible repeat (first | refine blk_drewN ?_ _ | refine blk_drew ?_ | refine blk_alloc ?_ _)); exact BK194.out⟩, ⟨by repeat (first | (with_reducible first | exact HB.out | apply below_alloc | apply pw_below_drewN | apply below_drew1 | refine below_set ?_ GE194.out) | exact HB.out)⟩⟩
                      · rw [if_neg c19] at H
                        exact absurd H (by simp)
                    · rw [if_neg c18] at H
                      exact absurd H (by simp)
                  · replace c17 := Bool.eq_false_iff.mpr c17
                    subst c17
                    have H1 : (junctionref6_move.j3 kj11 a1 a2 a3 x9_1 x10_1 x12_11 0 l0_0 l0_1) = some r := by rw [if_neg (show ¬ (false = true) by decide)] at H; exact H
                    clear H
                    have H := H1
                    clear H1
                    have H' := Aside0.mk H
                    clear H
                    go_wp2
                    go_meet
                    case rel => exact ⟨_, (0), (by first | rfl | (simp; done) | (simp [*]; done)), H', ⟨by have := HK1.out; have := HJ6.out; have := HJ11.out; first | omega | exact Nat.le_refl _⟩, ⟨by (with_reducible repeat (first | refine blk_drewN ?_ _ | refine blk_drew ?_ | refine blk_alloc ?_ _)); exact BK194.out⟩, ⟨by repeat (first | (with_reducible first | exact HB.out | apply below_alloc | apply pw_below_drewN | apply below_drew1 | refine below_set ?_ GE194.out) | exact HB.out)⟩⟩
                case rest =>
                  clear HC16
                  obtain ⟨kq, x13_15, rfl, HA, HJ15, BK194, HB⟩ := hcut
                  cases kq with
                  | zero => exact absurd HA.out (by simp [junctionref6_move.j3])
                  | succ kj15 =>
                    have H := HA.out
                    clear HA
                    simp only [junctionref6_move.j3] at H
                    by_cases c21 : x12_11 = true
                    · subst c21
                      have H1 : (junctionref6_move.l1 kj15 a1 a2 a3 x9_1 x10_1 0 0 l0_0 l0_1) = some r := by rw [if_pos rfl] at H; exact H
                      clear H
                      have H := H1
                      clear H1
                      have H' := Aside0.mk H
                      clear H
                      go_wp2
                      go_loopg [14, 15] kj15 (fun kq v14 v15 w' => ∃ (x14_5 : Int) (x15_5 : Int), v14 = .int .i64 x14_5 ∧ v15 = .int .i64 x15_5 ∧ Aside0 (junctionref6_move.l1 kq a1 a2 a3 x9_1 x10_1 x14_5 x15_5 l0_0 l0_1 = some r) ∧ Aside0 (kq ≤ kj15) ∧ Aside0 (w'.heap[gb194]? = some (.cells #[(.slice A0_0 l0_0.length c0_0), (.slice A0_1 l0_1.length c0_1)] 25 (0, 0))) ∧ Aside0 (Below w.heap.size w w'))
                      case atStart => exact ⟨(0), (0), (by first | rfl | (simp; done) | (simp [*]; done)), (by first | rfl | (simp; done) | (simp [*]; done)), H', ⟨Nat.le_refl _⟩, ⟨by (with_reducible repeat (first | refine blk_drewN ?_ _ | refine blk_drew ?_ | refine blk_alloc ?_ _)); exact BK194.out⟩, ⟨by repeat (first | (with_reducible first | exact HB.out | apply below_alloc | apply pw_below_drewN | apply below_drew1 | refine below_set ?_ GE194.out) | exact HB.out)⟩⟩
                      case round =>
                        clear H'
                        obtain ⟨x14_5, x15_5, rfl, rfl, HA, HK5, BK194, HB⟩ := hrel
                        cases gk with
                        | zero => exact absurd HA.out (by simp [junctionref6_move.l1])
                        | succ k5 =>
                          have H := HA.out
                          clear HA
                          simp only [junctionref6_move.l1] at H
                          by_cases c22 : x15_5 < (l0_0.length : Int)
                          · rw [if_pos c22] at H
                            have c22b0 : decide (x15_5 < (l0_0.length : Int)) = true := decide_eq_true c22
                            clear c22
                            replace H := Option.bind_eq_some_iff.mp H
                            obtain ⟨t201, A230, H⟩ := H
                            replace H : (if t201 = true then ((junctionref6_has.f a2 x15_5).bind fun t202 => (if a3 = true then ((junctionref6_wait.f k5 l0_0 l0_1 x15_5 x10_1).bind fun t203 => (junctionref6_move.l1 k5 a1 a2 a3 x9_1 x10_1 (mx x14_5 t203) (wrap64 (x15_5 + 1)) l0_0 l0_1)) else (if t202 = true then (junctionref6_move.l1 k5 a1 a2 a3 x9_1 x10_1 x14_5 (wrap64 (x15_5 + 1)) l0_0 l0_1) else ((junctionref6_wait.f k5 l0_0 l0_1 x15_5 x10_1).bind fun t204 => (junctionref6_move.l1 k5 a1 a2 a3 x9_1 x10_1 (mx x14_5 t204) (wrap64 (x15_5 + 1)) l0_0 l0_1))))) else (if a3 = true then ((junctionref6_wait.f k5 l0_0 l0_1 x15_5 x10_1).bind fun t205 => (junctionref6_move.l1 k5 a1 a2 a3 x9_1 x10_1 (mx x14_5 t205) (wrap64 (x15_5 + 1)) l0_0 l0_1)) else (junctionref6_move.l1 k5 a1 a2 a3 x9_1 x10_1 x14_5 (wrap64 (x15_5 + 1)) l0_0 l0_1))) = some r := H
                            have A23 := Aside0.mk A230
                            clear A230
                            by_cases c24 : t201 = true
                            · subst c24
                              have H1 : ((junctionref6_has.f a2 x15_5).bind fun t202 => (if a3 = true then ((junctionref6_wait.f k5 l0_0 l0_1 x15_5 x10_1).bind fun t203 => (junctionref6_move.l1 k5 a1 a2 a3 x9_1 x10_1 (mx x14_5 t203) (wrap64 (x15_5 + 1)) l0_0 l0_1)) else (if t202 = true then (junctionref6_move.l1 k5 a1 a2 a3 x9_1 x10_1 x14_5 (wrap64 (x15_5 + 1)) l0_0 l0_1) else ((junctionref6_wait.f k5 l0_0 l0_1 x15_5 x10_1).bind fun t204 => (junctionref6_move.l1 k5 a1 a2 a3 x9_1 x10_1 (mx x14_5 t204) (wrap64 (x15_5 + 1)) l0_0 l0_1))))) = some r := by rw [if_pos rfl] at H; exact H
                              clear H
                              have H := H1
                              clear H1
                              replace H := Option.bind_eq_some_iff.mp H
                              obtain ⟨t202, A250, H⟩ := H
                              replace H : (if a3 = true then ((junctionref6_wait.f k5 l0_0 l0_1 x15_5 x10_1).bind fun t203 => (junctionref6_move.l1 k5 a1 a2 a3 x9_1 x10_1 (mx x14_5 t203) (wrap64 (x15_5 + 1)) l0_0 l0_1)) else (if t202 = true then (junctionref6_move.l1 k5 a1 a2 a3 x9_1 x10_1 x14_5 (wrap64 (x15_5 + 1)) l0_0 l0_1) else ((junctionref6_wait.f k5 l0_0 l0_1 x15_5 x10_1).bind fun t204 => (junctionref6_move.l1 k5 a1 a2 a3 x9_1 x10_1 (mx x14_5 t204) (wrap64 (x15_5 + 1)) l0_0 l0_1)))) = some r := H
                              have A25 := Aside0.mk A250
                              clear A250
                              by_cases c26 : a3 = true
                              · subst c26
                                have H1 : ((junctionref6_wait.f k5 l0_0 l0_1 x15_5 x10_1).bind fun t203 => (junctionref6_move.l1 k5 a1 a2 true x9_1 x10_1 (mx x14_5 t203) (wrap64 (x15_5 + 1)) l0_0 l0_1)) = some r := by rw [if_pos rfl] at H; exact H
                                clear H
                                have H := H1
                                clear H1
                                replace H := Option.bind_eq_some_iff.mp H
                                obtain ⟨t203, A270, H⟩ := H
                                replace H : (junctionref6_move.l1 k5 a1 a2 true x9_1 x10_1 (mx x14_5 t203) (wrap64 (x15_5 + 1)) l0_0 l0_1) = some r := H
                                have A27 := Aside0.mk A270
                                clear A270
                                obtain ⟨ji28, hji28⟩ : ∃ j_ : Int, (mx x14_5 t203) = j_ := ⟨_, rfl⟩
                                replace H : (junctionref6_move.l1 k5 a1 a2 true x9_1 x10_1 ji28 (wrap64 (x15_5 + 1)) l0_0 l0_1) = some r := by first | (rw [hji28] at H; exact H) | (simp only [hji28] at H ⊢; exact H)
                                (try rw [hji28] at A23)
                                (try rw [hji28] at A25)
                                (try rw [hji28] at A27)
                                have hji28_ : (if x14_5 < t203 then t203 else x14_5) = ji28 := hji28
                                have H' := Aside0.mk H
                                clear H
                                have hcz29_0 : wr.cell? ⟨gb194, 0, none⟩ = some (.slice A0_0 l0_0.length c0_0) := (blk_cell BK194.out 0).trans rfl
                                have hcz29_1 : wr.cell? ⟨gb194, 1, none⟩ = some (.slice A0_1 l0_1.length c0_1) := (blk_cell BK194.out 1).trans rfl
                                have hfz29_0 := blk_frozen BK194.out 0
                                have hfz29_1 := blk_frozen BK194.out 1
                                go_wp2_with (first | ((with_reducible refine gate_callee (f := 50) rfl ?_); refine goesL_ (some 60) rfl rfl Tryd.func50 (by kernel_rfl) rfl #[.int .u64 a1, .int .i64 x15_5] rfl (by (try simp only [List.map_toArray, List.map_cons, List.map_nil]); first | done | rfl | (simp only [List.length_drop, List.length_take]; rfl)) ?_; (with_reducible refine (junctionref6_has.calls a1 x15_5 true _ A23.out).mono ?_); rintro e w' ⟨rfl, ⟨nd, rfl⟩⟩; refine ⟨_, rfl, ?_⟩) | (go_at_call 50; (with_reducible refine (junctionref6_has.calls a2 x15_5 t202 _ A25.out).mono ?_); rintro e w' ⟨rfl, ⟨nd, rfl⟩⟩) | ((with_reducible refine gate_callee (f := 74) rfl ?_); refine goesL_ (some 75) rfl rfl Tryd.func74 (by kernel_rfl) rfl #[.agg #[.slice A0_0 l0_0.length c0_0, .slice A0_1 l0_1.length c0_1], .int .i64 x15_5, .int .i64 x10_1] rfl (by (try simp only [List.map_toArray, List.map_cons, List.map_nil]); first | done | rfl | (simp only [List.length_drop, List.length_take]; rfl)) ?_; (with_reducible refine (junctionref6_wait.calls k5 _ _ l0_0 _ _ l0_1 x15_5 x10_1 t203 _ ?side1 ?side2 ?side3 ?side4 A27.out).mono ?_); (case side1 => repeat (first | exact (Kd.C_below HR0_0.out (by repeat (first | (with_reducible first | exact HB.out | apply below_alloc | apply pw_below_drewN | apply below_drew1 | refine below_set ?_ GE194.out) | exact HB.out))) | (with_reducible refine Kd.C_alloc ?_ _) | (with_reducible refine Kd.C_drewN ?_ _) | (with_reducible refine Kd.C_drew ?_))); (case side2 => exact HC0_0.out); (case side3 => repeat (first | exact (Kd.C_below HR0_1.out (by repeat (first | (with_reducible first | exact HB.out | apply below_alloc | apply pw_below_drewN | apply below_drew1 | refine below_set ?_ GE194.out) | exact HB.out))) | (with_reducible refine Kd.C_alloc ?_ _) | (with_reducible refine Kd.C_drewN ?_ _) | (with_reducible refine Kd.C_drew ?_))); (case side4 => exact HC0_1.out); rintro e w30 ⟨rfl, hb⟩; refine ⟨_, rfl, ?_⟩; have n0_ := Aside0.mk (blk_below (g := gb194) (o := .cells #[.slice A0_0 l0_0.length c0_0, .slice A0_1 l0_1.length c0_1] 25 (0, 0)) (by (with_reducible repeat (first | refine blk_drewN ?_ _ | refine blk_drew ?_ | refine blk_alloc ?_ _)); exact BK194.out) hb); have n1_ := Aside0.mk (below_step (by repeat (first | (with_reducible first | exact HB.out | apply below_alloc | apply pw_below_drewN | apply below_drew1 | refine below_set ?_ GE194.out) | exact HB.out)) hb); clear BK194; clear HB; have BK194 := n0_; have HB := n1_; clear n0_ n1_; (try clear hb); (try clear hb2); (try clear hk); (try clear hi)))
                                go_roundg k5
                                case measure => have := HK1.out; have := HJ6.out; have := HJ11.out; have := HJ15.out; have := HK5.out; omega
                                case rel => exact ⟨(ji28), (wrap64 (x15_5 + 1)), (by first | rfl | (simp; done) | (simp only [← hji28] <;> (first | rfl | simp)) | (simp [*]; done)), (by first | rfl | (simp; done) | (simp [*]; done)), H', ⟨by have := HK1.out; have := HJ6.out; have := HJ11.out; have := HJ15.out; have := HK5.out; omega⟩, ⟨by (with_reducible repeat (first | refine blk_drewN ?_ _ | refine blk_drew ?_ | refine blk_alloc ?_ _)); exact BK194.out⟩, ⟨by repeat (first | (with_reducible first | exact HB.out | apply below_alloc | apply pw_below_drewN | apply below_drew1 | refine below_set ?_ GE194.out) | exact HB.out)⟩⟩
                              · replace c26 := Bool.eq_false_iff.mpr c26
                                subst c26
                                have H1 : (if t202 = true then (junctionref6_move.l1 k5 a1 a2 false x9_1 x10_1 x14_5 (wrap64 (x15_5 + 1)) l0_0 l0_1) else ((junctionref6_wait.f k5 l0_0 l0_1 x15_5 x10_1).bind fun t204 => (junctionref6_move.l1 k5 a1 a2 false x9_1 x10_1 (mx x14_5 t204) (wrap64 (x15_5 + 1)) l0_0 l0_1))) = some r := by rw [if_neg (show ¬ (false = true) by decide)] at H; exact H
                                clear H
                                have H := H1
                                clear H1
                                by_cases c31 : t202 = true
                                · subst c31
                                  have H1 : (junctionref6_move.l1 k5 a1 a2 false x9_1 x10_1 x14_5 (wrap64 (x15_5 + 1)) l0_0 l0_1) = some r := by rw [if_pos rfl] at H; exact H
                                  clear H
                                  have H := H1
                                  clear H1
                                  have H' := Aside0.mk H
                                  clear H
                                  have hcz32_0 : wr.cell? ⟨gb194, 0, none⟩ = some (.slice A0_0 l0_0.length c0_0) := (blk_cell BK194.out 0).trans rfl
                                  have hcz32_1 : wr.cell? ⟨gb194, 1, none⟩ = some (.slice A0_1 l0_1.length c0_1) := (blk_cell BK194.out 1).trans rfl
                                  have hfz32_0 := blk_frozen BK194.out 0
                                  have hfz32_1 := blk_frozen BK194.out 1
                                  go_wp2_with (first | ((with_reducible refine gate_callee (f := 50) rfl ?_); refine goesL_ (some 60) rfl rfl Tryd.func50 (by kernel_rfl) rfl #[.int .u64 a1, .int .i64 x15_5] rfl (by (try simp only [List.map_toArray, List.map_cons, List.map_nil]); first | done | rfl | (simp only [List.length_drop, List.length_take]; rfl)) ?_; (with_reducible refine (junctionref6_has.calls a1 x15_5 true _ A23.out).mono ?_); rintro e w' ⟨rfl, ⟨nd, rfl⟩⟩; refine ⟨_, rfl, ?_⟩) | (go_at_call 50; (with_reducible refine (junctionref6_has.calls a2 x15_5 true _ A25.out).mono ?_); rintro e w' ⟨rfl, ⟨nd, rfl⟩⟩))
                                  go_roundg k5
                                  case measure => have := HK1.out; have := HJ6.out; have := HJ11.out; have := HJ15.out; have := HK5.out; omega
                                  case rel => exact ⟨(x14_5), (wrap64 (x15_5 + 1)), (by first | rfl | (simp; done) | (simp [*]; done)), (by first | rfl | (simp; done) | (simp [*]; done)), H', ⟨by have := HK1.out; have := HJ6.out; have := HJ11.out; have := HJ15.out; have := HK5.out; omega⟩, ⟨by (with_reducible repeat (first | refine blk_drewN ?_ _ | refine blk_drew ?_ | refine blk_alloc ?_ _)); exact BK194.out⟩, ⟨by repeat (first | (with_reducible first | exact HB.out | apply below_alloc | apply pw_below_drewN | apply below_drew1 | refine below_set ?_ GE194.out) | exact HB.out)⟩⟩
                                · replace c31 := Bool.eq_false_iff.mpr c31
                                  subst c31
                                  have H1 : ((junctionref6_wait.f k5 l0_0 l0_1 x15_5 x10_1).bind fun t204 => (junctionref6_move.l1 k5 a1 a2 false x9_1 x10_1 (mx x14_5 t204) (wrap64 (x15_5 + 1)) l0_0 l0_1)) = some r := by rw [if_neg (show ¬ (false = true) by decide)] at H; exact H
                                  clear H
                                  have H := H1
                                  clear H1
                                  replace H := Option.bind_eq_some_iff.mp H
                                  obtain ⟨t204, A330, H⟩ := H
                                  replace H : (junctionref6_move.l1 k5 a1 a2 false x9_1 x10_1 (mx x14_5 t204) (wrap64 (x15_5 + 1)) l0_0 l0_1) = some r := H
                                  have A33 := Aside0.mk A330
                                  clear A330
                                  obtain ⟨ji34, hji34⟩ : ∃ j_ : Int, (mx x14_5 t204) = j_ := ⟨_, rfl⟩
                                  replace H : (junctionref6_move.l1 k5 a1 a2 false x9_1 x10_1 ji34 (wrap64 (x15_5 + 1)) l0_0 l0_1) = some r := by first | (rw [hji34] at H; exact H) | (simp only [hji34] at H ⊢; exact H)
                                  (try rw [hji34] at A23)
                                  (try rw [hji34] at A25)
                                  (try rw [hji34] at A33)
                                  have hji34_ : (if x14_5 < t204 then t204 else x14_5) = ji34 := hji34
                                  have H' := Aside0.mk H
                                  clear H
                                  have hcz35_0 : wr.cell? ⟨gb194, 0, none⟩ = some (.slice A0_0 l0_0.length c0_0) := (blk_cell BK194.out 0).trans rfl
                                  have hcz35_1 : wr.cell? ⟨gb194, 1, none⟩ = some (.slice A0_1 l0_1.length c0_1) := (blk_cell BK194.out 1).trans rfl
                                  have hfz35_0 := blk_frozen BK194.out 0
                                  have hfz35_1 := blk_frozen BK194.out 1
                                  go_wp2_with (first | ((with_reducible refine gate_callee (f := 50) rfl ?_); refine goesL_ (some 60) rfl rfl Tryd.func50 (by kernel_rfl) rfl #[.int .u64 a1, .int .i64 x15_5] rfl (by (try simp only [List.map_toArray, List.map_cons, List.map_nil]); first | done | rfl | (simp only [List.length_drop, List.length_take]; rfl)) ?_; (with_reducible refine (junctionref6_has.calls a1 x15_5 true _ A23.out).mono ?_); rintro e w' ⟨rfl, ⟨nd, rfl⟩⟩; refine ⟨_, rfl, ?_⟩) | (go_at_call 50; (with_reducible refine (junctionref6_has.calls a2 x15_5 false _ A25.out).mono ?_); rintro e w' ⟨rfl, ⟨nd, rfl⟩⟩) | ((with_reducible refine gate_callee (f := 74) rfl ?_); refine goesL_ (some 75) rfl rfl Tryd.func74 (by kernel_rfl) rfl #[.agg #[.slice A0_0 l0_0.length c0_0, .slice A0_1 l0_1.length c0_1], .int .i64 x15_5, .int .i64 x10_1] rfl (by (try simp only [List.map_toArray, List.map_cons, List.map_nil]); first | done | rfl | (simp only [List.length_drop, List.length_take]; rfl)) ?_; (with_reducible refine (junctionref6_wait.calls k5 _ _ l0_0 _ _ l0_1 x15_5 x10_1 t204 _ ?side1 ?side2 ?side3 ?side4 A33.out).mono ?_); (case side1 => repeat (first | exact (Kd.C_below HR0_0.out (by repeat (first | (with_reducible first | exact HB.out | apply below_alloc | apply pw_below_drewN | apply below_drew1 | refine below_set ?_ GE194.out) | exact HB.out))) | (with_reducible refine Kd.C_alloc ?_ _) | (with_reducible refine Kd.C_drewN ?_ _) | (with_reducible refine Kd.C_drew ?_))); (case side2 => exact HC0_0.out); (case side3 => repeat (first | exact (Kd.C_below HR0_1.out (by repeat (first | (with_reducible first | exact HB.out | apply below_alloc | apply pw_below_drewN | apply below_drew1 | refine below_set ?_ GE194.out) | exact HB.out))) | (with_reducible refine Kd.C_alloc ?_ _) | (with_reducible refine Kd.C_drewN ?_ _) | (with_reducible refine Kd.C_drew ?_))); (case side4 => exact HC0_1.out); rintro e w36 ⟨rfl, hb⟩; refine ⟨_, rfl, ?_⟩; have n0_ := Aside0.mk (blk_below (g := gb194) (o := .cells #[.slice A0_0 l0_0.length c0_0, .slice A0_1 l0_1.length c0_1] 25 (0, 0)) (by (with_reducible repeat (first | refine blk_drewN ?_ _ | refine blk_drew ?_ | refine blk_alloc ?_ _)); exact BK194.out) hb); have n1_ := Aside0.mk (below_step (by repeat (first | (with_reducible first | exact HB.out | apply below_alloc | apply pw_below_drewN | apply below_drew1 | refine below_set ?_ GE194.out) | exact HB.out)) hb); clear BK194; clear HB; have BK194 := n0_; have HB := n1_; clear n0_ n1_; (try clear hb); (try clear hb2); (try clear hk); (try clear hi)))
                                  go_roundg k5
                                  case measure => have := HK1.out; have := HJ6.out; have := HJ11.out; have := HJ15.out; have := HK5.out; omega
                                  case rel => exact ⟨(ji34), (wrap64 (x15_5 + 1)), (by first | rfl | (simp; done) | (simp only [← hji34] <;> (first | rfl | simp)) | (simp [*]; done)), (by first | rfl | (simp; done) | (simp [*]; done)), H', ⟨by have := HK1.out; have := HJ6.out; have := HJ11.out; have := HJ15.out; have := HK5.out; omega⟩, ⟨by (with_reducible repeat (first | refine blk_drewN ?_ _ | refine blk_drew ?_ | refine blk_alloc ?_ _)); exact BK194.out⟩, ⟨by repeat (first | (with_reducible first | exact HB.out | apply below_alloc | apply pw_below_drewN | apply below_drew1 | refine below_set ?_ GE194.out) | exact HB.out)⟩⟩
                            · replace c24 := Bool.eq_false_iff.mpr c24
                              subst c24
                              have H1 : (if a3 = true then ((junctionref6_wait.f k5 l0_0 l0_1 x15_5 x10_1).bind fun t205 => (junctionref6_move.l1 k5 a1 a2 a3 x9_1 x10_1 (mx x14_5 t205) (wrap64 (x15_5 + 1)) l0_0 l0_1)) else (junctionref6_move.l1 k5 a1 a2 a3 x9_1 x10_1 x14_5 (wrap64 (x15_5 + 1)) l0_0 l0_1)) = some r := by rw [if_neg (show ¬ (false = true) by decide)] at H; exact H
                              clear H
                              have H := H1
                              clear H1
                              by_cases c37 : a3 = true
                              · subst c37
                                have H1 : ((junctionref6_wait.f k5 l0_0 l0_1 x15_5 x10_1).bind fun t205 => (junctionref6_move.l1 k5 a1 a2 true x9_1 x10_1 (mx x14_5 t205) (wrap64 (x15_5 + 1)) l0_0 l0_1)) = some r := by rw [if_pos rfl] at H; exact H
                                clear H
                                have H := H1
                                clear H1
                                replace H := Option.bind_eq_some_iff.mp H
                                obtain ⟨t205, A380, H⟩ := H
                                replace H : (junctionref6_move.l1 k5 a1 a2 true x9_1 x10_1 (mx x14_5 t205) (wrap64 (x15_5 + 1)) l0_0 l0_1) = some r := H
                                have A38 := Aside0.mk A380
                                clear A380
                                obtain ⟨ji39, hji39⟩ : ∃ j_ : Int, (mx x14_5 t205) = j_ := ⟨_, rfl⟩
                                replace H : (junctionref6_move.l1 k5 a1 a2 true x9_1 x10_1 ji39 (wrap64 (x15_5 + 1)) l0_0 l0_1) = some r := by first | (rw [hji39] at H; exact H) | (simp only [hji39] at H ⊢; exact H)
                                (try rw [hji39] at A23)
                                (try rw [hji39] at A38)
                                have hji39_ : (if x14_5 < t205 then t205 else x14_5) = ji39 := hji39
                                have H' := Aside0.mk H
                                clear H
                                have hcz40_0 : wr.cell? ⟨gb194, 0, none⟩ = some (.slice A0_0 l0_0.length c0_0) := (blk_cell BK194.out 0).trans rfl
                                have hcz40_1 : wr.cell? ⟨gb194, 1, none⟩ = some (.slice A0_1 l0_1.length c0_1) := (blk_cell BK194.out 1).trans rfl
                                have hfz40_0 := blk_frozen BK194.out 0
                                have hfz40_1 := blk_frozen BK194.out 1
                                go_wp2_with (first | ((with_reducible refine gate_callee (f := 50) rfl ?_); refine goesL_ (some 60) rfl rfl Tryd.func50 (by kernel_rfl) rfl #[.int .u64 a1, .int .i64 x15_5] rfl (by (try simp only [List.map_toArray, List.map_cons, List.map_nil]); first | done | rfl | (simp only [List.length_drop, List.length_take]; rfl)) ?_; (with_reducible refine (junctionref6_has.calls a1 x15_5 false _ A23.out).mono ?_); rintro e w' ⟨rfl, ⟨nd, rfl⟩⟩; refine ⟨_, rfl, ?_⟩) | ((with_reducible refine gate_callee (f := 74) rfl ?_); refine goesL_ (some 75) rfl rfl Tryd.func74 (by kernel_rfl) rfl #[.agg #[.slice A0_0 l0_0.length c0_0, .slice A0_1 l0_1.length c0_1], .int .i64 x15_5, .int .i64 x10_1] rfl (by (try simp only [List.map_toArray, List.map_cons, List.map_nil]); first | done | rfl | (simp only [List.length_drop, List.length_take]; rfl)) ?_; (with_reducible refine (junctionref6_wait.calls k5 _ _ l0_0 _ _ l0_1 x15_5 x10_1 t205 _ ?side1 ?side2 ?side3 ?side4 A38.out).mono ?_); (case side1 => repeat (first | exact (Kd.C_below HR0_0.out (by repeat (first | (with_reducible first | exact HB.out | apply below_alloc | apply pw_below_drewN | apply below_drew1 | refine below_set ?_ GE194.out) | exact HB.out))) | (with_reducible refine Kd.C_alloc ?_ _) | (with_reducible refine Kd.C_drewN ?_ _) | (with_reducible refine Kd.C_drew ?_))); (case side2 => exact HC0_0.out); (case side3 => repeat (first | exact (Kd.C_below HR0_1.out (by repeat (first | (with_reducible first | exact HB.out | apply below_alloc | apply pw_below_drewN | apply below_drew1 | refine below_set ?_ GE194.out) | exact HB.out))) | (with_reducible refine Kd.C_alloc ?_ _) | (with_reducible refine Kd.C_drewN ?_ _) | (with_reducible refine Kd.C_drew ?_))); (case side4 => exact HC0_1.out); rintro e w41 ⟨rfl, hb⟩; refine ⟨_, rfl, ?_⟩; have n0_ := Aside0.mk (blk_below (g := gb194) (o := .cells #[.slice A0_0 l0_0.length c0_0, .slice A0_1 l0_1.length c0_1] 25 (0, 0)) (by (with_reducible repeat (first | refine blk_drewN ?_ _ | refine blk_drew ?_ | refine blk_alloc ?_ _)); exact BK194.out) hb); have n1_ := Aside0.mk (below_step (by repeat (first | (with_reducible first | exact HB.out | apply below_alloc | apply pw_below_drewN | apply below_drew1 | refine below_set ?_ GE194.out) | exact HB.out)) hb); clear BK194; clear HB; have BK194 := n0_; have HB := n1_; clear n0_ n1_; (try clear hb); (try clear hb2); (try clear hk); (try clear hi)))
                                go_roundg k5
                                case measure => have := HK1.out; have := HJ6.out; have := HJ11.out; have := HJ15.out; have := HK5.out; omega
                                case rel => exact ⟨(ji39), (wrap64 (x15_5 + 1)), (by first | rfl | (simp; done) | (simp only [← hji39] <;> (first | rfl | simp)) | (simp [*]; done)), (by first | rfl | (simp; done) | (simp [*]; done)), H', ⟨by have := HK1.out; have := HJ6.out; have := HJ11.out; have := HJ15.out; have := HK5.out; omega⟩, ⟨by (with_reducible repeat (first | refine blk_drewN ?_ _ | refine blk_drew ?_ | refine blk_alloc ?_ _)); exact BK194.out⟩, ⟨by repeat (first | (with_reducible first | exact HB.out | apply below_alloc | apply pw_below_drewN | apply below_drew1 | refine below_set ?_ GE194.out) | exact HB.out)⟩⟩
                              · replace c37 := Bool.eq_false_iff.mpr c37
                                subst c37
                                have H1 : (junctionref6_move.l1 k5 a1 a2 false x9_1 x10_1 x14_5 (wrap64 (x15_5 + 1)) l0_0 l0_1) = some r := by rw [if_neg (show ¬ (false = true) by decide)] at H; exact H
                                clear H
                                have H := H1
                                clear H1
                                have H' := Aside0.mk H
                                clear H
                                have hcz42_0 : wr.cell? ⟨gb194, 0, none⟩ = some (.slice A0_0 l0_0.length c0_0) := (blk_cell BK194.out 0).trans rfl
                                have hcz42_1 : wr.cell? ⟨gb194, 1, none⟩ = some (.slice A0_1 l0_1.length c0_1) := (blk_cell BK194.out 1).trans rfl
                                have hfz42_0 := blk_frozen BK194.out 0
                                have hfz42_1 := blk_frozen BK194.out 1
                                go_wp2_with (first | ((with_reducible refine gate_callee (f := 50) rfl ?_); refine goesL_ (some 60) rfl rfl Tryd.func50 (by kernel_rfl) rfl #[.int .u64 a1, .int .i64 x15_5] rfl (by (try simp only [List.map_toArray, List.map_cons, List.map_nil]); first | done | rfl | (simp only [List.length_drop, List.length_take]; rfl)) ?_; (with_reducible refine (junctionref6_has.calls a1 x15_5 false _ A23.out).mono ?_); rintro e w' ⟨rfl, ⟨nd, rfl⟩⟩; refine ⟨_, rfl, ?_⟩))
                                go_roundg k5
                                case measure => have := HK1.out; have := HJ6.out; have := HJ11.out; have := HJ15.out; have := HK5.out; omega
                                case rel => exact ⟨(x14_5), (wrap64 (x15_5 + 1)), (by first | rfl | (simp; done) | (simp [*]; done)), (by first | rfl | (simp; done) | (simp [*]; done)), H', ⟨by have := HK1.out; have := HJ6.out; have := HJ11.out; have := HJ15.out; have := HK5.out; omega⟩, ⟨by (with_reducible repeat (first | refine blk_drewN ?_ _ | refine blk_drew ?_ | refine blk_alloc ?_ _)); exact BK194.out⟩, ⟨by repeat (first | (with_reducible first | exact HB.out | apply below_alloc | apply pw_below_drewN | apply below_drew1 | refine below_set ?_ GE194.out) | exact HB.out)⟩⟩
                          · rw [if_neg c22] at H
                            have c22b0 : decide (x15_5 < (l0_0.length : Int)) = false := decide_eq_false c22
                            clear c22
                            by_cases c43 : 0 ≤ x10_1
                            · rw [if_pos c43] at H
                              have c43b0 : decide (0 ≤ x10_1) = true := decide_eq_true c43
                              clear c43
                              by_cases c44 : x10_1 < (l0_0.length : Int)
                              · rw [if_pos c44] at H
                                have c44b0 : decide (x10_1 < (l0_0.length : Int)) = true := decide_eq_true c44
                                clear c44
                                obtain ⟨ji45, hji45⟩ : ∃ j_ : Int, (mx x9_1 (wrap64 ((wrap64 (1 + x14_5)) + ((rd_T42 l0_0 x10_1).f4)))) = j_ := ⟨_, rfl⟩
                                replace H : (junctionref6_move.l0 k5 a1 a2 a3 ji45 (wrap64 (x10_1 + 1)) l0_0 l0_1) = some r := by first | (rw [hji45] at H; exact H) | (simp only [hji45] at H ⊢; exact H)
                                have hji45_ : (if x9_1 < (wrap64 ((wrap64 (1 + x14_5)) + ((rd_T42 l0_0 x10_1).f4))) then (wrap64 ((wrap64 (1 + x14_5)) + ((rd_T42 l0_0 x10_1).f4))) else x9_1) = ji45 := hji45
                                have H' := Aside0.mk H
                                clear H
                                have hcz46_0 : wr.cell? ⟨gb194, 0, none⟩ = some (.slice A0_0 l0_0.length c0_0) := (blk_cell BK194.out 0).trans rfl
                                have hcz46_1 : wr.cell? ⟨gb194, 1, none⟩ = some (.slice A0_1 l0_1.length c0_1) := (blk_cell BK194.out 1).trans rfl
                                have hfz46_0 := blk_frozen BK194.out 0
                                have hfz46_1 := blk_frozen BK194.out 1
                                have p200 : 0 ≤ (x10_1 : Int) := of_decide_eq_true (by first | (with_reducible assumption) | assumption)
                                have q200 : x10_1 < (l0_0.length : Int) := of_decide_eq_true (by first | (with_reducible assumption) | assumption)
                                obtain ⟨ad200, e200, hx200_0, hx200_1, hx200_2, hx200_3, hx200_4⟩ := at_T42 HR0_0.out x10_1 p200 q200
                                cases e200
                                replace hx200_0 := (HB.out.cell (World.block_lt_of_cell? w _ hx200_0)).trans hx200_0
                                replace hx200_1 := (HB.out.cell (World.block_lt_of_cell? w _ hx200_1)).trans hx200_1
                                replace hx200_2 := (HB.out.cell (World.block_lt_of_cell? w _ hx200_2)).trans hx200_2
                                replace hx200_3 := (HB.out.cell (World.block_lt_of_cell? w _ hx200_3)).trans hx200_3
                                replace hx200_4 := (HB.out.cell (World.block_lt_of_cell? w _ hx200_4)).trans hx200_4
                                replace p200 := eq_true p200
                                replace q200 := eq_true q200
                                go_wp2
                                go_roundg k5
                                case measure => have := HK1.out; have := HJ6.out; have := HJ11.out; have := HJ15.out; have := HK5.out; omega
                                case rel => exact ⟨(ji45), (wrap64 (x10_1 + 1)), (by first | rfl | (simp; done) | (simp only [← hji45] <;> (first | rfl | simp)) | (simp [*]; done)), (by first | rfl | (simp; done) | (simp [*]; done)), H', ⟨by have := HK1.out; have := HJ6.out; have := HJ11.out; have := HJ15.out; have := HK5.out; omega⟩, ⟨by (with_reducible repeat (first | refine blk_drewN ?_ _ | refine blk_drew ?_ | refine blk_alloc ?_ _)); exact BK194.out⟩, ⟨by repeat (first | (with_reducible first | exact HB.out | apply below_alloc | apply pw_below_drewN | apply below_drew1 | refine below_set ?_ GE194.out) | exact HB.out)⟩⟩
                              · rw [if_neg c44] at H
                                exact absurd H (by simp)
                            · rw [if_neg c43] at H
                              exact absurd H (by simp)
                    · replace c21 := Bool.eq_false_iff.mpr c21
                      subst c21
                      have H1 : (junctionref6_move.l0 kj15 a1 a2 a3 (mx x9_1 x13_15) (wrap64 (x10_1 + 1)) l0_0 l0_1) = some r := by rw [if_neg (show ¬ (false = true) by decide)] at H; exact H
                      clear H
                      have H := H1
                      clear H1
                      obtain ⟨ji47, hji47⟩ : ∃ j_ : Int, (mx x9_1 x13_15) = j_ := ⟨_, rfl⟩
                      replace H : (junctionref6_move.l0 kj15 a1 a2 a3 ji47 (wrap64 (x10_1 + 1)) l0_0 l0_1) = some r := by first | (rw [hji47] at H; exact H) | (simp only [hji47] at H ⊢; exact H)
                      have hji47_ : (if x9_1 < x13_15 then x13_15 else x9_1) = ji47 := hji47
                      have H' := Aside0.mk H
                      clear H
                      go_wp2
                      go_roundg kj15
                      case measure => have := HK1.out; have := HJ6.out; have := HJ11.out; have := HJ15.out; omega
                      case rel => exact ⟨(ji47), (wrap64 (x10_1 + 1)), (by first | rfl | (simp; done) | (simp only [← hji47] <;> (first | rfl | simp)) | (simp [*]; done)), (by first | rfl | (simp; done) | (simp [*]; done)), H', ⟨by have := HK1.out; have := HJ6.out; have := HJ11.out; have := HJ15.out; omega⟩, ⟨by (with_reducible repeat (first | refine blk_drewN ?_ _ | refine blk_drew ?_ | refine blk_alloc ?_ _)); exact BK194.out⟩, ⟨by repeat (first | (with_reducible first | exact HB.out | apply below_alloc | apply pw_below_drewN | apply below_drew1 | refine below_set ?_ GE194.out) | exact HB.out)⟩⟩
      · rw [if_neg c6] at H
        have c6b0 : decide (x10_1 < (l0_0.length : Int)) = false := decide_eq_false c6
        clear c6
        obtain rfl := Option.some.inj H
        have hcz48_0 : wr.cell? ⟨gb194, 0, none⟩ = some (.slice A0_0 l0_0.length c0_0) := (blk_cell BK194.out 0).trans rfl
        have hcz48_1 : wr.cell? ⟨gb194, 1, none⟩ = some (.slice A0_1 l0_1.length c0_1) := (blk_cell BK194.out 1).trans rfl
        have hfz48_0 := blk_frozen BK194.out 0
        have hfz48_1 := blk_frozen BK194.out 1
        go_wp2
        go_ret
        exact ⟨by first | rfl | (simp [errW_none, errW_some] <;> rfl) | (simp [*, errW_none, errW_some] <;> rfl), by repeat (first | (with_reducible first | exact HB.out | apply below_alloc | apply pw_below_drewN | apply below_drew1 | refine below_set ?_ GE194.out) | exact HB.out)⟩

end Go.Proofs.YtdgempbldhdihaaDoor.P
