-- Written by a program of this work's (wip/tools/px.py over the seat's translation); Lean checks it.
import Derived.Test.YtdgempbldhdihaaDoorP0
import Derived.Test.YtdgempbldhdihaaDoorP3
import Derived.Test.YtdgempbldhdihaaDoorShort
namespace Go.Proofs.YtdgempbldhdihaaDoor.P
open Go.RowKit Go.Proofs.YtdgempbldhdihaaDoor.Short Go.Proofs.YtdgempbldhdihaaDoorW.PrintWords Go.Proofs.YtdgempbldhdihaaDoorW.PrintLast Go.Proofs.YtdgempbldhdihaaDoorW.PrintMore
attribute [local go_sem] max2_int min2_int max_two min_two max_three min_three max_four min_four   -- for this text's walks alone
set_option linter.unusedVariables false
set_option linter.unusedSimpArgs false

/-! ### junctionlaw6_roomyTables: function 10 -/
def junctionlaw6_roomyTables.f (l0_0 : List (S42)) (l0_1 : List (S47)) : Option ((List (S42)) × (List (S47)) × (List (S42)) × (List (S47)) × (List (S98)) × (List (List (S95)))) := (junctionlaw6_copied.f l0_0 l0_1).bind fun bt112 => ((some (([(⟨(⟨#[]⟩ : ByteArray), 0, 77, 0, 0⟩ : S42), (⟨(⟨#[]⟩ : ByteArray), 0, 77, 0, 0⟩ : S42)] : List (S42)) : List (S42))).bind fun y119 => (if bt112.1.length + y119.length < 2932031007402 then ((some (bt112.1 ++ y119 : List (S42))).bind fun y122 => ((some (([(⟨0, 0, 77, 0⟩ : S47), (⟨0, 0, 77, 0⟩ : S47)] : List (S47)) : List (S47))).bind fun y125 => (if bt112.2.length + y125.length < 4398046511104 then ((some (bt112.2 ++ y125 : List (S47))).bind fun y128 => (if 0 ≤ (l0_0.length : Int) then (if (l0_0.length : Int) ≤ (y122.length : Int) then (if 0 ≤ (l0_1.length : Int) then (if (l0_1.length : Int) ≤ (y128.length : Int) then (some ((y122.take ((l0_0.length : Int) : Int).toNat), (y128.take ((l0_1.length : Int) : Int).toNat), y122, y128, ([] : List (S98)), ([] : List (List (S95))))) else (none)) else (none)) else (none)) else (none))) else (none)))) else (none)))
def junctionlaw6_roomyTables.T2 : Bool × List (List Nat × List Nat) := (true, [([], []), ([0], [0]), ([], []), ([], []), ([2, 3], [2, 3]), ([1, 4], [1, 4]), ([], []), ([6], [6]), ([], []), ([], []), ([8, 9], [8, 9]), ([7, 10, 5], [7, 10]), ([5, 11], [5, 11]), ([], []), ([13, 12, 11, 0, 1, 2, 3, 4, 5, 6, 7, 8, 9, 10, 11, 12, 13], [12, 13])])
def junctionlaw6_roomyTables.B2 : List Nat := [0, 1, 0, 0, 12, 31, 0, 64, 0, 0, 768, 2047, 4095, 0, 16383]
theorem junctionlaw6_roomyTables.tab2 : rtab .any (opsOf Tryd.f10 2) = junctionlaw6_roomyTables.T2 := by kernel_rfl
theorem junctionlaw6_roomyTables.bits2 : waitsOk junctionlaw6_roomyTables.T2.2 junctionlaw6_roomyTables.B2 = true := by kernel_rfl
set_option maxHeartbeats 8000000 in
set_option maxRecDepth 100000 in
theorem junctionlaw6_roomyTables.calls (A0_0 : Option Addr) (c0_0 : Nat) (l0_0 : List (S42)) (A0_1 : Option Addr) (c0_1 : Nat) (l0_1 : List (S47)) (r1 : List (S42)) (r2 : List (S47)) (r3 : List (S42)) (r4 : List (S47)) (r5 : List (S98)) (r6 : List (List (S95))) (w : World) (hr0_0 : Kd.C k42 w A0_0 l0_0.length l0_0) (hc0_0 : l0_0.length ≤ c0_0) (hr0_1 : Kd.C k47 w A0_1 l0_1.length l0_1) (hc0_1 : l0_1.length ≤ c0_1) (h : junctionlaw6_roomyTables.f l0_0 l0_1 = some (r1, r2, r3, r4, r5, r6)) :
  Calls Tryd.prog 10 #[.agg #[.slice A0_0 l0_0.length c0_0, .slice A0_1 l0_1.length c0_1]] w fun e w' => ∃ v0_ v1_ v2_ v3_ v4_ v5_ : Value, e = .returned (.tuple #[.agg #[v0_, v1_], .agg #[v2_, v3_, v4_, v5_]]) ∧ Kd.V k42 42 w' w.heap.size (fun k_ => (w.heap.size ≤ k_) ∧ some k_ ≠ (v4_ : Value).ownBlock ∧ some k_ ≠ (v5_ : Value).ownBlock) v0_ r1 ∧ Kd.V k47 47 w' w.heap.size (fun k_ => (w.heap.size ≤ k_) ∧ some k_ ≠ (v4_ : Value).ownBlock ∧ some k_ ≠ (v5_ : Value).ownBlock) v1_ r2 ∧ Kd.V k42 42 w' w.heap.size (fun k_ => (w.heap.size ≤ k_) ∧ some k_ ≠ (v4_ : Value).ownBlock ∧ some k_ ≠ (v5_ : Value).ownBlock) v2_ r3 ∧ Kd.V k47 47 w' w.heap.size (fun k_ => (w.heap.size ≤ k_) ∧ some k_ ≠ (v4_ : Value).ownBlock ∧ some k_ ≠ (v5_ : Value).ownBlock) v3_ r4 ∧ Kd.N k98 98 w' w.heap.size (fun k_ => (w.heap.size ≤ k_) ∧ some k_ ≠ (v5_ : Value).ownBlock) v4_ r5 ∧ Kd.N (Kd.slice 95 k95) 92 w' w.heap.size (fun k_ => (w.heap.size ≤ k_) ∧ some k_ ≠ (v4_ : Value).ownBlock) v5_ r6 ∧ Below w.heap.size w w' := by
 have hu25 := Tryd.underlying25
 have hu30 := Tryd.underlying30
 have hu42 := Tryd.underlying42
 have hu47 := Tryd.underlying47
 have HR0_0 := qA hr0_0
 have HC0_0 := qA hc0_0
 clear hr0_0 hc0_0
 have HR0_1 := qA hr0_1
 have HC0_1 := qA hc0_1
 clear hr0_1 hc0_1
 have HB := qA (Below.refl w.heap.size w)
 have H : ((junctionlaw6_copied.f l0_0 l0_1).bind fun bt112 => ((some (([(⟨(⟨#[]⟩ : ByteArray), 0, 77, 0, 0⟩ : S42), (⟨(⟨#[]⟩ : ByteArray), 0, 77, 0, 0⟩ : S42)] : List (S42)) : List (S42))).bind fun y119 => (if bt112.1.length + y119.length < 2932031007402 then ((some (bt112.1 ++ y119 : List (S42))).bind fun y122 => ((some (([(⟨0, 0, 77, 0⟩ : S47), (⟨0, 0, 77, 0⟩ : S47)] : List (S47)) : List (S47))).bind fun y125 => (if bt112.2.length + y125.length < 4398046511104 then ((some (bt112.2 ++ y125 : List (S47))).bind fun y128 => (if 0 ≤ (l0_0.length : Int) then (if (l0_0.length : Int) ≤ (y122.length : Int) then (if 0 ≤ (l0_1.length : Int) then (if (l0_1.length : Int) ≤ (y128.length : Int) then (some ((y122.take ((l0_0.length : Int) : Int).toNat), (y128.take ((l0_1.length : Int) : Int).toNat), y122, y128, ([] : List (S98)), ([] : List (List (S95))))) else (none)) else (none)) else (none)) else (none))) else (none)))) else (none)))) = some (r1, r2, r3, r4, r5, r6) := h
 clear h
 replace H := Option.bind_eq_some_iff.mp H
 obtain ⟨⟨t112, t115⟩, A20, H⟩ := H
 replace H : ((some (([(⟨(⟨#[]⟩ : ByteArray), 0, 77, 0, 0⟩ : S42), (⟨(⟨#[]⟩ : ByteArray), 0, 77, 0, 0⟩ : S42)] : List (S42)) : List (S42))).bind fun y119 => (if t112.length + y119.length < 2932031007402 then ((some (t112 ++ y119 : List (S42))).bind fun y122 => ((some (([(⟨0, 0, 77, 0⟩ : S47), (⟨0, 0, 77, 0⟩ : S47)] : List (S47)) : List (S47))).bind fun y125 => (if t115.length + y125.length < 4398046511104 then ((some (t115 ++ y125 : List (S47))).bind fun y128 => (if 0 ≤ (l0_0.length : Int) then (if (l0_0.length : Int) ≤ (y122.length : Int) then (if 0 ≤ (l0_1.length : Int) then (if (l0_1.length : Int) ≤ (y128.length : Int) then (some ((y122.take ((l0_0.length : Int) : Int).toNat), (y128.take ((l0_1.length : Int) : Int).toNat), y122, y128, ([] : List (S98)), ([] : List (List (S95))))) else (none)) else (none)) else (none)) else (none))) else (none)))) else (none))) = some (r1, r2, r3, r4, r5, r6) := H
 have A2 := qA A20
 clear A20
 obtain ⟨y119, hy119⟩ : ∃ y_ : List (S42), y_ = (([(⟨(⟨#[]⟩ : ByteArray), 0, 77, 0, 0⟩ : S42), (⟨(⟨#[]⟩ : ByteArray), 0, 77, 0, 0⟩ : S42)] : List (S42))) := ⟨_, rfl⟩
 replace H : (if t112.length + y119.length < 2932031007402 then ((some (t112 ++ y119 : List (S42))).bind fun y122 => ((some (([(⟨0, 0, 77, 0⟩ : S47), (⟨0, 0, 77, 0⟩ : S47)] : List (S47)) : List (S47))).bind fun y125 => (if t115.length + y125.length < 4398046511104 then ((some (t115 ++ y125 : List (S47))).bind fun y128 => (if 0 ≤ (l0_0.length : Int) then (if (l0_0.length : Int) ≤ (y122.length : Int) then (if 0 ≤ (l0_1.length : Int) then (if (l0_1.length : Int) ≤ (y128.length : Int) then (some ((y122.take ((l0_0.length : Int) : Int).toNat), (y128.take ((l0_1.length : Int) : Int).toNat), y122, y128, ([] : List (S98)), ([] : List (List (S95))))) else (none)) else (none)) else (none)) else (none))) else (none)))) else (none)) = some (r1, r2, r3, r4, r5, r6) := by first | (rw [hy119]; with_reducible exact H) | (have H2_ := (Option.bind_some _ _).symm.trans H; rw [hy119]; with_reducible exact H2_) | (have H2_ := (Option.bind_some _ _).symm.trans H; with_reducible exact H2_) | with_reducible exact H | (rw [hy119]; exact H) | exact H
 have Ny119 := qA hy119
 clear hy119
 by_cases c3 : t112.length + y119.length < 2932031007402
 ·rw [if_pos c3] at H
  have LMc3 := qA c3
  clear c3
  obtain ⟨y122, hy122⟩ : ∃ y_ : List (S42), y_ = (t112 ++ y119) := ⟨_, rfl⟩
  replace H : ((some (([(⟨0, 0, 77, 0⟩ : S47), (⟨0, 0, 77, 0⟩ : S47)] : List (S47)) : List (S47))).bind fun y125 => (if t115.length + y125.length < 4398046511104 then ((some (t115 ++ y125 : List (S47))).bind fun y128 => (if 0 ≤ (l0_0.length : Int) then (if (l0_0.length : Int) ≤ (y122.length : Int) then (if 0 ≤ (l0_1.length : Int) then (if (l0_1.length : Int) ≤ (y128.length : Int) then (some ((y122.take ((l0_0.length : Int) : Int).toNat), (y128.take ((l0_1.length : Int) : Int).toNat), y122, y128, ([] : List (S98)), ([] : List (List (S95))))) else (none)) else (none)) else (none)) else (none))) else (none))) = some (r1, r2, r3, r4, r5, r6) := by first | (rw [hy122]; with_reducible exact H) | (have H2_ := (Option.bind_some _ _).symm.trans H; rw [hy122]; with_reducible exact H2_) | (have H2_ := (Option.bind_some _ _).symm.trans H; with_reducible exact H2_) | with_reducible exact H | (rw [hy122]; exact H) | exact H
  have Ny122 := qA hy122
  clear hy122
  obtain ⟨y125, hy125⟩ : ∃ y_ : List (S47), y_ = (([(⟨0, 0, 77, 0⟩ : S47), (⟨0, 0, 77, 0⟩ : S47)] : List (S47))) := ⟨_, rfl⟩
  replace H : (if t115.length + y125.length < 4398046511104 then ((some (t115 ++ y125 : List (S47))).bind fun y128 => (if 0 ≤ (l0_0.length : Int) then (if (l0_0.length : Int) ≤ (y122.length : Int) then (if 0 ≤ (l0_1.length : Int) then (if (l0_1.length : Int) ≤ (y128.length : Int) then (some ((y122.take ((l0_0.length : Int) : Int).toNat), (y128.take ((l0_1.length : Int) : Int).toNat), y122, y128, ([] : List (S98)), ([] : List (List (S95))))) else (none)) else (none)) else (none)) else (none))) else (none)) = some (r1, r2, r3, r4, r5, r6) := by first | (rw [hy125]; with_reducible exact H) | (have H2_ := (Option.bind_some _ _).symm.trans H; rw [hy125]; with_reducible exact H2_) | (have H2_ := (Option.bind_some _ _).symm.trans H; with_reducible exact H2_) | with_reducible exact H | (rw [hy125]; exact H) | exact H
  have Ny125 := qA hy125
  clear hy125
  by_cases c4 : t115.length + y125.length < 4398046511104
  ·rw [if_pos c4] at H
   have LMc4 := qA c4
   clear c4
   obtain ⟨y128, hy128⟩ : ∃ y_ : List (S47), y_ = (t115 ++ y125) := ⟨_, rfl⟩
   replace H : (if 0 ≤ (l0_0.length : Int) then (if (l0_0.length : Int) ≤ (y122.length : Int) then (if 0 ≤ (l0_1.length : Int) then (if (l0_1.length : Int) ≤ (y128.length : Int) then (some ((y122.take ((l0_0.length : Int) : Int).toNat), (y128.take ((l0_1.length : Int) : Int).toNat), y122, y128, ([] : List (S98)), ([] : List (List (S95))))) else (none)) else (none)) else (none)) else (none)) = some (r1, r2, r3, r4, r5, r6) := by first | (rw [hy128]; with_reducible exact H) | (have H2_ := (Option.bind_some _ _).symm.trans H; rw [hy128]; with_reducible exact H2_) | (have H2_ := (Option.bind_some _ _).symm.trans H; with_reducible exact H2_) | with_reducible exact H | (rw [hy128]; exact H) | exact H
   have Ny128 := qA hy128
   clear hy128
   by_cases c5 : 0 ≤ (l0_0.length : Int)
   ·rw [if_pos c5] at H
    have c5b0 := eq_true c5
    have c5b1 : decide (0 ≤ (l0_0.length : Int)) = true := decide_eq_true c5
    clear c5
    by_cases c6 : (l0_0.length : Int) ≤ (y122.length : Int)
    ·rw [if_pos c6] at H
     have c6b0 := eq_true c6
     have c6b1 : decide ((l0_0.length : Int) ≤ (y122.length : Int)) = true := decide_eq_true c6
     clear c6
     obtain ⟨y132, hy132⟩ : ∃ y_ : List (S42), y_ = (y122.take ((l0_0.length : Int) : Int).toNat) := ⟨_, rfl⟩
     replace H : (if 0 ≤ (l0_1.length : Int) then (if (l0_1.length : Int) ≤ (y128.length : Int) then (some (y132, (y128.take ((l0_1.length : Int) : Int).toNat), y122, y128, ([] : List (S98)), ([] : List (List (S95))))) else (none)) else (none)) = some (r1, r2, r3, r4, r5, r6) := by first | (rw [hy132]; with_reducible exact H) | (have H2_ := (Option.bind_some _ _).symm.trans H; rw [hy132]; with_reducible exact H2_) | (have H2_ := (Option.bind_some _ _).symm.trans H; with_reducible exact H2_) | with_reducible exact H | (rw [hy132]; exact H) | exact H
     have Ny132 := qA hy132
     clear hy132
     by_cases c7 : 0 ≤ (l0_1.length : Int)
     ·rw [if_pos c7] at H
      have c7b0 := eq_true c7
      have c7b1 : decide (0 ≤ (l0_1.length : Int)) = true := decide_eq_true c7
      clear c7
      by_cases c8 : (l0_1.length : Int) ≤ (y128.length : Int)
      ·rw [if_pos c8] at H
       have c8b0 := eq_true c8
       have c8b1 : decide ((l0_1.length : Int) ≤ (y128.length : Int)) = true := decide_eq_true c8
       clear c8
       obtain ⟨y137, hy137⟩ : ∃ y_ : List (S47), y_ = (y128.take ((l0_1.length : Int) : Int).toNat) := ⟨_, rfl⟩
       replace H : (some (y132, y137, y122, y128, ([] : List (S98)), ([] : List (List (S95))))) = some (r1, r2, r3, r4, r5, r6) := by first | (rw [hy137]; with_reducible exact H) | (have H2_ := (Option.bind_some _ _).symm.trans H; rw [hy137]; with_reducible exact H2_) | (have H2_ := (Option.bind_some _ _).symm.trans H; with_reducible exact H2_) | with_reducible exact H | (rw [hy137]; exact H) | exact H
       have Ny137 := qA hy137
       clear hy137
       simp only [Option.some.injEq, Prod.mk.injEq] at H
       obtain ⟨rfl, rfl, rfl, rfl, rfl, rfl⟩ := H
       go_enter Tryd.func10, Tryd.ntmps10
       try go_wp2_with (first | ((with_reducible refine gate_dst (N := 1) rfl ?_); refine box_event ?hg (N := 1) ?hd (cs := #[.slice A0_0 l0_0.length c0_0, .slice A0_1 l0_1.length c0_1]) (t := 25) ?hr ?_; (case hd => rfl); (case hg => rfl); (case hr => first | (go_simp; done) | (go_simp; rfl)); intro gb109 hg w9 hbox hb; have n0_ := qA (qk (by repeat (first | (with_reducible first | exact HB.out | apply qh | apply qj | apply qi) | exact HB.out)) hb); have n1_ := qA (hbox); have n2_ := qA ((by rw [hg]; exact (ql (by repeat (first | (with_reducible first | exact HB.out | apply qh | apply qj | apply qi) | exact HB.out))) : w.heap.size ≤ gb109)); have n3_ := qA ((by rw [hg]; exact (ql (by repeat (first | (with_reducible first | exact HB.out | apply qh | apply qj | apply qi) | exact HB.out))) : w.heap.size ≤ gb109)); clear HB; have HB := n0_; have BK109 := n1_; have GW109 := n2_; have GE109 := n3_; clear n0_ n1_ n2_ n3_; clear hb hbox hg) | ((with_reducible refine gate_dst (N := 2) rfl ?_); refine box_event ?hg (N := 2) ?hd (cs := #[.slice none 0 0, .slice none 0 0]) (t := 25) ?hr ?_; (case hd => rfl); (case hg => rfl); (case hr => first | (go_simp; done) | (go_simp; rfl)); intro gb110 hg w10 hbox hb; have n0_ := qA (qf (g := gb109) (o := .cells #[.slice A0_0 l0_0.length c0_0, .slice A0_1 l0_1.length c0_1] 25 (0, 0)) (by (with_reducible repeat (first | refine qa ?_ _ | refine qb ?_ | refine qc ?_ _)); exact BK109.out) hb); have n1_ := qA (qk (by repeat (first | (with_reducible first | exact HB.out | apply qh | apply qj | apply qi | refine qg ?_ GE109.out) | exact HB.out)) hb); have n2_ := qA (hbox); have n3_ := qA ((by rw [hg]; exact (ql (by repeat (first | (with_reducible first | exact HB.out | apply qh | apply qj | apply qi | refine qg ?_ GE109.out) | exact HB.out))) : w.heap.size ≤ gb110)); have n4_ := qA ((by rw [hg]; exact (ql (by repeat (first | (with_reducible first | exact HB.out | apply qh | apply qj | apply qi | refine qg ?_ GE109.out) | exact HB.out))) : w.heap.size ≤ gb110)); have n5_ := qA ((by rw [hg]; exact Nat.ne_of_lt (blk_lt (g := gb109) (o := .cells #[.slice A0_0 l0_0.length c0_0, .slice A0_1 l0_1.length c0_1] 25 (0, 0)) (by (with_reducible repeat (first | refine qa ?_ _ | refine qb ?_ | refine qc ?_ _)); exact BK109.out)) : gb109 ≠ gb110)); have n6_ := qA ((by rw [hg]; exact Nat.ne_of_gt (blk_lt (g := gb109) (o := .cells #[.slice A0_0 l0_0.length c0_0, .slice A0_1 l0_1.length c0_1] 25 (0, 0)) (by (with_reducible repeat (first | refine qa ?_ _ | refine qb ?_ | refine qc ?_ _)); exact BK109.out)) : gb110 ≠ gb109)); clear BK109; clear HB; have BK109 := n0_; have HB := n1_; have BK110 := n2_; have GW110 := n3_; have GE110 := n4_; have NB109_110 := n5_; have NB110_109 := n6_; clear n0_ n1_ n2_ n3_ n4_ n5_ n6_; clear hb hbox hg) | ((with_reducible refine gate_dst (N := 3) rfl ?_); refine box_event ?hg (N := 3) ?hd (cs := #[.slice none 0 0, .slice none 0 0, .slice none 0 0, .slice none 0 0]) (t := 30) ?hr ?_; (case hd => rfl); (case hg => rfl); (case hr => first | (go_simp; done) | (go_simp; rfl)); intro gb111 hg w11 hbox hb; have n0_ := qA (qf (g := gb109) (o := .cells #[.slice A0_0 l0_0.length c0_0, .slice A0_1 l0_1.length c0_1] 25 (0, 0)) (by (with_reducible repeat (first | refine qa ?_ _ | refine qb ?_ | refine qc ?_ _)); exact BK109.out) hb); have n1_ := qA (qf (g := gb110) (o := .cells #[.slice none 0 0, .slice none 0 0] 25 (0, 0)) (by (with_reducible repeat (first | refine qa ?_ _ | refine qb ?_ | refine qc ?_ _)); exact BK110.out) hb); have n2_ := qA (qk (by repeat (first | (with_reducible first | exact HB.out | apply qh | apply qj | apply qi | refine qg ?_ GE109.out | refine qg ?_ GE110.out) | exact HB.out)) hb); have n3_ := qA (hbox); have n4_ := qA ((by rw [hg]; exact (ql (by repeat (first | (with_reducible first | exact HB.out | apply qh | apply qj | apply qi | refine qg ?_ GE109.out | refine qg ?_ GE110.out) | exact HB.out))) : w.heap.size ≤ gb111)); have n5_ := qA ((by rw [hg]; exact (ql (by repeat (first | (with_reducible first | exact HB.out | apply qh | apply qj | apply qi | refine qg ?_ GE109.out | refine qg ?_ GE110.out) | exact HB.out))) : w.heap.size ≤ gb111)); have n6_ := qA ((by rw [hg]; exact Nat.ne_of_lt (blk_lt (g := gb109) (o := .cells #[.slice A0_0 l0_0.length c0_0, .slice A0_1 l0_1.length c0_1] 25 (0, 0)) (by (with_reducible repeat (first | refine qa ?_ _ | refine qb ?_ | refine qc ?_ _)); exact BK109.out)) : gb109 ≠ gb111)); have n7_ := qA ((by rw [hg]; exact Nat.ne_of_gt (blk_lt (g := gb109) (o := .cells #[.slice A0_0 l0_0.length c0_0, .slice A0_1 l0_1.length c0_1] 25 (0, 0)) (by (with_reducible repeat (first | refine qa ?_ _ | refine qb ?_ | refine qc ?_ _)); exact BK109.out)) : gb111 ≠ gb109)); have n8_ := qA ((by rw [hg]; exact Nat.ne_of_lt (blk_lt (g := gb110) (o := .cells #[.slice none 0 0, .slice none 0 0] 25 (0, 0)) (by (with_reducible repeat (first | refine qa ?_ _ | refine qb ?_ | refine qc ?_ _)); exact BK110.out)) : gb110 ≠ gb111)); have n9_ := qA ((by rw [hg]; exact Nat.ne_of_gt (blk_lt (g := gb110) (o := .cells #[.slice none 0 0, .slice none 0 0] 25 (0, 0)) (by (with_reducible repeat (first | refine qa ?_ _ | refine qb ?_ | refine qc ?_ _)); exact BK110.out)) : gb111 ≠ gb110)); clear BK109; clear BK110; clear HB; have BK109 := n0_; have BK110 := n1_; have HB := n2_; have BK111 := n3_; have GW111 := n4_; have GE111 := n5_; have NB109_111 := n6_; have NB111_109 := n7_; have NB110_111 := n8_; have NB111_110 := n9_; clear n0_ n1_ n2_ n3_ n4_ n5_ n6_ n7_ n8_ n9_; clear hb hbox hg; have hnb12 := NB109_110.out; have hnc12 := NB110_109.out; have hnb13 := NB109_111.out; have hnc13 := NB111_109.out; have hcz14_0 : w11.cell? ⟨gb109, 0, none⟩ = some (.slice A0_0 l0_0.length c0_0) := (qd BK109.out 0).trans rfl; have hcz14_1 : w11.cell? ⟨gb109, 1, none⟩ = some (.slice A0_1 l0_1.length c0_1) := (qd BK109.out 1).trans rfl; have hfz14_0 := blk_frozen BK109.out 0; have hfz14_1 := blk_frozen BK109.out 1) | ((with_reducible refine gate_callee (f := 21) rfl ?_); refine goesL_ (some 7) rfl rfl Tryd.func21 (by kernel_rfl) rfl #[.agg #[.slice A0_0 l0_0.length c0_0, .slice A0_1 l0_1.length c0_1]] rfl (by (try simp only [List.map_toArray, List.map_cons, List.map_nil]); first | done | rfl | (simp only [List.length_drop, List.length_take]; rfl)) ?_; (with_reducible refine (junctionlaw6_copied.calls _ _ l0_0 _ _ l0_1 t112 t115 _ ?side1 ?side2 ?side3 ?side4 A2.out).mono ?_); (case side1 => repeat (first | exact (qt HR0_0.out HB.out) | (with_reducible refine qu ?_ _) | (with_reducible refine qv ?_ _) | (with_reducible refine qw ?_))); (case side2 => exact HC0_0.out); (case side3 => repeat (first | exact (qt HR0_1.out HB.out) | (with_reducible refine qu ?_ _) | (with_reducible refine qv ?_ _) | (with_reducible refine qw ?_))); (case side4 => exact HC0_1.out); rintro e w15 ⟨v113, v116, rfl, ho0, ho1, hb⟩; refine ⟨_, rfl, ?_⟩; have n0_ := qA (Kd.R_lower (Kd.R_newM (M := fun k_ => (w.heap.size ≤ k_)) ho0 (ql (by repeat (first | (with_reducible first | exact HB.out | apply qh | apply qj | apply qi | refine qg ?_ GE109.out | refine qg ?_ GE110.out | refine qg ?_ GE111.out) | exact HB.out))) (fun k_ h_ => h_)) (ql (by repeat (first | (with_reducible first | exact HB.out | apply qh | apply qj | apply qi | refine qg ?_ GE109.out | refine qg ?_ GE110.out | refine qg ?_ GE111.out) | exact HB.out)))); have n1_ := qA (Kd.R_lower (Kd.R_newM (M := fun k_ => (w.heap.size ≤ k_)) ho1 (ql (by repeat (first | (with_reducible first | exact HB.out | apply qh | apply qj | apply qi | refine qg ?_ GE109.out | refine qg ?_ GE110.out | refine qg ?_ GE111.out) | exact HB.out))) (fun k_ h_ => h_)) (ql (by repeat (first | (with_reducible first | exact HB.out | apply qh | apply qj | apply qi | refine qg ?_ GE109.out | refine qg ?_ GE110.out | refine qg ?_ GE111.out) | exact HB.out)))); have n2_ := qA (qf (g := gb109) (o := .cells #[.slice A0_0 l0_0.length c0_0, .slice A0_1 l0_1.length c0_1] 25 (0, 0)) (by (with_reducible repeat (first | refine qa ?_ _ | refine qb ?_ | refine qc ?_ _)); exact BK109.out) hb); have n3_ := qA (qf (g := gb110) (o := .cells #[.slice none 0 0, .slice none 0 0] 25 (0, 0)) (by (with_reducible repeat (first | refine qa ?_ _ | refine qb ?_ | refine qc ?_ _)); exact BK110.out) hb); have n4_ := qA (qf (g := gb111) (o := .cells #[.slice none 0 0, .slice none 0 0, .slice none 0 0, .slice none 0 0] 30 (0, 0)) (by (with_reducible repeat (first | refine qa ?_ _ | refine qb ?_ | refine qc ?_ _)); exact BK111.out) hb); have n5_ := qA (qk (by repeat (first | (with_reducible first | exact HB.out | apply qh | apply qj | apply qi | refine qg ?_ GE109.out | refine qg ?_ GE110.out | refine qg ?_ GE111.out) | exact HB.out)) hb); clear BK109; clear BK110; clear BK111; clear HB; have HO114 := n0_; have HO117 := n1_; have BK109 := n2_; have BK110 := n3_; have BK111 := n4_; have HB := n5_; clear n0_ n1_ n2_ n3_ n4_ n5_; (try clear hb); (try clear hb2); (try clear hk); (try clear hi); (try clear ho0); (try clear ho1)) | ((with_reducible refine gate_dst (N := 4) rfl ?_); refine box_event ?hg (N := 4) ?hd (cs := #[.slice none 0 0, .slice none 0 0]) (t := 25) ?hr ?_; (case hd => rfl); (case hg => rfl); (case hr => first | (go_simp; done) | (go_simp; rfl)); intro gb118 hg w16 hbox hb; have n0_ := qA (Kd.R_below (by (with_reducible repeat (first | apply qm | apply qn | apply qo)); exact HO114.out) hb); have n1_ := qA (Kd.R_below (by (with_reducible repeat (first | apply qm | apply qn | apply qo)); exact HO117.out) hb); have n2_ := qA (qf (g := gb109) (o := .cells #[.slice A0_0 l0_0.length c0_0, .slice A0_1 l0_1.length c0_1] 25 (0, 0)) (by (with_reducible repeat (first | refine qa ?_ _ | refine qb ?_ | refine qc ?_ _)); exact BK109.out) hb); have n3_ := qA (qf (g := gb110) (o := .cells #[.slice none 0 0, .slice none 0 0] 25 (0, 0)) (by (with_reducible repeat (first | refine qa ?_ _ | refine qb ?_ | refine qc ?_ _)); exact BK110.out) hb); have n4_ := qA (qf (g := gb111) (o := .cells #[.slice none 0 0, .slice none 0 0, .slice none 0 0, .slice none 0 0] 30 (0, 0)) (by (with_reducible repeat (first | refine qa ?_ _ | refine qb ?_ | refine qc ?_ _)); exact BK111.out) hb); have n5_ := qA (qk (by repeat (first | (with_reducible first | exact HB.out | apply qh | apply qj | apply qi | refine qg ?_ GE109.out | refine qg ?_ GE110.out | refine qg ?_ GE111.out) | exact HB.out)) hb); have n6_ := qA (hbox); have n7_ := qA ((by rw [hg]; exact (ql (by repeat (first | (with_reducible first | exact HB.out | apply qh | apply qj | apply qi | refine qg ?_ GE109.out | refine qg ?_ GE110.out | refine qg ?_ GE111.out) | exact HB.out))) : w.heap.size ≤ gb118)); have n8_ := qA ((by rw [hg]; exact (ql (by repeat (first | (with_reducible first | exact HB.out | apply qh | apply qj | apply qi | refine qg ?_ GE109.out | refine qg ?_ GE110.out | refine qg ?_ GE111.out) | exact HB.out))) : w.heap.size ≤ gb118)); have n9_ := qA ((by rw [hg]; exact Nat.ne_of_lt (blk_lt (g := gb109) (o := .cells #[.slice A0_0 l0_0.length c0_0, .slice A0_1 l0_1.length c0_1] 25 (0, 0)) (by (with_reducible repeat (first | refine qa ?_ _ | refine qb ?_ | refine qc ?_ _)); exact BK109.out)) : gb109 ≠ gb118)); have n10_ := qA ((by rw [hg]; exact Nat.ne_of_gt (blk_lt (g := gb109) (o := .cells #[.slice A0_0 l0_0.length c0_0, .slice A0_1 l0_1.length c0_1] 25 (0, 0)) (by (with_reducible repeat (first | refine qa ?_ _ | refine qb ?_ | refine qc ?_ _)); exact BK109.out)) : gb118 ≠ gb109)); have n11_ := qA ((by rw [hg]; exact Nat.ne_of_lt (blk_lt (g := gb110) (o := .cells #[.slice none 0 0, .slice none 0 0] 25 (0, 0)) (by (with_reducible repeat (first | refine qa ?_ _ | refine qb ?_ | refine qc ?_ _)); exact BK110.out)) : gb110 ≠ gb118)); have n12_ := qA ((by rw [hg]; exact Nat.ne_of_gt (blk_lt (g := gb110) (o := .cells #[.slice none 0 0, .slice none 0 0] 25 (0, 0)) (by (with_reducible repeat (first | refine qa ?_ _ | refine qb ?_ | refine qc ?_ _)); exact BK110.out)) : gb118 ≠ gb110)); have n13_ := qA ((by rw [hg]; exact Nat.ne_of_lt (blk_lt (g := gb111) (o := .cells #[.slice none 0 0, .slice none 0 0, .slice none 0 0, .slice none 0 0] 30 (0, 0)) (by (with_reducible repeat (first | refine qa ?_ _ | refine qb ?_ | refine qc ?_ _)); exact BK111.out)) : gb111 ≠ gb118)); have n14_ := qA ((by rw [hg]; exact Nat.ne_of_gt (blk_lt (g := gb111) (o := .cells #[.slice none 0 0, .slice none 0 0, .slice none 0 0, .slice none 0 0] 30 (0, 0)) (by (with_reducible repeat (first | refine qa ?_ _ | refine qb ?_ | refine qc ?_ _)); exact BK111.out)) : gb118 ≠ gb111)); clear HO114; clear HO117; clear BK109; clear BK110; clear BK111; clear HB; have HO114 := n0_; have HO117 := n1_; have BK109 := n2_; have BK110 := n3_; have BK111 := n4_; have HB := n5_; have BK118 := n6_; have GW118 := n7_; have GE118 := n8_; have NB109_118 := n9_; have NB118_109 := n10_; have NB110_118 := n11_; have NB118_110 := n12_; have NB111_118 := n13_; have NB118_111 := n14_; clear n0_ n1_ n2_ n3_ n4_ n5_ n6_ n7_ n8_ n9_ n10_ n11_ n12_ n13_ n14_; clear hb hbox hg; obtain ⟨Ao17, co17, eo17⟩ := Kd.R_slice HO114.out; subst eo17; have hnb18 := NB118_109.out; have hnc18 := NB109_118.out; have hnb19 := NB118_110.out; have hnc19 := NB110_118.out; have hnb20 := NB118_111.out; have hnc20 := NB111_118.out; have hcz21_0 : w16.cell? ⟨gb118, 0, none⟩ = some (.slice none 0 0) := (qd BK118.out 0).trans rfl; have hcz21_1 : w16.cell? ⟨gb118, 1, none⟩ = some (.slice none 0 0) := (qd BK118.out 1).trans rfl; have hfz21_0 := blk_frozen BK118.out 0; have hfz21_1 := blk_frozen BK118.out 1; obtain ⟨Ao22, co22, eo22⟩ := Kd.R_slice HO117.out; subst eo22))
       have n0_ : Aside0 (Kd.R k42 42 ((w16.setCell ⟨gb118, 0, none⟩ (.slice Ao17 t112.length co17)).setCell ⟨gb118, 1, none⟩ (.slice Ao22 t115.length co22)) w.heap.size (fun k_ => (w.heap.size ≤ k_)) (.slice Ao17 t112.length co17) t112) := ⟨by (with_reducible repeat (first | apply qm | apply qn | apply qo)); exact qp (qs (p := ⟨gb118, 1, none⟩) (qs (p := ⟨gb118, 0, none⟩) (qr HO114.out BK118.out (by decide)) (fun _ hk => hk.2) (.slice Ao17 t112.length co17)) (fun _ hk => hk.2) (.slice Ao22 t115.length co22)) (fun _ hk => hk.1.1)⟩
       have n1_ : Aside0 (Kd.R k47 47 ((w16.setCell ⟨gb118, 0, none⟩ (.slice Ao17 t112.length co17)).setCell ⟨gb118, 1, none⟩ (.slice Ao22 t115.length co22)) w.heap.size (fun k_ => (w.heap.size ≤ k_)) (.slice Ao22 t115.length co22) t115) := ⟨by (with_reducible repeat (first | apply qm | apply qn | apply qo)); exact qp (qs (p := ⟨gb118, 1, none⟩) (qs (p := ⟨gb118, 0, none⟩) (qr HO117.out BK118.out (by decide)) (fun _ hk => hk.2) (.slice Ao17 t112.length co17)) (fun _ hk => hk.2) (.slice Ao22 t115.length co22)) (fun _ hk => hk.1.1)⟩
       have n2_ : Aside0 (((w16.setCell ⟨gb118, 0, none⟩ (.slice Ao17 t112.length co17)).setCell ⟨gb118, 1, none⟩ (.slice Ao22 t115.length co22)).heap[gb109]? = some (.cells #[.slice A0_0 l0_0.length c0_0, .slice A0_1 l0_1.length c0_1] 25 (0, 0))) := ⟨by (with_reducible repeat (first | refine qa ?_ _ | refine qb ?_ | refine qc ?_ _)); refine blk_far ?_ NB109_118.out _; (with_reducible repeat (first | refine qa ?_ _ | refine qb ?_ | refine qc ?_ _)); refine blk_far ?_ NB109_118.out _; (with_reducible repeat (first | refine qa ?_ _ | refine qb ?_ | refine qc ?_ _)); exact BK109.out⟩
       have n3_ : Aside0 (((w16.setCell ⟨gb118, 0, none⟩ (.slice Ao17 t112.length co17)).setCell ⟨gb118, 1, none⟩ (.slice Ao22 t115.length co22)).heap[gb110]? = some (.cells #[.slice none 0 0, .slice none 0 0] 25 (0, 0))) := ⟨by (with_reducible repeat (first | refine qa ?_ _ | refine qb ?_ | refine qc ?_ _)); refine blk_far ?_ NB110_118.out _; (with_reducible repeat (first | refine qa ?_ _ | refine qb ?_ | refine qc ?_ _)); refine blk_far ?_ NB110_118.out _; (with_reducible repeat (first | refine qa ?_ _ | refine qb ?_ | refine qc ?_ _)); exact BK110.out⟩
       have n4_ : Aside0 (((w16.setCell ⟨gb118, 0, none⟩ (.slice Ao17 t112.length co17)).setCell ⟨gb118, 1, none⟩ (.slice Ao22 t115.length co22)).heap[gb111]? = some (.cells #[.slice none 0 0, .slice none 0 0, .slice none 0 0, .slice none 0 0] 30 (0, 0))) := ⟨by (with_reducible repeat (first | refine qa ?_ _ | refine qb ?_ | refine qc ?_ _)); refine blk_far ?_ NB111_118.out _; (with_reducible repeat (first | refine qa ?_ _ | refine qb ?_ | refine qc ?_ _)); refine blk_far ?_ NB111_118.out _; (with_reducible repeat (first | refine qa ?_ _ | refine qb ?_ | refine qc ?_ _)); exact BK111.out⟩
       have n5_ : Aside0 (((w16.setCell ⟨gb118, 0, none⟩ (.slice Ao17 t112.length co17)).setCell ⟨gb118, 1, none⟩ (.slice Ao22 t115.length co22)).heap[gb118]? = some (.cells #[.slice Ao17 t112.length co17, .slice Ao22 t115.length co22] 25 (0, 0))) := ⟨by (with_reducible repeat (first | refine qa ?_ _ | refine qb ?_ | refine qc ?_ _)); refine blk_put (cs := #[.slice Ao17 t112.length co17, .slice none 0 0]) ?_ 1 _ rfl; (with_reducible repeat (first | refine qa ?_ _ | refine qb ?_ | refine qc ?_ _)); refine blk_put (cs := #[.slice none 0 0, .slice none 0 0]) ?_ 0 _ rfl; (with_reducible repeat (first | refine qa ?_ _ | refine qb ?_ | refine qc ?_ _)); exact BK118.out⟩
       have n6_ : Aside0 (Below w.heap.size w ((w16.setCell ⟨gb118, 0, none⟩ (.slice Ao17 t112.length co17)).setCell ⟨gb118, 1, none⟩ (.slice Ao22 t115.length co22))) := ⟨by repeat (first | (with_reducible first | exact HB.out | apply qh | apply qj | apply qi | refine qg ?_ GE109.out | refine qg ?_ GE110.out | refine qg ?_ GE111.out | refine qg ?_ GE118.out) | exact HB.out)⟩
       (try clear HO114)
       (try clear HO117)
       (try clear BK109)
       (try clear BK110)
       (try clear BK111)
       (try clear BK118)
       (try clear HB)
       generalize ((w16.setCell ⟨gb118, 0, none⟩ (.slice Ao17 t112.length co17)).setCell ⟨gb118, 1, none⟩ (.slice Ao22 t115.length co22)) = w23 at n0_ n1_ n2_ n3_ n4_ n5_ n6_ ⊢
       have HO114 := n0_
       have HO117 := n1_
       have BK109 := n2_
       have BK110 := n3_
       have BK111 := n4_
       have BK118 := n5_
       have HB := n6_
       clear n0_ n1_ n2_ n3_ n4_ n5_ n6_
       have n0_ := qA (qo HO114.out)
       have n1_ := qA (qo HO117.out)
       have n2_ := qA (qb BK109.out)
       have n3_ := qA (qb BK110.out)
       have n4_ := qA (qb BK111.out)
       have n5_ := qA (qb BK118.out)
       have n6_ := qA (qi HB.out)
       clear HO114
       clear HO117
       clear BK109
       clear BK110
       clear BK111
       clear BK118
       clear HB
       have HO114 := n0_
       have HO117 := n1_
       have BK109 := n2_
       have BK110 := n3_
       have BK111 := n4_
       have BK118 := n5_
       have HB := n6_
       clear n0_ n1_ n2_ n3_ n4_ n5_ n6_
       refine start_ (n := 15) (S := fun w' => w'.cell? ⟨gb118, 0, none⟩ = some (.slice Ao17 t112.length co17) ∧ w'.cell? ⟨gb118, 1, none⟩ = some (.slice Ao22 t115.length co22)) (ds := []) #[false, false, false, false, false, false, false, false, false, false, false, false, false, false, false] (by kernel_rfl) rfl rfl ⟨(qd BK118.out 0).trans rfl, (qd BK118.out 1).trans rfl⟩ (fun hHeld => ?_); refine with_tabW junctionlaw6_roomyTables.tab2 junctionlaw6_roomyTables.bits2 (fun HT_ HW_ => ?_)
       generalize w23.drew = w24 at HO114 HO117 BK109 BK110 BK111 BK118 HB hHeld ⊢
       refine pure_ (i := 0) (N := some 8) (v := ?_) (a' := ?_) #[true, false, false, false, false, false, false, false, false, false, false, false, false, false, false] rfl rfl (any_of HT_.out (by kernel_rfl)) (fun _ _ _ h => h) (Or.inl ⟨by rfl, ?_⟩) ?_ ?_
       rotate_left
       ·intro w'
        go_simp
        with_reducible rfl
       rotate_left
       ·simp only [Act.put, qx, qy, qz, i64_w, i32_w]
        rfl
       refine pure_ (i := 2) (N := some 10) (v := ?_) (a' := ?_) #[true, false, true, false, false, false, false, false, false, false, false, false, false, false, false] rfl rfl (any_of HT_.out (by kernel_rfl)) (fun _ _ _ h => h) (Or.inl ⟨by rfl, ?_⟩) ?_ ?_
       rotate_left
       ·intro w'
        go_simp
        with_reducible rfl
       rotate_left
       ·simp only [Act.put, qx, qy, qz, i64_w, i32_w]
        rfl
       refine pure_ (i := 3) (N := some 11) (v := ?_) (a' := ?_) #[true, false, true, true, false, false, false, false, false, false, false, false, false, false, false] rfl rfl (any_of HT_.out (by kernel_rfl)) (fun _ _ _ h => h) (Or.inl ⟨by rfl, ?_⟩) ?_ ?_
       rotate_left
       ·intro w'
        go_simp
        with_reducible rfl
       rotate_left
       ·simp only [Act.put, qx, qy, qz, i64_w, i32_w]
        rfl
       refine pure_ (i := 6) (N := some 14) (v := ?_) (a' := ?_) #[true, false, true, true, false, false, true, false, false, false, false, false, false, false, false] rfl rfl (any_of HT_.out (by kernel_rfl)) (fun _ _ _ h => h) (Or.inl ⟨by rfl, ?_⟩) ?_ ?_
       rotate_left
       ·intro w'
        go_simp
        with_reducible rfl
       rotate_left
       ·simp only [Act.put, qx, qy, qz, i64_w, i32_w]
        rfl
       refine pure_ (i := 8) (N := some 16) (v := ?_) (a' := ?_) #[true, false, true, true, false, false, true, false, true, false, false, false, false, false, false] rfl rfl (any_of HT_.out (by kernel_rfl)) (fun _ _ _ h => h) (Or.inl ⟨by rfl, ?_⟩) ?_ ?_
       rotate_left
       ·intro w'
        go_simp
        with_reducible rfl
       rotate_left
       ·simp only [Act.put, qx, qy, qz, i64_w, i32_w]
        rfl
       refine pure_ (i := 9) (N := some 17) (v := ?_) (a' := ?_) #[true, false, true, true, false, false, true, false, true, true, false, false, false, false, false] rfl rfl (any_of HT_.out (by kernel_rfl)) (fun _ _ _ h => h) (Or.inl ⟨by rfl, ?_⟩) ?_ ?_
       rotate_left
       ·intro w'
        go_simp
        with_reducible rfl
       rotate_left
       ·simp only [Act.put, qx, qy, qz, i64_w, i32_w]
        rfl
       refine take_ (i := 1) (N := some 9) (v := ?_) (a' := ?_) #[true, true, true, true, false, false, true, false, true, true, false, false, false, false, false] rfl rfl (take_ofW HT_.out HW_.out (by kernel_rfl)) (fun _ _ _ h => h) (Or.inl ⟨by rfl, ?_⟩) hHeld ?_ ?_
       rotate_left
       ·rintro w' ⟨s0, s1⟩
        go_simp
        with_reducible rfl
       rotate_left
       ·simp only [Act.put, qx, qy, qz, i64_w, i32_w]
        rfl
       refine take_ (i := 7) (N := some 15) (v := ?_) (a' := ?_) #[true, true, true, true, false, false, true, true, true, true, false, false, false, false, false] rfl rfl (take_ofW HT_.out HW_.out (by kernel_rfl)) (fun _ _ _ h => h) (Or.inl ⟨by rfl, ?_⟩) hHeld ?_ ?_
       rotate_left
       ·rintro w' ⟨s0, s1⟩
        go_simp
        with_reducible rfl
       rotate_left
       ·simp only [Act.put, qx, qy, qz, i64_w, i32_w]
        rfl
       refine join_ (σ := Value × Value × Value × Value × Nat) 1 #[true, true, true, true, true, true, true, true, true, true, true, true, true, true, false] (fun s_ => [(12, s_.1), (13, s_.2.1), (18, s_.2.2.1), (19, s_.2.2.2.1), (5, .pointer (some ⟨s_.2.2.2.2, 0, none⟩)), (20, .agg #[s_.2.1, s_.2.2.2.1, .slice none 0 0, .slice none 0 0])]) (fun s_ w' => (w'.cell? ⟨gb118, 0, none⟩ = some (.slice Ao17 t112.length co17) ∧ w'.cell? ⟨gb118, 1, none⟩ = some (.slice Ao22 t115.length co22)) ∧ (Kd.R k42 42 w' w.heap.size (fun k_ => (w.heap.size ≤ k_) ∧ some k_ ≠ (s_.2.1 : Value).ownBlock) s_.1 y119) ∧ (Kd.R k42 42 w' w.heap.size (fun k_ => (w.heap.size ≤ k_) ∧ some k_ ≠ (s_.1 : Value).ownBlock) s_.2.1 y122) ∧ (Kd.R k47 47 w' w.heap.size (fun k_ => (w.heap.size ≤ k_) ∧ some k_ ≠ (s_.2.2.2.1 : Value).ownBlock) s_.2.2.1 y125) ∧ (Kd.R k47 47 w' w.heap.size (fun k_ => (w.heap.size ≤ k_) ∧ some k_ ≠ (s_.2.2.1 : Value).ownBlock) s_.2.2.2.1 y128) ∧ (w'.heap[gb109]? = some (.cells #[.slice A0_0 l0_0.length c0_0, .slice A0_1 l0_1.length c0_1] 25 (0, 0))) ∧ (w'.heap[gb110]? = some (.cells #[.slice none 0 0, .slice none 0 0] 25 (0, 0))) ∧ (w'.heap[gb111]? = some (.cells #[.slice none 0 0, .slice none 0 0, .slice none 0 0, .slice none 0 0] 30 (0, 0))) ∧ (w'.heap[gb118]? = some (.cells #[.slice Ao17 t112.length co17, .slice Ao22 t115.length co22] 25 (0, 0))) ∧ (w'.heap[s_.2.2.2.2]? = some (.cells #[.slice none 0 0, .slice none 0 0, .slice none 0 0, .slice none 0 0] 30 (0, 0))) ∧ (w.heap.size ≤ s_.2.2.2.2) ∧ (w.heap.size ≤ s_.2.2.2.2) ∧ (gb109 ≠ s_.2.2.2.2) ∧ (s_.2.2.2.2 ≠ gb109) ∧ (gb110 ≠ s_.2.2.2.2) ∧ (s_.2.2.2.2 ≠ gb110) ∧ (gb111 ≠ s_.2.2.2.2) ∧ (s_.2.2.2.2 ≠ gb111) ∧ (gb118 ≠ s_.2.2.2.2) ∧ (s_.2.2.2.2 ≠ gb118) ∧ (Below w.heap.size w w')) ?_ ?_
       rotate_left
       ·intro hJ4_5_10_11_13
        refine join_ (σ := Value × Value × Value × Value) 2 #[true, true, true, true, true, true, true, true, true, true, true, true, true, false, false] (fun s_ => [(12, s_.1), (13, s_.2.1), (18, s_.2.2.1), (19, s_.2.2.2), (20, .agg #[s_.2.1, s_.2.2.2, .slice none 0 0, .slice none 0 0])]) (fun s_ w' => (w'.cell? ⟨gb118, 0, none⟩ = some (.slice Ao17 t112.length co17) ∧ w'.cell? ⟨gb118, 1, none⟩ = some (.slice Ao22 t115.length co22)) ∧ (Kd.R k42 42 w' w.heap.size (fun k_ => (w.heap.size ≤ k_) ∧ some k_ ≠ (s_.2.1 : Value).ownBlock) s_.1 y119) ∧ (Kd.R k42 42 w' w.heap.size (fun k_ => (w.heap.size ≤ k_) ∧ some k_ ≠ (s_.1 : Value).ownBlock) s_.2.1 y122) ∧ (Kd.R k47 47 w' w.heap.size (fun k_ => (w.heap.size ≤ k_) ∧ some k_ ≠ (s_.2.2.2 : Value).ownBlock) s_.2.2.1 y125) ∧ (Kd.R k47 47 w' w.heap.size (fun k_ => (w.heap.size ≤ k_) ∧ some k_ ≠ (s_.2.2.1 : Value).ownBlock) s_.2.2.2 y128) ∧ (w'.heap[gb109]? = some (.cells #[.slice A0_0 l0_0.length c0_0, .slice A0_1 l0_1.length c0_1] 25 (0, 0))) ∧ (w'.heap[gb110]? = some (.cells #[.slice none 0 0, .slice none 0 0] 25 (0, 0))) ∧ (w'.heap[gb111]? = some (.cells #[.slice none 0 0, .slice none 0 0, .slice none 0 0, .slice none 0 0] 30 (0, 0))) ∧ (w'.heap[gb118]? = some (.cells #[.slice Ao17 t112.length co17, .slice Ao22 t115.length co22] 25 (0, 0))) ∧ (Below w.heap.size w w')) ?_ ?_
        rotate_left
        ·intro hJ4_5_10_11
         refine join_ (σ := Value × Value × Value × Nat) 3 #[true, true, true, true, true, true, true, true, true, true, true, false, false, true, false] (fun s_ => [(12, s_.1), (13, s_.2.1), (18, s_.2.2.1), (5, .pointer (some ⟨s_.2.2.2, 0, none⟩))]) (fun s_ w' => (w'.cell? ⟨gb118, 0, none⟩ = some (.slice Ao17 t112.length co17) ∧ w'.cell? ⟨gb118, 1, none⟩ = some (.slice Ao22 t115.length co22)) ∧ (Kd.R k47 47 w' w.heap.size (fun k_ => (w.heap.size ≤ k_) ∧ some k_ ≠ (s_.2.2.1 : Value).ownBlock) (.slice Ao22 t115.length co22) t115) ∧ (Kd.R k42 42 w' w.heap.size (fun k_ => (w.heap.size ≤ k_) ∧ some k_ ≠ (s_.2.1 : Value).ownBlock) s_.1 y119) ∧ (Kd.R k42 42 w' w.heap.size (fun k_ => (w.heap.size ≤ k_) ∧ some k_ ≠ (s_.1 : Value).ownBlock) s_.2.1 y122) ∧ (Kd.R k47 47 w' w.heap.size (fun k_ => (w.heap.size ≤ k_) ∧ some k_ ≠ (.slice Ao22 t115.length co22 : Value).ownBlock) s_.2.2.1 y125) ∧ (w'.heap[gb109]? = some (.cells #[.slice A0_0 l0_0.length c0_0, .slice A0_1 l0_1.length c0_1] 25 (0, 0))) ∧ (w'.heap[gb110]? = some (.cells #[.slice none 0 0, .slice none 0 0] 25 (0, 0))) ∧ (w'.heap[gb111]? = some (.cells #[.slice none 0 0, .slice none 0 0, .slice none 0 0, .slice none 0 0] 30 (0, 0))) ∧ (w'.heap[gb118]? = some (.cells #[.slice Ao17 t112.length co17, .slice Ao22 t115.length co22] 25 (0, 0))) ∧ (w'.heap[s_.2.2.2]? = some (.cells #[.slice none 0 0, .slice none 0 0, .slice none 0 0, .slice none 0 0] 30 (0, 0))) ∧ (w.heap.size ≤ s_.2.2.2) ∧ (w.heap.size ≤ s_.2.2.2) ∧ (gb109 ≠ s_.2.2.2) ∧ (s_.2.2.2 ≠ gb109) ∧ (gb110 ≠ s_.2.2.2) ∧ (s_.2.2.2 ≠ gb110) ∧ (gb111 ≠ s_.2.2.2) ∧ (s_.2.2.2 ≠ gb111) ∧ (gb118 ≠ s_.2.2.2) ∧ (s_.2.2.2 ≠ gb118) ∧ (Below w.heap.size w w')) ?_ ?_
         rotate_left
         ·intro hJ4_5_10_13
          refine join_ (σ := Value × Value × Value) 4 #[true, true, true, true, true, true, true, true, true, true, true, false, false, false, false] (fun s_ => [(12, s_.1), (13, s_.2.1), (18, s_.2.2)]) (fun s_ w' => (w'.cell? ⟨gb118, 0, none⟩ = some (.slice Ao17 t112.length co17) ∧ w'.cell? ⟨gb118, 1, none⟩ = some (.slice Ao22 t115.length co22)) ∧ (Kd.R k47 47 w' w.heap.size (fun k_ => (w.heap.size ≤ k_) ∧ some k_ ≠ (s_.2.2 : Value).ownBlock) (.slice Ao22 t115.length co22) t115) ∧ (Kd.R k42 42 w' w.heap.size (fun k_ => (w.heap.size ≤ k_) ∧ some k_ ≠ (s_.2.1 : Value).ownBlock) s_.1 y119) ∧ (Kd.R k42 42 w' w.heap.size (fun k_ => (w.heap.size ≤ k_) ∧ some k_ ≠ (s_.1 : Value).ownBlock) s_.2.1 y122) ∧ (Kd.R k47 47 w' w.heap.size (fun k_ => (w.heap.size ≤ k_) ∧ some k_ ≠ (.slice Ao22 t115.length co22 : Value).ownBlock) s_.2.2 y125) ∧ (w'.heap[gb109]? = some (.cells #[.slice A0_0 l0_0.length c0_0, .slice A0_1 l0_1.length c0_1] 25 (0, 0))) ∧ (w'.heap[gb110]? = some (.cells #[.slice none 0 0, .slice none 0 0] 25 (0, 0))) ∧ (w'.heap[gb111]? = some (.cells #[.slice none 0 0, .slice none 0 0, .slice none 0 0, .slice none 0 0] 30 (0, 0))) ∧ (w'.heap[gb118]? = some (.cells #[.slice Ao17 t112.length co17, .slice Ao22 t115.length co22] 25 (0, 0))) ∧ (Below w.heap.size w w')) ?_ ?_
          rotate_left
          ·intro hJ4_5_10
           refine join_ (σ := Value × Value × Nat) 4 #[true, true, true, true, true, true, true, true, true, true, false, false, false, true, false] (fun s_ => [(12, s_.1), (13, s_.2.1), (5, .pointer (some ⟨s_.2.2, 0, none⟩))]) (fun s_ w' => (w'.cell? ⟨gb118, 0, none⟩ = some (.slice Ao17 t112.length co17) ∧ w'.cell? ⟨gb118, 1, none⟩ = some (.slice Ao22 t115.length co22)) ∧ (Kd.R k47 47 w' w.heap.size (fun k_ => (w.heap.size ≤ k_)) (.slice Ao22 t115.length co22) t115) ∧ (Kd.R k42 42 w' w.heap.size (fun k_ => (w.heap.size ≤ k_) ∧ some k_ ≠ (s_.2.1 : Value).ownBlock) s_.1 y119) ∧ (Kd.R k42 42 w' w.heap.size (fun k_ => (w.heap.size ≤ k_) ∧ some k_ ≠ (s_.1 : Value).ownBlock) s_.2.1 y122) ∧ (w'.heap[gb109]? = some (.cells #[.slice A0_0 l0_0.length c0_0, .slice A0_1 l0_1.length c0_1] 25 (0, 0))) ∧ (w'.heap[gb110]? = some (.cells #[.slice none 0 0, .slice none 0 0] 25 (0, 0))) ∧ (w'.heap[gb111]? = some (.cells #[.slice none 0 0, .slice none 0 0, .slice none 0 0, .slice none 0 0] 30 (0, 0))) ∧ (w'.heap[gb118]? = some (.cells #[.slice Ao17 t112.length co17, .slice Ao22 t115.length co22] 25 (0, 0))) ∧ (w'.heap[s_.2.2]? = some (.cells #[.slice none 0 0, .slice none 0 0, .slice none 0 0, .slice none 0 0] 30 (0, 0))) ∧ (w.heap.size ≤ s_.2.2) ∧ (w.heap.size ≤ s_.2.2) ∧ (gb109 ≠ s_.2.2) ∧ (s_.2.2 ≠ gb109) ∧ (gb110 ≠ s_.2.2) ∧ (s_.2.2 ≠ gb110) ∧ (gb111 ≠ s_.2.2) ∧ (s_.2.2 ≠ gb111) ∧ (gb118 ≠ s_.2.2) ∧ (s_.2.2 ≠ gb118) ∧ (Below w.heap.size w w')) ?_ ?_
           rotate_left
           ·intro hJ4_5_13
            refine join_ (σ := Value × Value × Nat) 4 #[true, true, true, true, true, false, true, true, true, true, true, false, false, true, false] (fun s_ => [(12, s_.1), (18, s_.2.1), (5, .pointer (some ⟨s_.2.2, 0, none⟩))]) (fun s_ w' => (w'.cell? ⟨gb118, 0, none⟩ = some (.slice Ao17 t112.length co17) ∧ w'.cell? ⟨gb118, 1, none⟩ = some (.slice Ao22 t115.length co22)) ∧ (Kd.R k42 42 w' w.heap.size (fun k_ => (w.heap.size ≤ k_) ∧ some k_ ≠ (s_.1 : Value).ownBlock) (.slice Ao17 t112.length co17) t112) ∧ (Kd.R k47 47 w' w.heap.size (fun k_ => (w.heap.size ≤ k_) ∧ some k_ ≠ (s_.2.1 : Value).ownBlock) (.slice Ao22 t115.length co22) t115) ∧ (Kd.R k42 42 w' w.heap.size (fun k_ => (w.heap.size ≤ k_) ∧ some k_ ≠ (.slice Ao17 t112.length co17 : Value).ownBlock) s_.1 y119) ∧ (Kd.R k47 47 w' w.heap.size (fun k_ => (w.heap.size ≤ k_) ∧ some k_ ≠ (.slice Ao22 t115.length co22 : Value).ownBlock) s_.2.1 y125) ∧ (w'.heap[gb109]? = some (.cells #[.slice A0_0 l0_0.length c0_0, .slice A0_1 l0_1.length c0_1] 25 (0, 0))) ∧ (w'.heap[gb110]? = some (.cells #[.slice none 0 0, .slice none 0 0] 25 (0, 0))) ∧ (w'.heap[gb111]? = some (.cells #[.slice none 0 0, .slice none 0 0, .slice none 0 0, .slice none 0 0] 30 (0, 0))) ∧ (w'.heap[gb118]? = some (.cells #[.slice Ao17 t112.length co17, .slice Ao22 t115.length co22] 25 (0, 0))) ∧ (w'.heap[s_.2.2]? = some (.cells #[.slice none 0 0, .slice none 0 0, .slice none 0 0, .slice none 0 0] 30 (0, 0))) ∧ (w.heap.size ≤ s_.2.2) ∧ (w.heap.size ≤ s_.2.2) ∧ (gb109 ≠ s_.2.2) ∧ (s_.2.2 ≠ gb109) ∧ (gb110 ≠ s_.2.2) ∧ (s_.2.2 ≠ gb110) ∧ (gb111 ≠ s_.2.2) ∧ (s_.2.2 ≠ gb111) ∧ (gb118 ≠ s_.2.2) ∧ (s_.2.2 ≠ gb118) ∧ (Below w.heap.size w w')) ?_ ?_
            rotate_left
            ·intro hJ4_10_13
             refine join_ (σ := Value × Value) 5 #[true, true, true, true, true, true, true, true, true, true, false, false, false, false, false] (fun s_ => [(12, s_.1), (13, s_.2)]) (fun s_ w' => (w'.cell? ⟨gb118, 0, none⟩ = some (.slice Ao17 t112.length co17) ∧ w'.cell? ⟨gb118, 1, none⟩ = some (.slice Ao22 t115.length co22)) ∧ (Kd.R k47 47 w' w.heap.size (fun k_ => (w.heap.size ≤ k_)) (.slice Ao22 t115.length co22) t115) ∧ (Kd.R k42 42 w' w.heap.size (fun k_ => (w.heap.size ≤ k_) ∧ some k_ ≠ (s_.2 : Value).ownBlock) s_.1 y119) ∧ (Kd.R k42 42 w' w.heap.size (fun k_ => (w.heap.size ≤ k_) ∧ some k_ ≠ (s_.1 : Value).ownBlock) s_.2 y122) ∧ (w'.heap[gb109]? = some (.cells #[.slice A0_0 l0_0.length c0_0, .slice A0_1 l0_1.length c0_1] 25 (0, 0))) ∧ (w'.heap[gb110]? = some (.cells #[.slice none 0 0, .slice none 0 0] 25 (0, 0))) ∧ (w'.heap[gb111]? = some (.cells #[.slice none 0 0, .slice none 0 0, .slice none 0 0, .slice none 0 0] 30 (0, 0))) ∧ (w'.heap[gb118]? = some (.cells #[.slice Ao17 t112.length co17, .slice Ao22 t115.length co22] 25 (0, 0))) ∧ (Below w.heap.size w w')) ?_ ?_
             rotate_left
             ·intro hJ4_5
              refine join_ (σ := Value × Value) 5 #[true, true, true, true, true, false, true, true, true, true, true, false, false, false, false] (fun s_ => [(12, s_.1), (18, s_.2)]) (fun s_ w' => (w'.cell? ⟨gb118, 0, none⟩ = some (.slice Ao17 t112.length co17) ∧ w'.cell? ⟨gb118, 1, none⟩ = some (.slice Ao22 t115.length co22)) ∧ (Kd.R k42 42 w' w.heap.size (fun k_ => (w.heap.size ≤ k_) ∧ some k_ ≠ (s_.1 : Value).ownBlock) (.slice Ao17 t112.length co17) t112) ∧ (Kd.R k47 47 w' w.heap.size (fun k_ => (w.heap.size ≤ k_) ∧ some k_ ≠ (s_.2 : Value).ownBlock) (.slice Ao22 t115.length co22) t115) ∧ (Kd.R k42 42 w' w.heap.size (fun k_ => (w.heap.size ≤ k_) ∧ some k_ ≠ (.slice Ao17 t112.length co17 : Value).ownBlock) s_.1 y119) ∧ (Kd.R k47 47 w' w.heap.size (fun k_ => (w.heap.size ≤ k_) ∧ some k_ ≠ (.slice Ao22 t115.length co22 : Value).ownBlock) s_.2 y125) ∧ (w'.heap[gb109]? = some (.cells #[.slice A0_0 l0_0.length c0_0, .slice A0_1 l0_1.length c0_1] 25 (0, 0))) ∧ (w'.heap[gb110]? = some (.cells #[.slice none 0 0, .slice none 0 0] 25 (0, 0))) ∧ (w'.heap[gb111]? = some (.cells #[.slice none 0 0, .slice none 0 0, .slice none 0 0, .slice none 0 0] 30 (0, 0))) ∧ (w'.heap[gb118]? = some (.cells #[.slice Ao17 t112.length co17, .slice Ao22 t115.length co22] 25 (0, 0))) ∧ (Below w.heap.size w w')) ?_ ?_
              rotate_left
              ·intro hJ4_10
               refine join_ (σ := Value × Nat) 5 #[true, true, true, true, true, false, true, true, true, true, false, false, false, true, false] (fun s_ => [(12, s_.1), (5, .pointer (some ⟨s_.2, 0, none⟩))]) (fun s_ w' => (w'.cell? ⟨gb118, 0, none⟩ = some (.slice Ao17 t112.length co17) ∧ w'.cell? ⟨gb118, 1, none⟩ = some (.slice Ao22 t115.length co22)) ∧ (Kd.R k42 42 w' w.heap.size (fun k_ => (w.heap.size ≤ k_) ∧ some k_ ≠ (s_.1 : Value).ownBlock) (.slice Ao17 t112.length co17) t112) ∧ (Kd.R k47 47 w' w.heap.size (fun k_ => (w.heap.size ≤ k_)) (.slice Ao22 t115.length co22) t115) ∧ (Kd.R k42 42 w' w.heap.size (fun k_ => (w.heap.size ≤ k_) ∧ some k_ ≠ (.slice Ao17 t112.length co17 : Value).ownBlock) s_.1 y119) ∧ (w'.heap[gb109]? = some (.cells #[.slice A0_0 l0_0.length c0_0, .slice A0_1 l0_1.length c0_1] 25 (0, 0))) ∧ (w'.heap[gb110]? = some (.cells #[.slice none 0 0, .slice none 0 0] 25 (0, 0))) ∧ (w'.heap[gb111]? = some (.cells #[.slice none 0 0, .slice none 0 0, .slice none 0 0, .slice none 0 0] 30 (0, 0))) ∧ (w'.heap[gb118]? = some (.cells #[.slice Ao17 t112.length co17, .slice Ao22 t115.length co22] 25 (0, 0))) ∧ (w'.heap[s_.2]? = some (.cells #[.slice none 0 0, .slice none 0 0, .slice none 0 0, .slice none 0 0] 30 (0, 0))) ∧ (w.heap.size ≤ s_.2) ∧ (w.heap.size ≤ s_.2) ∧ (gb109 ≠ s_.2) ∧ (s_.2 ≠ gb109) ∧ (gb110 ≠ s_.2) ∧ (s_.2 ≠ gb110) ∧ (gb111 ≠ s_.2) ∧ (s_.2 ≠ gb111) ∧ (gb118 ≠ s_.2) ∧ (s_.2 ≠ gb118) ∧ (Below w.heap.size w w')) ?_ ?_
               rotate_left
               ·intro hJ4_13
                refine join_ (σ := Value × Nat) 5 #[true, true, true, true, false, false, true, true, true, true, true, false, false, true, false] (fun s_ => [(18, s_.1), (5, .pointer (some ⟨s_.2, 0, none⟩))]) (fun s_ w' => (w'.cell? ⟨gb118, 0, none⟩ = some (.slice Ao17 t112.length co17) ∧ w'.cell? ⟨gb118, 1, none⟩ = some (.slice Ao22 t115.length co22)) ∧ (Kd.R k42 42 w' w.heap.size (fun k_ => (w.heap.size ≤ k_)) (.slice Ao17 t112.length co17) t112) ∧ (Kd.R k47 47 w' w.heap.size (fun k_ => (w.heap.size ≤ k_) ∧ some k_ ≠ (s_.1 : Value).ownBlock) (.slice Ao22 t115.length co22) t115) ∧ (Kd.R k47 47 w' w.heap.size (fun k_ => (w.heap.size ≤ k_) ∧ some k_ ≠ (.slice Ao22 t115.length co22 : Value).ownBlock) s_.1 y125) ∧ (w'.heap[gb109]? = some (.cells #[.slice A0_0 l0_0.length c0_0, .slice A0_1 l0_1.length c0_1] 25 (0, 0))) ∧ (w'.heap[gb110]? = some (.cells #[.slice none 0 0, .slice none 0 0] 25 (0, 0))) ∧ (w'.heap[gb111]? = some (.cells #[.slice none 0 0, .slice none 0 0, .slice none 0 0, .slice none 0 0] 30 (0, 0))) ∧ (w'.heap[gb118]? = some (.cells #[.slice Ao17 t112.length co17, .slice Ao22 t115.length co22] 25 (0, 0))) ∧ (w'.heap[s_.2]? = some (.cells #[.slice none 0 0, .slice none 0 0, .slice none 0 0, .slice none 0 0] 30 (0, 0))) ∧ (w.heap.size ≤ s_.2) ∧ (w.heap.size ≤ s_.2) ∧ (gb109 ≠ s_.2) ∧ (s_.2 ≠ gb109) ∧ (gb110 ≠ s_.2) ∧ (s_.2 ≠ gb110) ∧ (gb111 ≠ s_.2) ∧ (s_.2 ≠ gb111) ∧ (gb118 ≠ s_.2) ∧ (s_.2 ≠ gb118) ∧ (Below w.heap.size w w')) ?_ ?_
                rotate_left
                ·intro hJ10_13
                 refine join_ (σ := Value) 6 #[true, true, true, true, true, false, true, true, true, true, false, false, false, false, false] (fun s_ => [(12, s_)]) (fun s_ w' => (w'.cell? ⟨gb118, 0, none⟩ = some (.slice Ao17 t112.length co17) ∧ w'.cell? ⟨gb118, 1, none⟩ = some (.slice Ao22 t115.length co22)) ∧ (Kd.R k42 42 w' w.heap.size (fun k_ => (w.heap.size ≤ k_) ∧ some k_ ≠ (s_ : Value).ownBlock) (.slice Ao17 t112.length co17) t112) ∧ (Kd.R k47 47 w' w.heap.size (fun k_ => (w.heap.size ≤ k_)) (.slice Ao22 t115.length co22) t115) ∧ (Kd.R k42 42 w' w.heap.size (fun k_ => (w.heap.size ≤ k_) ∧ some k_ ≠ (.slice Ao17 t112.length co17 : Value).ownBlock) s_ y119) ∧ (w'.heap[gb109]? = some (.cells #[.slice A0_0 l0_0.length c0_0, .slice A0_1 l0_1.length c0_1] 25 (0, 0))) ∧ (w'.heap[gb110]? = some (.cells #[.slice none 0 0, .slice none 0 0] 25 (0, 0))) ∧ (w'.heap[gb111]? = some (.cells #[.slice none 0 0, .slice none 0 0, .slice none 0 0, .slice none 0 0] 30 (0, 0))) ∧ (w'.heap[gb118]? = some (.cells #[.slice Ao17 t112.length co17, .slice Ao22 t115.length co22] 25 (0, 0))) ∧ (Below w.heap.size w w')) ?_ ?_
                 rotate_left
                 ·intro hJ4
                  refine join_ (σ := Value) 6 #[true, true, true, true, false, false, true, true, true, true, true, false, false, false, false] (fun s_ => [(18, s_)]) (fun s_ w' => (w'.cell? ⟨gb118, 0, none⟩ = some (.slice Ao17 t112.length co17) ∧ w'.cell? ⟨gb118, 1, none⟩ = some (.slice Ao22 t115.length co22)) ∧ (Kd.R k42 42 w' w.heap.size (fun k_ => (w.heap.size ≤ k_)) (.slice Ao17 t112.length co17) t112) ∧ (Kd.R k47 47 w' w.heap.size (fun k_ => (w.heap.size ≤ k_) ∧ some k_ ≠ (s_ : Value).ownBlock) (.slice Ao22 t115.length co22) t115) ∧ (Kd.R k47 47 w' w.heap.size (fun k_ => (w.heap.size ≤ k_) ∧ some k_ ≠ (.slice Ao22 t115.length co22 : Value).ownBlock) s_ y125) ∧ (w'.heap[gb109]? = some (.cells #[.slice A0_0 l0_0.length c0_0, .slice A0_1 l0_1.length c0_1] 25 (0, 0))) ∧ (w'.heap[gb110]? = some (.cells #[.slice none 0 0, .slice none 0 0] 25 (0, 0))) ∧ (w'.heap[gb111]? = some (.cells #[.slice none 0 0, .slice none 0 0, .slice none 0 0, .slice none 0 0] 30 (0, 0))) ∧ (w'.heap[gb118]? = some (.cells #[.slice Ao17 t112.length co17, .slice Ao22 t115.length co22] 25 (0, 0))) ∧ (Below w.heap.size w w')) ?_ ?_
                  rotate_left
                  ·intro hJ10
                   refine join_ (σ := Nat) 6 #[true, true, true, true, false, false, true, true, true, true, false, false, false, true, false] (fun s_ => [(5, .pointer (some ⟨s_, 0, none⟩))]) (fun s_ w' => (w'.cell? ⟨gb118, 0, none⟩ = some (.slice Ao17 t112.length co17) ∧ w'.cell? ⟨gb118, 1, none⟩ = some (.slice Ao22 t115.length co22)) ∧ (Kd.R k42 42 w' w.heap.size (fun k_ => (w.heap.size ≤ k_)) (.slice Ao17 t112.length co17) t112) ∧ (Kd.R k47 47 w' w.heap.size (fun k_ => (w.heap.size ≤ k_)) (.slice Ao22 t115.length co22) t115) ∧ (w'.heap[gb109]? = some (.cells #[.slice A0_0 l0_0.length c0_0, .slice A0_1 l0_1.length c0_1] 25 (0, 0))) ∧ (w'.heap[gb110]? = some (.cells #[.slice none 0 0, .slice none 0 0] 25 (0, 0))) ∧ (w'.heap[gb111]? = some (.cells #[.slice none 0 0, .slice none 0 0, .slice none 0 0, .slice none 0 0] 30 (0, 0))) ∧ (w'.heap[gb118]? = some (.cells #[.slice Ao17 t112.length co17, .slice Ao22 t115.length co22] 25 (0, 0))) ∧ (w'.heap[s_]? = some (.cells #[.slice none 0 0, .slice none 0 0, .slice none 0 0, .slice none 0 0] 30 (0, 0))) ∧ (w.heap.size ≤ s_) ∧ (w.heap.size ≤ s_) ∧ (gb109 ≠ s_) ∧ (s_ ≠ gb109) ∧ (gb110 ≠ s_) ∧ (s_ ≠ gb110) ∧ (gb111 ≠ s_) ∧ (s_ ≠ gb111) ∧ (gb118 ≠ s_) ∧ (s_ ≠ gb118) ∧ (Below w.heap.size w w')) ?_ ?_
                   rotate_left
                   ·intro hJ13
                    refine three_ (i := 4) (j := 10) (k := 13) (Ni := some 12) (Nj := some 18) (Nk := some 5) #[true, true, true, true, true, false, true, true, true, true, false, false, false, false, false] #[true, true, true, true, false, false, true, true, true, true, true, false, false, false, false] #[true, true, true, true, false, false, true, true, true, true, false, false, false, true, false] rfl rfl rfl rfl rfl rfl (three_of HT_.out (by kernel_rfl)) (by decide) (by decide) (by decide) (fun K hK => ?_) (fun K hK => ?_) (fun K hK => ?_)
                    ·skip
                     refine Kd.R_lit_step k42 _ 42 ?hg (N := 12) ?hd (xs := ([(⟨(⟨#[]⟩ : ByteArray), 0, 77, 0, 0⟩ : S42), (⟨(⟨#[]⟩ : ByteArray), 0, 77, 0, 0⟩ : S42)] : List (S42))) (inner := [.string (⟨#[]⟩ : ByteArray), .int .i64 0, .int .i64 77, .int .i64 0, .int .i64 0, .string (⟨#[]⟩ : ByteArray), .int .i64 0, .int .i64 77, .int .i64 0, .int .i64 0]) (ok := fun _ => True) (okp := fun _ => True) ?hr ?hp (fun _ hk => hk) trivial (Below.refl _ _) (Nat.le_refl _) (by simp) ?_; (case hd => rfl); (case hg => rfl); (case hr => first | (go_simp; done) | (go_simp; rfl)); (case hp => exact (Reps.c5 (show Kd.M k42 _ _ _ (⟨(⟨#[]⟩ : ByteArray), 0, 77, 0, 0⟩ : S42) [.string (⟨#[]⟩ : ByteArray), .int .i64 0, .int .i64 77, .int .i64 0, .int .i64 0] from (k42_mkM _ _ _ (⟨(⟨#[]⟩ : ByteArray), 0, 77, 0, 0⟩ : S42) )) (Reps.c5 (show Kd.M k42 _ _ _ (⟨(⟨#[]⟩ : ByteArray), 0, 77, 0, 0⟩ : S42) [.string (⟨#[]⟩ : ByteArray), .int .i64 0, .int .i64 77, .int .i64 0, .int .i64 0] from (k42_mkM _ _ _ (⟨(⟨#[]⟩ : ByteArray), 0, 77, 0, 0⟩ : S42) )) (Reps.none _ _))))
                     intro v120 w25 ho26 hb hg_ hnew_
                     clear hg_ hnew_
                     (first | rw [← Ny119.out] at ho26 | (simp only [Int.reduceToNat] at ho26; rw [← Ny119.out] at ho26))
                     have n0_ := qA (Kd.R_elder' (by (with_reducible repeat (first | apply qm | apply qn | apply qo)); exact HO114.out) (Kd.R_base ho26) hb)
                     have n1_ := qA (Kd.R_below (by (with_reducible repeat (first | apply qm | apply qn | apply qo)); exact HO117.out) hb)
                     have n2_ := qA (Kd.R_lower (Kd.R_new' (Kd.R_newM (M := fun k_ => (w.heap.size ≤ k_)) ho26 (ql (by repeat (first | (with_reducible first | exact HB.out | apply qh | apply qj | apply qi | refine qg ?_ GE109.out | refine qg ?_ GE110.out | refine qg ?_ GE111.out | refine qg ?_ GE118.out) | exact HB.out))) (fun k_ h_ => h_)) (Kd.R_lt (by (with_reducible repeat (first | apply qm | apply qn | apply qo)); exact HO114.out))) (ql (by repeat (first | (with_reducible first | exact HB.out | apply qh | apply qj | apply qi | refine qg ?_ GE109.out | refine qg ?_ GE110.out | refine qg ?_ GE111.out | refine qg ?_ GE118.out) | exact HB.out))))
                     have n3_ := qA (qf (g := gb109) (o := .cells #[.slice A0_0 l0_0.length c0_0, .slice A0_1 l0_1.length c0_1] 25 (0, 0)) (by (with_reducible repeat (first | refine qa ?_ _ | refine qb ?_ | refine qc ?_ _)); exact BK109.out) hb)
                     have n4_ := qA (qf (g := gb110) (o := .cells #[.slice none 0 0, .slice none 0 0] 25 (0, 0)) (by (with_reducible repeat (first | refine qa ?_ _ | refine qb ?_ | refine qc ?_ _)); exact BK110.out) hb)
                     have n5_ := qA (qf (g := gb111) (o := .cells #[.slice none 0 0, .slice none 0 0, .slice none 0 0, .slice none 0 0] 30 (0, 0)) (by (with_reducible repeat (first | refine qa ?_ _ | refine qb ?_ | refine qc ?_ _)); exact BK111.out) hb)
                     have n6_ := qA (qf (g := gb118) (o := .cells #[.slice Ao17 t112.length co17, .slice Ao22 t115.length co22] 25 (0, 0)) (by (with_reducible repeat (first | refine qa ?_ _ | refine qb ?_ | refine qc ?_ _)); exact BK118.out) hb)
                     have n7_ := qA (qk (by repeat (first | (with_reducible first | exact HB.out | apply qh | apply qj | apply qi | refine qg ?_ GE109.out | refine qg ?_ GE110.out | refine qg ?_ GE111.out | refine qg ?_ GE118.out) | exact HB.out)) hb)
                     clear HO114
                     clear HO117
                     clear BK109
                     clear BK110
                     clear BK111
                     clear BK118
                     clear HB
                     have HO114 := n0_
                     have HO117 := n1_
                     have HO121 := n2_
                     have BK109 := n3_
                     have BK110 := n4_
                     have BK111 := n5_
                     have BK118 := n6_
                     have HB := n7_
                     clear n0_ n1_ n2_ n3_ n4_ n5_ n6_ n7_
                     clear hb ho26
                     refine hK.out _ _ ⟨(qd BK118.out 0).trans rfl, (qd BK118.out 1).trans rfl⟩ (fun hHeld => ?_)
                     clear hK K
                     refine norm_ (a' := ?_) ?_ ?_
                     rotate_left
                     ·show Act.put _ (some 12) _ = _
                      simp only [Act.put, qx, qy, qz, i64_w, i32_w]
                      rfl
                     exact norm_ (by first | (simp only [putAll, Act.put, qx, qy, qz]; done) | (simp only [putAll, Act.put, qx, qy, qz]; rfl)) (hJ4 (v120) _ ⟨hHeld, (by (with_reducible repeat (first | apply qm | apply qn | apply qo)); exact HO114.out), (by (with_reducible repeat (first | apply qm | apply qn | apply qo)); exact HO117.out), (by (with_reducible repeat (first | apply qm | apply qn | apply qo)); exact qp HO121.out (fun _ hk => ⟨hk.1.1, hk.2⟩)), (by (with_reducible repeat (first | refine qa ?_ _ | refine qb ?_ | refine qc ?_ _)); exact BK109.out), (by (with_reducible repeat (first | refine qa ?_ _ | refine qb ?_ | refine qc ?_ _)); exact BK110.out), (by (with_reducible repeat (first | refine qa ?_ _ | refine qb ?_ | refine qc ?_ _)); exact BK111.out), (by (with_reducible repeat (first | refine qa ?_ _ | refine qb ?_ | refine qc ?_ _)); exact BK118.out), (by repeat (first | (with_reducible first | exact HB.out | apply qh | apply qj | apply qi | refine qg ?_ GE109.out | refine qg ?_ GE110.out | refine qg ?_ GE111.out | refine qg ?_ GE118.out) | exact HB.out))⟩)
                    ·skip
                     refine Kd.R_lit_step k47 _ 47 ?hg (N := 18) ?hd (xs := ([(⟨0, 0, 77, 0⟩ : S47), (⟨0, 0, 77, 0⟩ : S47)] : List (S47))) (inner := [.int .i64 0, .int .i64 0, .int .i64 77, .int .i64 0, .int .i64 0, .int .i64 0, .int .i64 77, .int .i64 0]) (ok := fun _ => True) (okp := fun _ => True) ?hr ?hp (fun _ hk => hk) trivial (Below.refl _ _) (Nat.le_refl _) (by simp) ?_; (case hd => rfl); (case hg => rfl); (case hr => first | (go_simp; done) | (go_simp; rfl)); (case hp => exact (Reps.c4 (show Kd.M k47 _ _ _ (⟨0, 0, 77, 0⟩ : S47) [.int .i64 0, .int .i64 0, .int .i64 77, .int .i64 0] from (k47_mkM _ _ _ (⟨0, 0, 77, 0⟩ : S47) )) (Reps.c4 (show Kd.M k47 _ _ _ (⟨0, 0, 77, 0⟩ : S47) [.int .i64 0, .int .i64 0, .int .i64 77, .int .i64 0] from (k47_mkM _ _ _ (⟨0, 0, 77, 0⟩ : S47) )) (Reps.none _ _))))
                     intro v126 w25 ho26 hb hg_ hnew_
                     clear hg_ hnew_
                     (first | rw [← Ny125.out] at ho26 | (simp only [Int.reduceToNat] at ho26; rw [← Ny125.out] at ho26))
                     have n0_ := qA (Kd.R_below (by (with_reducible repeat (first | apply qm | apply qn | apply qo)); exact HO114.out) hb)
                     have n1_ := qA (Kd.R_elder' (by (with_reducible repeat (first | apply qm | apply qn | apply qo)); exact HO117.out) (Kd.R_base ho26) hb)
                     have n2_ := qA (Kd.R_lower (Kd.R_new' (Kd.R_newM (M := fun k_ => (w.heap.size ≤ k_)) ho26 (ql (by repeat (first | (with_reducible first | exact HB.out | apply qh | apply qj | apply qi | refine qg ?_ GE109.out | refine qg ?_ GE110.out | refine qg ?_ GE111.out | refine qg ?_ GE118.out) | exact HB.out))) (fun k_ h_ => h_)) (Kd.R_lt (by (with_reducible repeat (first | apply qm | apply qn | apply qo)); exact HO117.out))) (ql (by repeat (first | (with_reducible first | exact HB.out | apply qh | apply qj | apply qi | refine qg ?_ GE109.out | refine qg ?_ GE110.out | refine qg ?_ GE111.out | refine qg ?_ GE118.out) | exact HB.out))))
                     have n3_ := qA (qf (g := gb109) (o := .cells #[.slice A0_0 l0_0.length c0_0, .slice A0_1 l0_1.length c0_1] 25 (0, 0)) (by (with_reducible repeat (first | refine qa ?_ _ | refine qb ?_ | refine qc ?_ _)); exact BK109.out) hb)
                     have n4_ := qA (qf (g := gb110) (o := .cells #[.slice none 0 0, .slice none 0 0] 25 (0, 0)) (by (with_reducible repeat (first | refine qa ?_ _ | refine qb ?_ | refine qc ?_ _)); exact BK110.out) hb)
                     have n5_ := qA (qf (g := gb111) (o := .cells #[.slice none 0 0, .slice none 0 0, .slice none 0 0, .slice none 0 0] 30 (0, 0)) (by (with_reducible repeat (first | refine qa ?_ _ | refine qb ?_ | refine qc ?_ _)); exact BK111.out) hb)
                     have n6_ := qA (qf (g := gb118) (o := .cells #[.slice Ao17 t112.length co17, .slice Ao22 t115.length co22] 25 (0, 0)) (by (with_reducible repeat (first | refine qa ?_ _ | refine qb ?_ | refine qc ?_ _)); exact BK118.out) hb)
                     have n7_ := qA (qk (by repeat (first | (with_reducible first | exact HB.out | apply qh | apply qj | apply qi | refine qg ?_ GE109.out | refine qg ?_ GE110.out | refine qg ?_ GE111.out | refine qg ?_ GE118.out) | exact HB.out)) hb)
                     clear HO114
                     clear HO117
                     clear BK109
                     clear BK110
                     clear BK111
                     clear BK118
                     clear HB
                     have HO114 := n0_
                     have HO117 := n1_
                     have HO127 := n2_
                     have BK109 := n3_
                     have BK110 := n4_
                     have BK111 := n5_
                     have BK118 := n6_
                     have HB := n7_
                     clear n0_ n1_ n2_ n3_ n4_ n5_ n6_ n7_
                     clear hb ho26
                     refine hK.out _ _ ⟨(qd BK118.out 0).trans rfl, (qd BK118.out 1).trans rfl⟩ (fun hHeld => ?_)
                     clear hK K
                     refine norm_ (a' := ?_) ?_ ?_
                     rotate_left
                     ·show Act.put _ (some 18) _ = _
                      simp only [Act.put, qx, qy, qz, i64_w, i32_w]
                      rfl
                     exact norm_ (by first | (simp only [putAll, Act.put, qx, qy, qz]; done) | (simp only [putAll, Act.put, qx, qy, qz]; rfl)) (hJ10 (v126) _ ⟨hHeld, (by (with_reducible repeat (first | apply qm | apply qn | apply qo)); exact HO114.out), (by (with_reducible repeat (first | apply qm | apply qn | apply qo)); exact HO117.out), (by (with_reducible repeat (first | apply qm | apply qn | apply qo)); exact qp HO127.out (fun _ hk => ⟨hk.1.1, hk.2⟩)), (by (with_reducible repeat (first | refine qa ?_ _ | refine qb ?_ | refine qc ?_ _)); exact BK109.out), (by (with_reducible repeat (first | refine qa ?_ _ | refine qb ?_ | refine qc ?_ _)); exact BK110.out), (by (with_reducible repeat (first | refine qa ?_ _ | refine qb ?_ | refine qc ?_ _)); exact BK111.out), (by (with_reducible repeat (first | refine qa ?_ _ | refine qb ?_ | refine qc ?_ _)); exact BK118.out), (by repeat (first | (with_reducible first | exact HB.out | apply qh | apply qj | apply qi | refine qg ?_ GE109.out | refine qg ?_ GE110.out | refine qg ?_ GE111.out | refine qg ?_ GE118.out) | exact HB.out))⟩)
                    ·skip
                     refine box_step ?hg (N := 5) ?hd (cs := #[.slice none 0 0, .slice none 0 0, .slice none 0 0, .slice none 0 0]) (t := 30) ?hr ?_; (case hd => rfl); (case hg => rfl); (case hr => first | (go_simp; done) | (go_simp; rfl))
                     intro gb131 hg w25 hbox hb
                     have n0_ := qA (Kd.R_below (by (with_reducible repeat (first | apply qm | apply qn | apply qo)); exact HO114.out) hb)
                     have n1_ := qA (Kd.R_below (by (with_reducible repeat (first | apply qm | apply qn | apply qo)); exact HO117.out) hb)
                     have n2_ := qA (qf (g := gb109) (o := .cells #[.slice A0_0 l0_0.length c0_0, .slice A0_1 l0_1.length c0_1] 25 (0, 0)) (by (with_reducible repeat (first | refine qa ?_ _ | refine qb ?_ | refine qc ?_ _)); exact BK109.out) hb)
                     have n3_ := qA (qf (g := gb110) (o := .cells #[.slice none 0 0, .slice none 0 0] 25 (0, 0)) (by (with_reducible repeat (first | refine qa ?_ _ | refine qb ?_ | refine qc ?_ _)); exact BK110.out) hb)
                     have n4_ := qA (qf (g := gb111) (o := .cells #[.slice none 0 0, .slice none 0 0, .slice none 0 0, .slice none 0 0] 30 (0, 0)) (by (with_reducible repeat (first | refine qa ?_ _ | refine qb ?_ | refine qc ?_ _)); exact BK111.out) hb)
                     have n5_ := qA (qf (g := gb118) (o := .cells #[.slice Ao17 t112.length co17, .slice Ao22 t115.length co22] 25 (0, 0)) (by (with_reducible repeat (first | refine qa ?_ _ | refine qb ?_ | refine qc ?_ _)); exact BK118.out) hb)
                     have n6_ := qA (qk (by repeat (first | (with_reducible first | exact HB.out | apply qh | apply qj | apply qi | refine qg ?_ GE109.out | refine qg ?_ GE110.out | refine qg ?_ GE111.out | refine qg ?_ GE118.out) | exact HB.out)) hb)
                     have n7_ := qA (hbox)
                     have n8_ := qA ((by rw [hg]; exact (ql (by repeat (first | (with_reducible first | exact HB.out | apply qh | apply qj | apply qi | refine qg ?_ GE109.out | refine qg ?_ GE110.out | refine qg ?_ GE111.out | refine qg ?_ GE118.out) | exact HB.out))) : w.heap.size ≤ gb131))
                     have n9_ := qA ((by rw [hg]; exact (ql (by repeat (first | (with_reducible first | exact HB.out | apply qh | apply qj | apply qi | refine qg ?_ GE109.out | refine qg ?_ GE110.out | refine qg ?_ GE111.out | refine qg ?_ GE118.out) | exact HB.out))) : w.heap.size ≤ gb131))
                     have n10_ := qA ((by rw [hg]; exact Nat.ne_of_lt (blk_lt (g := gb109) (o := .cells #[.slice A0_0 l0_0.length c0_0, .slice A0_1 l0_1.length c0_1] 25 (0, 0)) (by (with_reducible repeat (first | refine qa ?_ _ | refine qb ?_ | refine qc ?_ _)); exact BK109.out)) : gb109 ≠ gb131))
                     have n11_ := qA ((by rw [hg]; exact Nat.ne_of_gt (blk_lt (g := gb109) (o := .cells #[.slice A0_0 l0_0.length c0_0, .slice A0_1 l0_1.length c0_1] 25 (0, 0)) (by (with_reducible repeat (first | refine qa ?_ _ | refine qb ?_ | refine qc ?_ _)); exact BK109.out)) : gb131 ≠ gb109))
                     have n12_ := qA ((by rw [hg]; exact Nat.ne_of_lt (blk_lt (g := gb110) (o := .cells #[.slice none 0 0, .slice none 0 0] 25 (0, 0)) (by (with_reducible repeat (first | refine qa ?_ _ | refine qb ?_ | refine qc ?_ _)); exact BK110.out)) : gb110 ≠ gb131))
                     have n13_ := qA ((by rw [hg]; exact Nat.ne_of_gt (blk_lt (g := gb110) (o := .cells #[.slice none 0 0, .slice none 0 0] 25 (0, 0)) (by (with_reducible repeat (first | refine qa ?_ _ | refine qb ?_ | refine qc ?_ _)); exact BK110.out)) : gb131 ≠ gb110))
                     have n14_ := qA ((by rw [hg]; exact Nat.ne_of_lt (blk_lt (g := gb111) (o := .cells #[.slice none 0 0, .slice none 0 0, .slice none 0 0, .slice none 0 0] 30 (0, 0)) (by (with_reducible repeat (first | refine qa ?_ _ | refine qb ?_ | refine qc ?_ _)); exact BK111.out)) : gb111 ≠ gb131))
                     have n15_ := qA ((by rw [hg]; exact Nat.ne_of_gt (blk_lt (g := gb111) (o := .cells #[.slice none 0 0, .slice none 0 0, .slice none 0 0, .slice none 0 0] 30 (0, 0)) (by (with_reducible repeat (first | refine qa ?_ _ | refine qb ?_ | refine qc ?_ _)); exact BK111.out)) : gb131 ≠ gb111))
                     have n16_ := qA ((by rw [hg]; exact Nat.ne_of_lt (blk_lt (g := gb118) (o := .cells #[.slice Ao17 t112.length co17, .slice Ao22 t115.length co22] 25 (0, 0)) (by (with_reducible repeat (first | refine qa ?_ _ | refine qb ?_ | refine qc ?_ _)); exact BK118.out)) : gb118 ≠ gb131))
                     have n17_ := qA ((by rw [hg]; exact Nat.ne_of_gt (blk_lt (g := gb118) (o := .cells #[.slice Ao17 t112.length co17, .slice Ao22 t115.length co22] 25 (0, 0)) (by (with_reducible repeat (first | refine qa ?_ _ | refine qb ?_ | refine qc ?_ _)); exact BK118.out)) : gb131 ≠ gb118))
                     clear HO114
                     clear HO117
                     clear BK109
                     clear BK110
                     clear BK111
                     clear BK118
                     clear HB
                     have HO114 := n0_
                     have HO117 := n1_
                     have BK109 := n2_
                     have BK110 := n3_
                     have BK111 := n4_
                     have BK118 := n5_
                     have HB := n6_
                     have BK131 := n7_
                     have GW131 := n8_
                     have GE131 := n9_
                     have NB109_131 := n10_
                     have NB131_109 := n11_
                     have NB110_131 := n12_
                     have NB131_110 := n13_
                     have NB111_131 := n14_
                     have NB131_111 := n15_
                     have NB118_131 := n16_
                     have NB131_118 := n17_
                     clear n0_ n1_ n2_ n3_ n4_ n5_ n6_ n7_ n8_ n9_ n10_ n11_ n12_ n13_ n14_ n15_ n16_ n17_
                     clear hb hbox hg
                     refine hK.out _ _ ⟨(qd BK118.out 0).trans rfl, (qd BK118.out 1).trans rfl⟩ (fun hHeld => ?_)
                     clear hK K
                     refine norm_ (a' := ?_) ?_ ?_
                     rotate_left
                     ·show Act.put _ (some 5) _ = _
                      simp only [Act.put, qx, qy, qz, i64_w, i32_w]
                      rfl
                     exact norm_ (by first | (simp only [putAll, Act.put, qx, qy, qz]; done) | (simp only [putAll, Act.put, qx, qy, qz]; rfl)) (hJ13 (gb131) _ ⟨hHeld, (by (with_reducible repeat (first | apply qm | apply qn | apply qo)); exact HO114.out), (by (with_reducible repeat (first | apply qm | apply qn | apply qo)); exact HO117.out), (by (with_reducible repeat (first | refine qa ?_ _ | refine qb ?_ | refine qc ?_ _)); exact BK109.out), (by (with_reducible repeat (first | refine qa ?_ _ | refine qb ?_ | refine qc ?_ _)); exact BK110.out), (by (with_reducible repeat (first | refine qa ?_ _ | refine qb ?_ | refine qc ?_ _)); exact BK111.out), (by (with_reducible repeat (first | refine qa ?_ _ | refine qb ?_ | refine qc ?_ _)); exact BK118.out), (by (with_reducible repeat (first | refine qa ?_ _ | refine qb ?_ | refine qc ?_ _)); exact BK131.out), GW131.out, GE131.out, NB109_131.out, NB131_109.out, NB110_131.out, NB131_110.out, NB111_131.out, NB131_111.out, NB118_131.out, NB131_118.out, (by repeat (first | (with_reducible first | exact HB.out | apply qh | apply qj | apply qi | refine qg ?_ GE109.out | refine qg ?_ GE110.out | refine qg ?_ GE111.out | refine qg ?_ GE118.out | refine qg ?_ GE131.out) | exact HB.out))⟩)
                   ·skip
                    rintro gb131 w26 ⟨hS_, h0_, h1_, h2_, h3_, h4_, h5_, h6_, h7_, h8_, h9_, h10_, h11_, h12_, h13_, h14_, h15_, h16_, h17_⟩
                    have n0_ : Aside0 (Kd.R k42 42 w26 w.heap.size (fun k_ => (w.heap.size ≤ k_)) (.slice Ao17 t112.length co17) t112) := ⟨h0_⟩
                    have n1_ : Aside0 (Kd.R k47 47 w26 w.heap.size (fun k_ => (w.heap.size ≤ k_)) (.slice Ao22 t115.length co22) t115) := ⟨h1_⟩
                    have n2_ : Aside0 (w26.heap[gb109]? = some (.cells #[.slice A0_0 l0_0.length c0_0, .slice A0_1 l0_1.length c0_1] 25 (0, 0))) := ⟨h2_⟩
                    have n3_ : Aside0 (w26.heap[gb110]? = some (.cells #[.slice none 0 0, .slice none 0 0] 25 (0, 0))) := ⟨h3_⟩
                    have n4_ : Aside0 (w26.heap[gb111]? = some (.cells #[.slice none 0 0, .slice none 0 0, .slice none 0 0, .slice none 0 0] 30 (0, 0))) := ⟨h4_⟩
                    have n5_ : Aside0 (w26.heap[gb118]? = some (.cells #[.slice Ao17 t112.length co17, .slice Ao22 t115.length co22] 25 (0, 0))) := ⟨h5_⟩
                    have n6_ : Aside0 (w26.heap[gb131]? = some (.cells #[.slice none 0 0, .slice none 0 0, .slice none 0 0, .slice none 0 0] 30 (0, 0))) := ⟨h6_⟩
                    have n7_ : Aside0 (w.heap.size ≤ gb131) := ⟨h7_⟩
                    have n8_ : Aside0 (w.heap.size ≤ gb131) := ⟨h8_⟩
                    have n9_ : Aside0 (gb109 ≠ gb131) := ⟨h9_⟩
                    have n10_ : Aside0 (gb131 ≠ gb109) := ⟨h10_⟩
                    have n11_ : Aside0 (gb110 ≠ gb131) := ⟨h11_⟩
                    have n12_ : Aside0 (gb131 ≠ gb110) := ⟨h12_⟩
                    have n13_ : Aside0 (gb111 ≠ gb131) := ⟨h13_⟩
                    have n14_ : Aside0 (gb131 ≠ gb111) := ⟨h14_⟩
                    have n15_ : Aside0 (gb118 ≠ gb131) := ⟨h15_⟩
                    have n16_ : Aside0 (gb131 ≠ gb118) := ⟨h16_⟩
                    have n17_ : Aside0 (Below w.heap.size w w26) := ⟨h17_⟩
                    clear HO114
                    clear HO117
                    clear BK109
                    clear BK110
                    clear BK111
                    clear BK118
                    clear HB
                    clear h0_ h1_ h2_ h3_ h4_ h5_ h6_ h7_ h8_ h9_ h10_ h11_ h12_ h13_ h14_ h15_ h16_ h17_
                    have HO114 := n0_
                    have HO117 := n1_
                    have BK109 := n2_
                    have BK110 := n3_
                    have BK111 := n4_
                    have BK118 := n5_
                    have BK131 := n6_
                    have GW131 := n7_
                    have GE131 := n8_
                    have NB109_131 := n9_
                    have NB131_109 := n10_
                    have NB110_131 := n11_
                    have NB131_110 := n12_
                    have NB111_131 := n13_
                    have NB131_111 := n14_
                    have NB118_131 := n15_
                    have NB131_118 := n16_
                    have HB := n17_
                    clear n0_ n1_ n2_ n3_ n4_ n5_ n6_ n7_ n8_ n9_ n10_ n11_ n12_ n13_ n14_ n15_ n16_ n17_
                    have hHeld : w26.cell? ⟨gb118, 0, none⟩ = some (.slice Ao17 t112.length co17) ∧ w26.cell? ⟨gb118, 1, none⟩ = some (.slice Ao22 t115.length co22) := hS_
                    refine norm_ (a' := ?_) ?_ ?_
                    rotate_left
                    ·simp only [putAll, Act.put, qx, qy, qz]
                     rfl
                    refine two_ (i := 4) (j := 10) (Ni := some 12) (Nj := some 18) #[true, true, true, true, true, false, true, true, true, true, false, false, false, true, false] #[true, true, true, true, false, false, true, true, true, true, true, false, false, true, false] rfl rfl rfl rfl (two_of HT_.out (by kernel_rfl)) (by decide) (by decide) (fun K hK => ?_) (fun K hK => ?_)
                    ·skip
                     refine Kd.R_lit_step k42 _ 42 ?hg (N := 12) ?hd (xs := ([(⟨(⟨#[]⟩ : ByteArray), 0, 77, 0, 0⟩ : S42), (⟨(⟨#[]⟩ : ByteArray), 0, 77, 0, 0⟩ : S42)] : List (S42))) (inner := [.string (⟨#[]⟩ : ByteArray), .int .i64 0, .int .i64 77, .int .i64 0, .int .i64 0, .string (⟨#[]⟩ : ByteArray), .int .i64 0, .int .i64 77, .int .i64 0, .int .i64 0]) (ok := fun _ => True) (okp := fun _ => True) ?hr ?hp (fun _ hk => hk) trivial (Below.refl _ _) (Nat.le_refl _) (by simp) ?_; (case hd => rfl); (case hg => rfl); (case hr => first | (go_simp; done) | (go_simp; rfl)); (case hp => exact (Reps.c5 (show Kd.M k42 _ _ _ (⟨(⟨#[]⟩ : ByteArray), 0, 77, 0, 0⟩ : S42) [.string (⟨#[]⟩ : ByteArray), .int .i64 0, .int .i64 77, .int .i64 0, .int .i64 0] from (k42_mkM _ _ _ (⟨(⟨#[]⟩ : ByteArray), 0, 77, 0, 0⟩ : S42) )) (Reps.c5 (show Kd.M k42 _ _ _ (⟨(⟨#[]⟩ : ByteArray), 0, 77, 0, 0⟩ : S42) [.string (⟨#[]⟩ : ByteArray), .int .i64 0, .int .i64 77, .int .i64 0, .int .i64 0] from (k42_mkM _ _ _ (⟨(⟨#[]⟩ : ByteArray), 0, 77, 0, 0⟩ : S42) )) (Reps.none _ _))))
                     intro v120 w27 ho28 hb hg_ hnew_
                     clear hg_ hnew_
                     (first | rw [← Ny119.out] at ho28 | (simp only [Int.reduceToNat] at ho28; rw [← Ny119.out] at ho28))
                     have n0_ := qA (Kd.R_elder' (by (with_reducible repeat (first | apply qm | apply qn | apply qo)); exact HO114.out) (Kd.R_base ho28) hb)
                     have n1_ := qA (Kd.R_below (by (with_reducible repeat (first | apply qm | apply qn | apply qo)); exact HO117.out) hb)
                     have n2_ := qA (Kd.R_lower (Kd.R_new' (Kd.R_newM (M := fun k_ => (w.heap.size ≤ k_)) ho28 (ql (by repeat (first | (with_reducible first | exact HB.out | apply qh | apply qj | apply qi | refine qg ?_ GE109.out | refine qg ?_ GE110.out | refine qg ?_ GE111.out | refine qg ?_ GE118.out | refine qg ?_ GE131.out) | exact HB.out))) (fun k_ h_ => h_)) (Kd.R_lt (by (with_reducible repeat (first | apply qm | apply qn | apply qo)); exact HO114.out))) (ql (by repeat (first | (with_reducible first | exact HB.out | apply qh | apply qj | apply qi | refine qg ?_ GE109.out | refine qg ?_ GE110.out | refine qg ?_ GE111.out | refine qg ?_ GE118.out | refine qg ?_ GE131.out) | exact HB.out))))
                     have n3_ := qA (qf (g := gb109) (o := .cells #[.slice A0_0 l0_0.length c0_0, .slice A0_1 l0_1.length c0_1] 25 (0, 0)) (by (with_reducible repeat (first | refine qa ?_ _ | refine qb ?_ | refine qc ?_ _)); exact BK109.out) hb)
                     have n4_ := qA (qf (g := gb110) (o := .cells #[.slice none 0 0, .slice none 0 0] 25 (0, 0)) (by (with_reducible repeat (first | refine qa ?_ _ | refine qb ?_ | refine qc ?_ _)); exact BK110.out) hb)
                     have n5_ := qA (qf (g := gb111) (o := .cells #[.slice none 0 0, .slice none 0 0, .slice none 0 0, .slice none 0 0] 30 (0, 0)) (by (with_reducible repeat (first | refine qa ?_ _ | refine qb ?_ | refine qc ?_ _)); exact BK111.out) hb)
                     have n6_ := qA (qf (g := gb118) (o := .cells #[.slice Ao17 t112.length co17, .slice Ao22 t115.length co22] 25 (0, 0)) (by (with_reducible repeat (first | refine qa ?_ _ | refine qb ?_ | refine qc ?_ _)); exact BK118.out) hb)
                     have n7_ := qA (qf (g := gb131) (o := .cells #[.slice none 0 0, .slice none 0 0, .slice none 0 0, .slice none 0 0] 30 (0, 0)) (by (with_reducible repeat (first | refine qa ?_ _ | refine qb ?_ | refine qc ?_ _)); exact BK131.out) hb)
                     have n8_ := qA (qk (by repeat (first | (with_reducible first | exact HB.out | apply qh | apply qj | apply qi | refine qg ?_ GE109.out | refine qg ?_ GE110.out | refine qg ?_ GE111.out | refine qg ?_ GE118.out | refine qg ?_ GE131.out) | exact HB.out)) hb)
                     clear HO114
                     clear HO117
                     clear BK109
                     clear BK110
                     clear BK111
                     clear BK118
                     clear BK131
                     clear HB
                     have HO114 := n0_
                     have HO117 := n1_
                     have HO121 := n2_
                     have BK109 := n3_
                     have BK110 := n4_
                     have BK111 := n5_
                     have BK118 := n6_
                     have BK131 := n7_
                     have HB := n8_
                     clear n0_ n1_ n2_ n3_ n4_ n5_ n6_ n7_ n8_
                     clear hb ho28
                     refine hK.out _ _ ⟨(qd BK118.out 0).trans rfl, (qd BK118.out 1).trans rfl⟩ (fun hHeld => ?_)
                     clear hK K
                     refine norm_ (a' := ?_) ?_ ?_
                     rotate_left
                     ·show Act.put _ (some 12) _ = _
                      simp only [Act.put, qx, qy, qz, i64_w, i32_w]
                      rfl
                     exact norm_ (by first | (simp only [putAll, Act.put, qx, qy, qz]; done) | (simp only [putAll, Act.put, qx, qy, qz]; rfl)) (hJ4_13 (v120, gb131) _ ⟨hHeld, (by (with_reducible repeat (first | apply qm | apply qn | apply qo)); exact HO114.out), (by (with_reducible repeat (first | apply qm | apply qn | apply qo)); exact HO117.out), (by (with_reducible repeat (first | apply qm | apply qn | apply qo)); exact qp HO121.out (fun _ hk => ⟨hk.1.1, hk.2⟩)), (by (with_reducible repeat (first | refine qa ?_ _ | refine qb ?_ | refine qc ?_ _)); exact BK109.out), (by (with_reducible repeat (first | refine qa ?_ _ | refine qb ?_ | refine qc ?_ _)); exact BK110.out), (by (with_reducible repeat (first | refine qa ?_ _ | refine qb ?_ | refine qc ?_ _)); exact BK111.out), (by (with_reducible repeat (first | refine qa ?_ _ | refine qb ?_ | refine qc ?_ _)); exact BK118.out), (by (with_reducible repeat (first | refine qa ?_ _ | refine qb ?_ | refine qc ?_ _)); exact BK131.out), GW131.out, GE131.out, NB109_131.out, NB131_109.out, NB110_131.out, NB131_110.out, NB111_131.out, NB131_111.out, NB118_131.out, NB131_118.out, (by repeat (first | (with_reducible first | exact HB.out | apply qh | apply qj | apply qi | refine qg ?_ GE109.out | refine qg ?_ GE110.out | refine qg ?_ GE111.out | refine qg ?_ GE118.out | refine qg ?_ GE131.out) | exact HB.out))⟩)
                    ·skip
                     refine Kd.R_lit_step k47 _ 47 ?hg (N := 18) ?hd (xs := ([(⟨0, 0, 77, 0⟩ : S47), (⟨0, 0, 77, 0⟩ : S47)] : List (S47))) (inner := [.int .i64 0, .int .i64 0, .int .i64 77, .int .i64 0, .int .i64 0, .int .i64 0, .int .i64 77, .int .i64 0]) (ok := fun _ => True) (okp := fun _ => True) ?hr ?hp (fun _ hk => hk) trivial (Below.refl _ _) (Nat.le_refl _) (by simp) ?_; (case hd => rfl); (case hg => rfl); (case hr => first | (go_simp; done) | (go_simp; rfl)); (case hp => exact (Reps.c4 (show Kd.M k47 _ _ _ (⟨0, 0, 77, 0⟩ : S47) [.int .i64 0, .int .i64 0, .int .i64 77, .int .i64 0] from (k47_mkM _ _ _ (⟨0, 0, 77, 0⟩ : S47) )) (Reps.c4 (show Kd.M k47 _ _ _ (⟨0, 0, 77, 0⟩ : S47) [.int .i64 0, .int .i64 0, .int .i64 77, .int .i64 0] from (k47_mkM _ _ _ (⟨0, 0, 77, 0⟩ : S47) )) (Reps.none _ _))))
                     intro v126 w27 ho28 hb hg_ hnew_
                     clear hg_ hnew_
                     (first | rw [← Ny125.out] at ho28 | (simp only [Int.reduceToNat] at ho28; rw [← Ny125.out] at ho28))
                     have n0_ := qA (Kd.R_below (by (with_reducible repeat (first | apply qm | apply qn | apply qo)); exact HO114.out) hb)
                     have n1_ := qA (Kd.R_elder' (by (with_reducible repeat (first | apply qm | apply qn | apply qo)); exact HO117.out) (Kd.R_base ho28) hb)
                     have n2_ := qA (Kd.R_lower (Kd.R_new' (Kd.R_newM (M := fun k_ => (w.heap.size ≤ k_)) ho28 (ql (by repeat (first | (with_reducible first | exact HB.out | apply qh | apply qj | apply qi | refine qg ?_ GE109.out | refine qg ?_ GE110.out | refine qg ?_ GE111.out | refine qg ?_ GE118.out | refine qg ?_ GE131.out) | exact HB.out))) (fun k_ h_ => h_)) (Kd.R_lt (by (with_reducible repeat (first | apply qm | apply qn | apply qo)); exact HO117.out))) (ql (by repeat (first | (with_reducible first | exact HB.out | apply qh | apply qj | apply qi | refine qg ?_ GE109.out | refine qg ?_ GE110.out | refine qg ?_ GE111.out | refine qg ?_ GE118.out | refine qg ?_ GE131.out) | exact HB.out))))
                     have n3_ := qA (qf (g := gb109) (o := .cells #[.slice A0_0 l0_0.length c0_0, .slice A0_1 l0_1.length c0_1] 25 (0, 0)) (by (with_reducible repeat (first | refine qa ?_ _ | refine qb ?_ | refine qc ?_ _)); exact BK109.out) hb)
                     have n4_ := qA (qf (g := gb110) (o := .cells #[.slice none 0 0, .slice none 0 0] 25 (0, 0)) (by (with_reducible repeat (first | refine qa ?_ _ | refine qb ?_ | refine qc ?_ _)); exact BK110.out) hb)
                     have n5_ := qA (qf (g := gb111) (o := .cells #[.slice none 0 0, .slice none 0 0, .slice none 0 0, .slice none 0 0] 30 (0, 0)) (by (with_reducible repeat (first | refine qa ?_ _ | refine qb ?_ | refine qc ?_ _)); exact BK111.out) hb)
                     have n6_ := qA (qf (g := gb118) (o := .cells #[.slice Ao17 t112.length co17, .slice Ao22 t115.length co22] 25 (0, 0)) (by (with_reducible repeat (first | refine qa ?_ _ | refine qb ?_ | refine qc ?_ _)); exact BK118.out) hb)
                     have n7_ := qA (qf (g := gb131) (o := .cells #[.slice none 0 0, .slice none 0 0, .slice none 0 0, .slice none 0 0] 30 (0, 0)) (by (with_reducible repeat (first | refine qa ?_ _ | refine qb ?_ | refine qc ?_ _)); exact BK131.out) hb)
                     have n8_ := qA (qk (by repeat (first | (with_reducible first | exact HB.out | apply qh | apply qj | apply qi | refine qg ?_ GE109.out | refine qg ?_ GE110.out | refine qg ?_ GE111.out | refine qg ?_ GE118.out | refine qg ?_ GE131.out) | exact HB.out)) hb)
                     clear HO114
                     clear HO117
                     clear BK109
                     clear BK110
                     clear BK111
                     clear BK118
                     clear BK131
                     clear HB
                     have HO114 := n0_
                     have HO117 := n1_
                     have HO127 := n2_
                     have BK109 := n3_
                     have BK110 := n4_
                     have BK111 := n5_
                     have BK118 := n6_
                     have BK131 := n7_
                     have HB := n8_
                     clear n0_ n1_ n2_ n3_ n4_ n5_ n6_ n7_ n8_
                     clear hb ho28
                     refine hK.out _ _ ⟨(qd BK118.out 0).trans rfl, (qd BK118.out 1).trans rfl⟩ (fun hHeld => ?_)
                     clear hK K
                     refine norm_ (a' := ?_) ?_ ?_
                     rotate_left
                     ·show Act.put _ (some 18) _ = _
                      simp only [Act.put, qx, qy, qz, i64_w, i32_w]
                      rfl
                     exact norm_ (by first | (simp only [putAll, Act.put, qx, qy, qz]; done) | (simp only [putAll, Act.put, qx, qy, qz]; rfl)) (hJ10_13 (v126, gb131) _ ⟨hHeld, (by (with_reducible repeat (first | apply qm | apply qn | apply qo)); exact HO114.out), (by (with_reducible repeat (first | apply qm | apply qn | apply qo)); exact HO117.out), (by (with_reducible repeat (first | apply qm | apply qn | apply qo)); exact qp HO127.out (fun _ hk => ⟨hk.1.1, hk.2⟩)), (by (with_reducible repeat (first | refine qa ?_ _ | refine qb ?_ | refine qc ?_ _)); exact BK109.out), (by (with_reducible repeat (first | refine qa ?_ _ | refine qb ?_ | refine qc ?_ _)); exact BK110.out), (by (with_reducible repeat (first | refine qa ?_ _ | refine qb ?_ | refine qc ?_ _)); exact BK111.out), (by (with_reducible repeat (first | refine qa ?_ _ | refine qb ?_ | refine qc ?_ _)); exact BK118.out), (by (with_reducible repeat (first | refine qa ?_ _ | refine qb ?_ | refine qc ?_ _)); exact BK131.out), GW131.out, GE131.out, NB109_131.out, NB131_109.out, NB110_131.out, NB131_110.out, NB111_131.out, NB131_111.out, NB118_131.out, NB131_118.out, (by repeat (first | (with_reducible first | exact HB.out | apply qh | apply qj | apply qi | refine qg ?_ GE109.out | refine qg ?_ GE110.out | refine qg ?_ GE111.out | refine qg ?_ GE118.out | refine qg ?_ GE131.out) | exact HB.out))⟩)
                  ·skip
                   rintro v126 w27 ⟨hS_, h0_, h1_, h2_, h3_, h4_, h5_, h6_, h7_⟩
                   have n0_ : Aside0 (Kd.R k42 42 w27 w.heap.size (fun k_ => (w.heap.size ≤ k_)) (.slice Ao17 t112.length co17) t112) := ⟨h0_⟩
                   have n1_ : Aside0 (Kd.R k47 47 w27 w.heap.size (fun k_ => (w.heap.size ≤ k_) ∧ some k_ ≠ (v126 : Value).ownBlock) (.slice Ao22 t115.length co22) t115) := ⟨h1_⟩
                   have n2_ : Aside0 (Kd.R k47 47 w27 w.heap.size (fun k_ => (w.heap.size ≤ k_) ∧ some k_ ≠ (.slice Ao22 t115.length co22 : Value).ownBlock) v126 y125) := ⟨h2_⟩
                   have n3_ : Aside0 (w27.heap[gb109]? = some (.cells #[.slice A0_0 l0_0.length c0_0, .slice A0_1 l0_1.length c0_1] 25 (0, 0))) := ⟨h3_⟩
                   have n4_ : Aside0 (w27.heap[gb110]? = some (.cells #[.slice none 0 0, .slice none 0 0] 25 (0, 0))) := ⟨h4_⟩
                   have n5_ : Aside0 (w27.heap[gb111]? = some (.cells #[.slice none 0 0, .slice none 0 0, .slice none 0 0, .slice none 0 0] 30 (0, 0))) := ⟨h5_⟩
                   have n6_ : Aside0 (w27.heap[gb118]? = some (.cells #[.slice Ao17 t112.length co17, .slice Ao22 t115.length co22] 25 (0, 0))) := ⟨h6_⟩
                   have n7_ : Aside0 (Below w.heap.size w w27) := ⟨h7_⟩
                   clear HO114
                   clear HO117
                   clear BK109
                   clear BK110
                   clear BK111
                   clear BK118
                   clear HB
                   clear h0_ h1_ h2_ h3_ h4_ h5_ h6_ h7_
                   have HO114 := n0_
                   have HO117 := n1_
                   have HO127 := n2_
                   have BK109 := n3_
                   have BK110 := n4_
                   have BK111 := n5_
                   have BK118 := n6_
                   have HB := n7_
                   clear n0_ n1_ n2_ n3_ n4_ n5_ n6_ n7_
                   have hHeld : w27.cell? ⟨gb118, 0, none⟩ = some (.slice Ao17 t112.length co17) ∧ w27.cell? ⟨gb118, 1, none⟩ = some (.slice Ao22 t115.length co22) := hS_
                   refine norm_ (a' := ?_) ?_ ?_
                   rotate_left
                   ·simp only [putAll, Act.put, qx, qy, qz]
                    rfl
                   refine two_ (i := 4) (j := 13) (Ni := some 12) (Nj := some 5) #[true, true, true, true, true, false, true, true, true, true, true, false, false, false, false] #[true, true, true, true, false, false, true, true, true, true, true, false, false, true, false] rfl rfl rfl rfl (two_of HT_.out (by kernel_rfl)) (by decide) (by decide) (fun K hK => ?_) (fun K hK => ?_)
                   ·skip
                    refine Kd.R_lit_step k42 _ 42 ?hg (N := 12) ?hd (xs := ([(⟨(⟨#[]⟩ : ByteArray), 0, 77, 0, 0⟩ : S42), (⟨(⟨#[]⟩ : ByteArray), 0, 77, 0, 0⟩ : S42)] : List (S42))) (inner := [.string (⟨#[]⟩ : ByteArray), .int .i64 0, .int .i64 77, .int .i64 0, .int .i64 0, .string (⟨#[]⟩ : ByteArray), .int .i64 0, .int .i64 77, .int .i64 0, .int .i64 0]) (ok := fun _ => True) (okp := fun _ => True) ?hr ?hp (fun _ hk => hk) trivial (Below.refl _ _) (Nat.le_refl _) (by simp) ?_; (case hd => rfl); (case hg => rfl); (case hr => first | (go_simp; done) | (go_simp; rfl)); (case hp => exact (Reps.c5 (show Kd.M k42 _ _ _ (⟨(⟨#[]⟩ : ByteArray), 0, 77, 0, 0⟩ : S42) [.string (⟨#[]⟩ : ByteArray), .int .i64 0, .int .i64 77, .int .i64 0, .int .i64 0] from (k42_mkM _ _ _ (⟨(⟨#[]⟩ : ByteArray), 0, 77, 0, 0⟩ : S42) )) (Reps.c5 (show Kd.M k42 _ _ _ (⟨(⟨#[]⟩ : ByteArray), 0, 77, 0, 0⟩ : S42) [.string (⟨#[]⟩ : ByteArray), .int .i64 0, .int .i64 77, .int .i64 0, .int .i64 0] from (k42_mkM _ _ _ (⟨(⟨#[]⟩ : ByteArray), 0, 77, 0, 0⟩ : S42) )) (Reps.none _ _))))
                    intro v120 w28 ho29 hb hg_ hnew_
                    clear hg_ hnew_
                    (first | rw [← Ny119.out] at ho29 | (simp only [Int.reduceToNat] at ho29; rw [← Ny119.out] at ho29))
                    have n0_ := qA (Kd.R_elder' (by (with_reducible repeat (first | apply qm | apply qn | apply qo)); exact HO114.out) (Kd.R_base ho29) hb)
                    have n1_ := qA (Kd.R_below (by (with_reducible repeat (first | apply qm | apply qn | apply qo)); exact HO117.out) hb)
                    have n2_ := qA (Kd.R_below (by (with_reducible repeat (first | apply qm | apply qn | apply qo)); exact HO127.out) hb)
                    have n3_ := qA (Kd.R_lower (Kd.R_new' (Kd.R_newM (M := fun k_ => (w.heap.size ≤ k_)) ho29 (ql (by repeat (first | (with_reducible first | exact HB.out | apply qh | apply qj | apply qi | refine qg ?_ GE109.out | refine qg ?_ GE110.out | refine qg ?_ GE111.out | refine qg ?_ GE118.out) | exact HB.out))) (fun k_ h_ => h_)) (Kd.R_lt (by (with_reducible repeat (first | apply qm | apply qn | apply qo)); exact HO114.out))) (ql (by repeat (first | (with_reducible first | exact HB.out | apply qh | apply qj | apply qi | refine qg ?_ GE109.out | refine qg ?_ GE110.out | refine qg ?_ GE111.out | refine qg ?_ GE118.out) | exact HB.out))))
                    have n4_ := qA (qf (g := gb109) (o := .cells #[.slice A0_0 l0_0.length c0_0, .slice A0_1 l0_1.length c0_1] 25 (0, 0)) (by (with_reducible repeat (first | refine qa ?_ _ | refine qb ?_ | refine qc ?_ _)); exact BK109.out) hb)
                    have n5_ := qA (qf (g := gb110) (o := .cells #[.slice none 0 0, .slice none 0 0] 25 (0, 0)) (by (with_reducible repeat (first | refine qa ?_ _ | refine qb ?_ | refine qc ?_ _)); exact BK110.out) hb)
                    have n6_ := qA (qf (g := gb111) (o := .cells #[.slice none 0 0, .slice none 0 0, .slice none 0 0, .slice none 0 0] 30 (0, 0)) (by (with_reducible repeat (first | refine qa ?_ _ | refine qb ?_ | refine qc ?_ _)); exact BK111.out) hb)
                    have n7_ := qA (qf (g := gb118) (o := .cells #[.slice Ao17 t112.length co17, .slice Ao22 t115.length co22] 25 (0, 0)) (by (with_reducible repeat (first | refine qa ?_ _ | refine qb ?_ | refine qc ?_ _)); exact BK118.out) hb)
                    have n8_ := qA (qk (by repeat (first | (with_reducible first | exact HB.out | apply qh | apply qj | apply qi | refine qg ?_ GE109.out | refine qg ?_ GE110.out | refine qg ?_ GE111.out | refine qg ?_ GE118.out) | exact HB.out)) hb)
                    clear HO114
                    clear HO117
                    clear HO127
                    clear BK109
                    clear BK110
                    clear BK111
                    clear BK118
                    clear HB
                    have HO114 := n0_
                    have HO117 := n1_
                    have HO127 := n2_
                    have HO121 := n3_
                    have BK109 := n4_
                    have BK110 := n5_
                    have BK111 := n6_
                    have BK118 := n7_
                    have HB := n8_
                    clear n0_ n1_ n2_ n3_ n4_ n5_ n6_ n7_ n8_
                    clear hb ho29
                    refine hK.out _ _ ⟨(qd BK118.out 0).trans rfl, (qd BK118.out 1).trans rfl⟩ (fun hHeld => ?_)
                    clear hK K
                    refine norm_ (a' := ?_) ?_ ?_
                    rotate_left
                    ·show Act.put _ (some 12) _ = _
                     simp only [Act.put, qx, qy, qz, i64_w, i32_w]
                     rfl
                    exact norm_ (by first | (simp only [putAll, Act.put, qx, qy, qz]; done) | (simp only [putAll, Act.put, qx, qy, qz]; rfl)) (hJ4_10 (v120, v126) _ ⟨hHeld, (by (with_reducible repeat (first | apply qm | apply qn | apply qo)); exact HO114.out), (by (with_reducible repeat (first | apply qm | apply qn | apply qo)); exact HO117.out), (by (with_reducible repeat (first | apply qm | apply qn | apply qo)); exact qp HO121.out (fun _ hk => ⟨hk.1.1, hk.2⟩)), (by (with_reducible repeat (first | apply qm | apply qn | apply qo)); exact HO127.out), (by (with_reducible repeat (first | refine qa ?_ _ | refine qb ?_ | refine qc ?_ _)); exact BK109.out), (by (with_reducible repeat (first | refine qa ?_ _ | refine qb ?_ | refine qc ?_ _)); exact BK110.out), (by (with_reducible repeat (first | refine qa ?_ _ | refine qb ?_ | refine qc ?_ _)); exact BK111.out), (by (with_reducible repeat (first | refine qa ?_ _ | refine qb ?_ | refine qc ?_ _)); exact BK118.out), (by repeat (first | (with_reducible first | exact HB.out | apply qh | apply qj | apply qi | refine qg ?_ GE109.out | refine qg ?_ GE110.out | refine qg ?_ GE111.out | refine qg ?_ GE118.out) | exact HB.out))⟩)
                   ·skip
                    refine box_step ?hg (N := 5) ?hd (cs := #[.slice none 0 0, .slice none 0 0, .slice none 0 0, .slice none 0 0]) (t := 30) ?hr ?_; (case hd => rfl); (case hg => rfl); (case hr => first | (go_simp; done) | (go_simp; rfl))
                    intro gb131 hg w28 hbox hb
                    have n0_ := qA (Kd.R_below (by (with_reducible repeat (first | apply qm | apply qn | apply qo)); exact HO114.out) hb)
                    have n1_ := qA (Kd.R_below (by (with_reducible repeat (first | apply qm | apply qn | apply qo)); exact HO117.out) hb)
                    have n2_ := qA (Kd.R_below (by (with_reducible repeat (first | apply qm | apply qn | apply qo)); exact HO127.out) hb)
                    have n3_ := qA (qf (g := gb109) (o := .cells #[.slice A0_0 l0_0.length c0_0, .slice A0_1 l0_1.length c0_1] 25 (0, 0)) (by (with_reducible repeat (first | refine qa ?_ _ | refine qb ?_ | refine qc ?_ _)); exact BK109.out) hb)
                    have n4_ := qA (qf (g := gb110) (o := .cells #[.slice none 0 0, .slice none 0 0] 25 (0, 0)) (by (with_reducible repeat (first | refine qa ?_ _ | refine qb ?_ | refine qc ?_ _)); exact BK110.out) hb)
                    have n5_ := qA (qf (g := gb111) (o := .cells #[.slice none 0 0, .slice none 0 0, .slice none 0 0, .slice none 0 0] 30 (0, 0)) (by (with_reducible repeat (first | refine qa ?_ _ | refine qb ?_ | refine qc ?_ _)); exact BK111.out) hb)
                    have n6_ := qA (qf (g := gb118) (o := .cells #[.slice Ao17 t112.length co17, .slice Ao22 t115.length co22] 25 (0, 0)) (by (with_reducible repeat (first | refine qa ?_ _ | refine qb ?_ | refine qc ?_ _)); exact BK118.out) hb)
                    have n7_ := qA (qk (by repeat (first | (with_reducible first | exact HB.out | apply qh | apply qj | apply qi | refine qg ?_ GE109.out | refine qg ?_ GE110.out | refine qg ?_ GE111.out | refine qg ?_ GE118.out) | exact HB.out)) hb)
                    have n8_ := qA (hbox)
                    have n9_ := qA ((by rw [hg]; exact (ql (by repeat (first | (with_reducible first | exact HB.out | apply qh | apply qj | apply qi | refine qg ?_ GE109.out | refine qg ?_ GE110.out | refine qg ?_ GE111.out | refine qg ?_ GE118.out) | exact HB.out))) : w.heap.size ≤ gb131))
                    have n10_ := qA ((by rw [hg]; exact (ql (by repeat (first | (with_reducible first | exact HB.out | apply qh | apply qj | apply qi | refine qg ?_ GE109.out | refine qg ?_ GE110.out | refine qg ?_ GE111.out | refine qg ?_ GE118.out) | exact HB.out))) : w.heap.size ≤ gb131))
                    have n11_ := qA ((by rw [hg]; exact Nat.ne_of_lt (blk_lt (g := gb109) (o := .cells #[.slice A0_0 l0_0.length c0_0, .slice A0_1 l0_1.length c0_1] 25 (0, 0)) (by (with_reducible repeat (first | refine qa ?_ _ | refine qb ?_ | refine qc ?_ _)); exact BK109.out)) : gb109 ≠ gb131))
                    have n12_ := qA ((by rw [hg]; exact Nat.ne_of_gt (blk_lt (g := gb109) (o := .cells #[.slice A0_0 l0_0.length c0_0, .slice A0_1 l0_1.length c0_1] 25 (0, 0)) (by (with_reducible repeat (first | refine qa ?_ _ | refine qb ?_ | refine qc ?_ _)); exact BK109.out)) : gb131 ≠ gb109))
                    have n13_ := qA ((by rw [hg]; exact Nat.ne_of_lt (blk_lt (g := gb110) (o := .cells #[.slice none 0 0, .slice none 0 0] 25 (0, 0)) (by (with_reducible repeat (first | refine qa ?_ _ | refine qb ?_ | refine qc ?_ _)); exact BK110.out)) : gb110 ≠ gb131))
                    have n14_ := qA ((by rw [hg]; exact Nat.ne_of_gt (blk_lt (g := gb110) (o := .cells #[.slice none 0 0, .slice none 0 0] 25 (0, 0)) (by (with_reducible repeat (first | refine qa ?_ _ | refine qb ?_ | refine qc ?_ _)); exact BK110.out)) : gb131 ≠ gb110))
                    have n15_ := qA ((by rw [hg]; exact Nat.ne_of_lt (blk_lt (g := gb111) (o := .cells #[.slice none 0 0, .slice none 0 0, .slice none 0 0, .slice none 0 0] 30 (0, 0)) (by (with_reducible repeat (first | refine qa ?_ _ | refine qb ?_ | refine qc ?_ _)); exact BK111.out)) : gb111 ≠ gb131))
                    have n16_ := qA ((by rw [hg]; exact Nat.ne_of_gt (blk_lt (g := gb111) (o := .cells #[.slice none 0 0, .slice none 0 0, .slice none 0 0, .slice none 0 0] 30 (0, 0)) (by (with_reducible repeat (first | refine qa ?_ _ | refine qb ?_ | refine qc ?_ _)); exact BK111.out)) : gb131 ≠ gb111))
                    have n17_ := qA ((by rw [hg]; exact Nat.ne_of_lt (blk_lt (g := gb118) (o := .cells #[.slice Ao17 t112.length co17, .slice Ao22 t115.length co22] 25 (0, 0)) (by (with_reducible repeat (first | refine qa ?_ _ | refine qb ?_ | refine qc ?_ _)); exact BK118.out)) : gb118 ≠ gb131))
                    have n18_ := qA ((by rw [hg]; exact Nat.ne_of_gt (blk_lt (g := gb118) (o := .cells #[.slice Ao17 t112.length co17, .slice Ao22 t115.length co22] 25 (0, 0)) (by (with_reducible repeat (first | refine qa ?_ _ | refine qb ?_ | refine qc ?_ _)); exact BK118.out)) : gb131 ≠ gb118))
                    clear HO114
                    clear HO117
                    clear HO127
                    clear BK109
                    clear BK110
                    clear BK111
                    clear BK118
                    clear HB
                    have HO114 := n0_
                    have HO117 := n1_
                    have HO127 := n2_
                    have BK109 := n3_
                    have BK110 := n4_
                    have BK111 := n5_
                    have BK118 := n6_
                    have HB := n7_
                    have BK131 := n8_
                    have GW131 := n9_
                    have GE131 := n10_
                    have NB109_131 := n11_
                    have NB131_109 := n12_
                    have NB110_131 := n13_
                    have NB131_110 := n14_
                    have NB111_131 := n15_
                    have NB131_111 := n16_
                    have NB118_131 := n17_
                    have NB131_118 := n18_
                    clear n0_ n1_ n2_ n3_ n4_ n5_ n6_ n7_ n8_ n9_ n10_ n11_ n12_ n13_ n14_ n15_ n16_ n17_ n18_
                    clear hb hbox hg
                    refine hK.out _ _ ⟨(qd BK118.out 0).trans rfl, (qd BK118.out 1).trans rfl⟩ (fun hHeld => ?_)
                    clear hK K
                    refine norm_ (a' := ?_) ?_ ?_
                    rotate_left
                    ·show Act.put _ (some 5) _ = _
                     simp only [Act.put, qx, qy, qz, i64_w, i32_w]
                     rfl
                    exact norm_ (by first | (simp only [putAll, Act.put, qx, qy, qz]; done) | (simp only [putAll, Act.put, qx, qy, qz]; rfl)) (hJ10_13 (v126, gb131) _ ⟨hHeld, (by (with_reducible repeat (first | apply qm | apply qn | apply qo)); exact HO114.out), (by (with_reducible repeat (first | apply qm | apply qn | apply qo)); exact HO117.out), (by (with_reducible repeat (first | apply qm | apply qn | apply qo)); exact HO127.out), (by (with_reducible repeat (first | refine qa ?_ _ | refine qb ?_ | refine qc ?_ _)); exact BK109.out), (by (with_reducible repeat (first | refine qa ?_ _ | refine qb ?_ | refine qc ?_ _)); exact BK110.out), (by (with_reducible repeat (first | refine qa ?_ _ | refine qb ?_ | refine qc ?_ _)); exact BK111.out), (by (with_reducible repeat (first | refine qa ?_ _ | refine qb ?_ | refine qc ?_ _)); exact BK118.out), (by (with_reducible repeat (first | refine qa ?_ _ | refine qb ?_ | refine qc ?_ _)); exact BK131.out), GW131.out, GE131.out, NB109_131.out, NB131_109.out, NB110_131.out, NB131_110.out, NB111_131.out, NB131_111.out, NB118_131.out, NB131_118.out, (by repeat (first | (with_reducible first | exact HB.out | apply qh | apply qj | apply qi | refine qg ?_ GE109.out | refine qg ?_ GE110.out | refine qg ?_ GE111.out | refine qg ?_ GE118.out | refine qg ?_ GE131.out) | exact HB.out))⟩)
                 ·skip
                  rintro v120 w27 ⟨hS_, h0_, h1_, h2_, h3_, h4_, h5_, h6_, h7_⟩
                  have n0_ : Aside0 (Kd.R k42 42 w27 w.heap.size (fun k_ => (w.heap.size ≤ k_) ∧ some k_ ≠ (v120 : Value).ownBlock) (.slice Ao17 t112.length co17) t112) := ⟨h0_⟩
                  have n1_ : Aside0 (Kd.R k47 47 w27 w.heap.size (fun k_ => (w.heap.size ≤ k_)) (.slice Ao22 t115.length co22) t115) := ⟨h1_⟩
                  have n2_ : Aside0 (Kd.R k42 42 w27 w.heap.size (fun k_ => (w.heap.size ≤ k_) ∧ some k_ ≠ (.slice Ao17 t112.length co17 : Value).ownBlock) v120 y119) := ⟨h2_⟩
                  have n3_ : Aside0 (w27.heap[gb109]? = some (.cells #[.slice A0_0 l0_0.length c0_0, .slice A0_1 l0_1.length c0_1] 25 (0, 0))) := ⟨h3_⟩
                  have n4_ : Aside0 (w27.heap[gb110]? = some (.cells #[.slice none 0 0, .slice none 0 0] 25 (0, 0))) := ⟨h4_⟩
                  have n5_ : Aside0 (w27.heap[gb111]? = some (.cells #[.slice none 0 0, .slice none 0 0, .slice none 0 0, .slice none 0 0] 30 (0, 0))) := ⟨h5_⟩
                  have n6_ : Aside0 (w27.heap[gb118]? = some (.cells #[.slice Ao17 t112.length co17, .slice Ao22 t115.length co22] 25 (0, 0))) := ⟨h6_⟩
                  have n7_ : Aside0 (Below w.heap.size w w27) := ⟨h7_⟩
                  clear HO114
                  clear HO117
                  clear BK109
                  clear BK110
                  clear BK111
                  clear BK118
                  clear HB
                  clear h0_ h1_ h2_ h3_ h4_ h5_ h6_ h7_
                  have HO114 := n0_
                  have HO117 := n1_
                  have HO121 := n2_
                  have BK109 := n3_
                  have BK110 := n4_
                  have BK111 := n5_
                  have BK118 := n6_
                  have HB := n7_
                  clear n0_ n1_ n2_ n3_ n4_ n5_ n6_ n7_
                  have hHeld : w27.cell? ⟨gb118, 0, none⟩ = some (.slice Ao17 t112.length co17) ∧ w27.cell? ⟨gb118, 1, none⟩ = some (.slice Ao22 t115.length co22) := hS_
                  obtain ⟨Ao29, co29, eo29⟩ := Kd.R_slice HO121.out
                  (first | subst eo29 | (injection eo29 with f1_ f2_ f3_; have f4_ := f1_.symm; have f5_ := f3_.symm; clear f1_ f2_ f3_; subst f4_; subst f5_))
                  refine norm_ (a' := ?_) ?_ ?_
                  rotate_left
                  ·simp only [putAll, Act.put, qx, qy, qz]
                   rfl
                  refine three_ (i := 5) (j := 10) (k := 13) (Ni := some 13) (Nj := some 18) (Nk := some 5) #[true, true, true, true, true, true, true, true, true, true, false, false, false, false, false] #[true, true, true, true, true, false, true, true, true, true, true, false, false, false, false] #[true, true, true, true, true, false, true, true, true, true, false, false, false, true, false] rfl rfl rfl rfl rfl rfl (three_of HT_.out (by kernel_rfl)) (by decide) (by decide) (by decide) (fun K hK => ?_) (fun K hK => ?_) (fun K hK => ?_)
                  ·skip
                   refine Kd.R_append_rows_step k42 (w0 := w) w.heap.size (by rfl) (.tmp 9) (.tmp 12) 22 42 (.agg #[(.string ⟨#[]⟩), (.int .i64 0), (.int .i64 0), (.int .i64 0), (.int .i64 0)]) 48 rfl Tryd.underlying22 info42 rfl (by decide) (by omega) (.slice Ao17 t112.length co17) t112 y119 _ _ _ (fun k_ => (w.heap.size ≤ k_) ∧ some k_ ≠ (.slice Ao29 y119.length co29 : Value).ownBlock) (fun _ => False) rfl rfl ?aO ?aR (fun _ _ h => h) (fun _ h => h.elim) ?aF ?aB ?aS ?aL ?_
                   (case aR => repeat (first | exact (Kd.R_reads' HO121.out).2.2 | (with_reducible refine qu ?_ _) | (with_reducible refine qv ?_ _) | (with_reducible refine qw ?_)))
                   (case aB => exact (by repeat (first | (with_reducible first | exact HB.out | apply qh | apply qj | apply qi | refine qg ?_ GE109.out | refine qg ?_ GE110.out | refine qg ?_ GE111.out | refine qg ?_ GE118.out) | exact HB.out)))
                   (case aF => exact (fun k_ hk => ⟨(Nat.le_trans (ql (by repeat (first | (with_reducible first | exact HB.out | apply qh | apply qj | apply qi | refine qg ?_ GE109.out | refine qg ?_ GE110.out | refine qg ?_ GE111.out | refine qg ?_ GE118.out) | exact HB.out))) hk), Kd.fresh' (Kd.R_lt (by (with_reducible repeat (first | apply qm | apply qn | apply qo)); exact HO121.out)) k_ hk⟩))
                   (case aO => exact (by (with_reducible repeat (first | apply qm | apply qn | apply qo)); exact HO114.out))
                   (case aS => exact (ql (by repeat (first | (with_reducible first | exact HB.out | apply qh | apply qj | apply qi | refine qg ?_ GE109.out | refine qg ?_ GE110.out | refine qg ?_ GE111.out | refine qg ?_ GE118.out) | exact HB.out))))
                   (case aL => have := LMc3.out; omega)
                   intro v123 w28 ho hb hg hat
                   rw [← Ny122.out] at ho
                   have n0_ := qA (qe (g := gb109) (o := .cells #[.slice A0_0 l0_0.length c0_0, .slice A0_1 l0_1.length c0_1] 25 (0, 0)) (by (with_reducible repeat (first | refine qa ?_ _ | refine qb ?_ | refine qc ?_ _)); exact BK109.out) hg (Kd.R_ne HO114.out BK109.out (by decide)))
                   have n1_ := qA (qe (g := gb110) (o := .cells #[.slice none 0 0, .slice none 0 0] 25 (0, 0)) (by (with_reducible repeat (first | refine qa ?_ _ | refine qb ?_ | refine qc ?_ _)); exact BK110.out) hg (Kd.R_ne HO114.out BK110.out (by decide)))
                   have n2_ := qA (qe (g := gb111) (o := .cells #[.slice none 0 0, .slice none 0 0, .slice none 0 0, .slice none 0 0] 30 (0, 0)) (by (with_reducible repeat (first | refine qa ?_ _ | refine qb ?_ | refine qc ?_ _)); exact BK111.out) hg (Kd.R_ne HO114.out BK111.out (by decide)))
                   have n3_ := qA (Kd.R_over' (by (with_reducible repeat (first | apply qm | apply qn | apply qo)); exact HO117.out) (Kd.R_typed (by (with_reducible repeat (first | apply qm | apply qn | apply qo)); exact HO114.out)) (by decide) hg)
                   have n4_ := qA (qe (g := gb118) (o := .cells #[.slice Ao17 t112.length co17, .slice Ao22 t115.length co22] 25 (0, 0)) (by (with_reducible repeat (first | refine qa ?_ _ | refine qb ?_ | refine qc ?_ _)); exact BK118.out) hg (Kd.R_ne HO114.out BK118.out (by decide)))
                   have n5_ := qA (Kd.R_after (ok := (fun k_ => (w.heap.size ≤ k_))) (by (with_reducible repeat (first | apply qm | apply qn | apply qo)); exact HO121.out) hg hat)
                   have n6_ := qA (hb)
                   have n7_ := qA (ho)
                   clear BK109
                   clear BK110
                   clear BK111
                   clear HO117
                   clear BK118
                   clear HO121
                   clear HB
                   clear HO114
                   have BK109 := n0_
                   have BK110 := n1_
                   have BK111 := n2_
                   have HO117 := n3_
                   have BK118 := n4_
                   have HO121 := n5_
                   have HB := n6_
                   have HO124 := n7_
                   clear n0_ n1_ n2_ n3_ n4_ n5_ n6_ n7_
                   clear ho hb hg hat
                   refine hK.out _ _ ⟨(qd BK118.out 0).trans rfl, (qd BK118.out 1).trans rfl⟩ (fun hHeld => ?_)
                   clear hK K
                   refine norm_ (a' := ?_) ?_ ?_
                   rotate_left
                   ·show Act.put _ (some 13) _ = _
                    simp only [Act.put, qx, qy, qz, i64_w, i32_w]
                    rfl
                   exact norm_ (by first | (simp only [putAll, Act.put, qx, qy, qz]; done) | (simp only [putAll, Act.put, qx, qy, qz]; rfl)) (hJ4_5 (.slice Ao29 y119.length co29, v123) _ ⟨hHeld, (by (with_reducible repeat (first | apply qm | apply qn | apply qo)); exact HO117.out), (by (with_reducible repeat (first | apply qm | apply qn | apply qo)); exact HO121.out), (by (with_reducible repeat (first | apply qm | apply qn | apply qo)); exact HO124.out), (by (with_reducible repeat (first | refine qa ?_ _ | refine qb ?_ | refine qc ?_ _)); exact BK109.out), (by (with_reducible repeat (first | refine qa ?_ _ | refine qb ?_ | refine qc ?_ _)); exact BK110.out), (by (with_reducible repeat (first | refine qa ?_ _ | refine qb ?_ | refine qc ?_ _)); exact BK111.out), (by (with_reducible repeat (first | refine qa ?_ _ | refine qb ?_ | refine qc ?_ _)); exact BK118.out), (by repeat (first | (with_reducible first | exact HB.out | apply qh | apply qj | apply qi | refine qg ?_ GE109.out | refine qg ?_ GE110.out | refine qg ?_ GE111.out | refine qg ?_ GE118.out) | exact HB.out))⟩)
                  ·skip
                   refine Kd.R_lit_step k47 _ 47 ?hg (N := 18) ?hd (xs := ([(⟨0, 0, 77, 0⟩ : S47), (⟨0, 0, 77, 0⟩ : S47)] : List (S47))) (inner := [.int .i64 0, .int .i64 0, .int .i64 77, .int .i64 0, .int .i64 0, .int .i64 0, .int .i64 77, .int .i64 0]) (ok := fun _ => True) (okp := fun _ => True) ?hr ?hp (fun _ hk => hk) trivial (Below.refl _ _) (Nat.le_refl _) (by simp) ?_; (case hd => rfl); (case hg => rfl); (case hr => first | (go_simp; done) | (go_simp; rfl)); (case hp => exact (Reps.c4 (show Kd.M k47 _ _ _ (⟨0, 0, 77, 0⟩ : S47) [.int .i64 0, .int .i64 0, .int .i64 77, .int .i64 0] from (k47_mkM _ _ _ (⟨0, 0, 77, 0⟩ : S47) )) (Reps.c4 (show Kd.M k47 _ _ _ (⟨0, 0, 77, 0⟩ : S47) [.int .i64 0, .int .i64 0, .int .i64 77, .int .i64 0] from (k47_mkM _ _ _ (⟨0, 0, 77, 0⟩ : S47) )) (Reps.none _ _))))
                   intro v126 w28 ho29 hb hg_ hnew_
                   clear hg_ hnew_
                   (first | rw [← Ny125.out] at ho29 | (simp only [Int.reduceToNat] at ho29; rw [← Ny125.out] at ho29))
                   have n0_ := qA (Kd.R_below (by (with_reducible repeat (first | apply qm | apply qn | apply qo)); exact HO114.out) hb)
                   have n1_ := qA (Kd.R_elder' (by (with_reducible repeat (first | apply qm | apply qn | apply qo)); exact HO117.out) (Kd.R_base ho29) hb)
                   have n2_ := qA (Kd.R_below (by (with_reducible repeat (first | apply qm | apply qn | apply qo)); exact HO121.out) hb)
                   have n3_ := qA (Kd.R_lower (Kd.R_new' (Kd.R_newM (M := fun k_ => (w.heap.size ≤ k_)) ho29 (ql (by repeat (first | (with_reducible first | exact HB.out | apply qh | apply qj | apply qi | refine qg ?_ GE109.out | refine qg ?_ GE110.out | refine qg ?_ GE111.out | refine qg ?_ GE118.out) | exact HB.out))) (fun k_ h_ => h_)) (Kd.R_lt (by (with_reducible repeat (first | apply qm | apply qn | apply qo)); exact HO117.out))) (ql (by repeat (first | (with_reducible first | exact HB.out | apply qh | apply qj | apply qi | refine qg ?_ GE109.out | refine qg ?_ GE110.out | refine qg ?_ GE111.out | refine qg ?_ GE118.out) | exact HB.out))))
                   have n4_ := qA (qf (g := gb109) (o := .cells #[.slice A0_0 l0_0.length c0_0, .slice A0_1 l0_1.length c0_1] 25 (0, 0)) (by (with_reducible repeat (first | refine qa ?_ _ | refine qb ?_ | refine qc ?_ _)); exact BK109.out) hb)
                   have n5_ := qA (qf (g := gb110) (o := .cells #[.slice none 0 0, .slice none 0 0] 25 (0, 0)) (by (with_reducible repeat (first | refine qa ?_ _ | refine qb ?_ | refine qc ?_ _)); exact BK110.out) hb)
                   have n6_ := qA (qf (g := gb111) (o := .cells #[.slice none 0 0, .slice none 0 0, .slice none 0 0, .slice none 0 0] 30 (0, 0)) (by (with_reducible repeat (first | refine qa ?_ _ | refine qb ?_ | refine qc ?_ _)); exact BK111.out) hb)
                   have n7_ := qA (qf (g := gb118) (o := .cells #[.slice Ao17 t112.length co17, .slice Ao22 t115.length co22] 25 (0, 0)) (by (with_reducible repeat (first | refine qa ?_ _ | refine qb ?_ | refine qc ?_ _)); exact BK118.out) hb)
                   have n8_ := qA (qk (by repeat (first | (with_reducible first | exact HB.out | apply qh | apply qj | apply qi | refine qg ?_ GE109.out | refine qg ?_ GE110.out | refine qg ?_ GE111.out | refine qg ?_ GE118.out) | exact HB.out)) hb)
                   clear HO114
                   clear HO117
                   clear HO121
                   clear BK109
                   clear BK110
                   clear BK111
                   clear BK118
                   clear HB
                   have HO114 := n0_
                   have HO117 := n1_
                   have HO121 := n2_
                   have HO127 := n3_
                   have BK109 := n4_
                   have BK110 := n5_
                   have BK111 := n6_
                   have BK118 := n7_
                   have HB := n8_
                   clear n0_ n1_ n2_ n3_ n4_ n5_ n6_ n7_ n8_
                   clear hb ho29
                   refine hK.out _ _ ⟨(qd BK118.out 0).trans rfl, (qd BK118.out 1).trans rfl⟩ (fun hHeld => ?_)
                   clear hK K
                   refine norm_ (a' := ?_) ?_ ?_
                   rotate_left
                   ·show Act.put _ (some 18) _ = _
                    simp only [Act.put, qx, qy, qz, i64_w, i32_w]
                    rfl
                   exact norm_ (by first | (simp only [putAll, Act.put, qx, qy, qz]; done) | (simp only [putAll, Act.put, qx, qy, qz]; rfl)) (hJ4_10 (_, v126) _ ⟨hHeld, (by (with_reducible repeat (first | apply qm | apply qn | apply qo)); exact HO114.out), (by (with_reducible repeat (first | apply qm | apply qn | apply qo)); exact HO117.out), (by (with_reducible repeat (first | apply qm | apply qn | apply qo)); exact HO121.out), (by (with_reducible repeat (first | apply qm | apply qn | apply qo)); exact qp HO127.out (fun _ hk => ⟨hk.1.1, hk.2⟩)), (by (with_reducible repeat (first | refine qa ?_ _ | refine qb ?_ | refine qc ?_ _)); exact BK109.out), (by (with_reducible repeat (first | refine qa ?_ _ | refine qb ?_ | refine qc ?_ _)); exact BK110.out), (by (with_reducible repeat (first | refine qa ?_ _ | refine qb ?_ | refine qc ?_ _)); exact BK111.out), (by (with_reducible repeat (first | refine qa ?_ _ | refine qb ?_ | refine qc ?_ _)); exact BK118.out), (by repeat (first | (with_reducible first | exact HB.out | apply qh | apply qj | apply qi | refine qg ?_ GE109.out | refine qg ?_ GE110.out | refine qg ?_ GE111.out | refine qg ?_ GE118.out) | exact HB.out))⟩)
                  ·skip
                   refine box_step ?hg (N := 5) ?hd (cs := #[.slice none 0 0, .slice none 0 0, .slice none 0 0, .slice none 0 0]) (t := 30) ?hr ?_; (case hd => rfl); (case hg => rfl); (case hr => first | (go_simp; done) | (go_simp; rfl))
                   intro gb131 hg w28 hbox hb
                   have n0_ := qA (Kd.R_below (by (with_reducible repeat (first | apply qm | apply qn | apply qo)); exact HO114.out) hb)
                   have n1_ := qA (Kd.R_below (by (with_reducible repeat (first | apply qm | apply qn | apply qo)); exact HO117.out) hb)
                   have n2_ := qA (Kd.R_below (by (with_reducible repeat (first | apply qm | apply qn | apply qo)); exact HO121.out) hb)
                   have n3_ := qA (qf (g := gb109) (o := .cells #[.slice A0_0 l0_0.length c0_0, .slice A0_1 l0_1.length c0_1] 25 (0, 0)) (by (with_reducible repeat (first | refine qa ?_ _ | refine qb ?_ | refine qc ?_ _)); exact BK109.out) hb)
                   have n4_ := qA (qf (g := gb110) (o := .cells #[.slice none 0 0, .slice none 0 0] 25 (0, 0)) (by (with_reducible repeat (first | refine qa ?_ _ | refine qb ?_ | refine qc ?_ _)); exact BK110.out) hb)
                   have n5_ := qA (qf (g := gb111) (o := .cells #[.slice none 0 0, .slice none 0 0, .slice none 0 0, .slice none 0 0] 30 (0, 0)) (by (with_reducible repeat (first | refine qa ?_ _ | refine qb ?_ | refine qc ?_ _)); exact BK111.out) hb)
                   have n6_ := qA (qf (g := gb118) (o := .cells #[.slice Ao17 t112.length co17, .slice Ao22 t115.length co22] 25 (0, 0)) (by (with_reducible repeat (first | refine qa ?_ _ | refine qb ?_ | refine qc ?_ _)); exact BK118.out) hb)
                   have n7_ := qA (qk (by repeat (first | (with_reducible first | exact HB.out | apply qh | apply qj | apply qi | refine qg ?_ GE109.out | refine qg ?_ GE110.out | refine qg ?_ GE111.out | refine qg ?_ GE118.out) | exact HB.out)) hb)
                   have n8_ := qA (hbox)
                   have n9_ := qA ((by rw [hg]; exact (ql (by repeat (first | (with_reducible first | exact HB.out | apply qh | apply qj | apply qi | refine qg ?_ GE109.out | refine qg ?_ GE110.out | refine qg ?_ GE111.out | refine qg ?_ GE118.out) | exact HB.out))) : w.heap.size ≤ gb131))
                   have n10_ := qA ((by rw [hg]; exact (ql (by repeat (first | (with_reducible first | exact HB.out | apply qh | apply qj | apply qi | refine qg ?_ GE109.out | refine qg ?_ GE110.out | refine qg ?_ GE111.out | refine qg ?_ GE118.out) | exact HB.out))) : w.heap.size ≤ gb131))
                   have n11_ := qA ((by rw [hg]; exact Nat.ne_of_lt (blk_lt (g := gb109) (o := .cells #[.slice A0_0 l0_0.length c0_0, .slice A0_1 l0_1.length c0_1] 25 (0, 0)) (by (with_reducible repeat (first | refine qa ?_ _ | refine qb ?_ | refine qc ?_ _)); exact BK109.out)) : gb109 ≠ gb131))
                   have n12_ := qA ((by rw [hg]; exact Nat.ne_of_gt (blk_lt (g := gb109) (o := .cells #[.slice A0_0 l0_0.length c0_0, .slice A0_1 l0_1.length c0_1] 25 (0, 0)) (by (with_reducible repeat (first | refine qa ?_ _ | refine qb ?_ | refine qc ?_ _)); exact BK109.out)) : gb131 ≠ gb109))
                   have n13_ := qA ((by rw [hg]; exact Nat.ne_of_lt (blk_lt (g := gb110) (o := .cells #[.slice none 0 0, .slice none 0 0] 25 (0, 0)) (by (with_reducible repeat (first | refine qa ?_ _ | refine qb ?_ | refine qc ?_ _)); exact BK110.out)) : gb110 ≠ gb131))
                   have n14_ := qA ((by rw [hg]; exact Nat.ne_of_gt (blk_lt (g := gb110) (o := .cells #[.slice none 0 0, .slice none 0 0] 25 (0, 0)) (by (with_reducible repeat (first | refine qa ?_ _ | refine qb ?_ | refine qc ?_ _)); exact BK110.out)) : gb131 ≠ gb110))
                   have n15_ := qA ((by rw [hg]; exact Nat.ne_of_lt (blk_lt (g := gb111) (o := .cells #[.slice none 0 0, .slice none 0 0, .slice none 0 0, .slice none 0 0] 30 (0, 0)) (by (with_reducible repeat (first | refine qa ?_ _ | refine qb ?_ | refine qc ?_ _)); exact BK111.out)) : gb111 ≠ gb131))
                   have n16_ := qA ((by rw [hg]; exact Nat.ne_of_gt (blk_lt (g := gb111) (o := .cells #[.slice none 0 0, .slice none 0 0, .slice none 0 0, .slice none 0 0] 30 (0, 0)) (by (with_reducible repeat (first | refine qa ?_ _ | refine qb ?_ | refine qc ?_ _)); exact BK111.out)) : gb131 ≠ gb111))
                   have n17_ := qA ((by rw [hg]; exact Nat.ne_of_lt (blk_lt (g := gb118) (o := .cells #[.slice Ao17 t112.length co17, .slice Ao22 t115.length co22] 25 (0, 0)) (by (with_reducible repeat (first | refine qa ?_ _ | refine qb ?_ | refine qc ?_ _)); exact BK118.out)) : gb118 ≠ gb131))
                   have n18_ := qA ((by rw [hg]; exact Nat.ne_of_gt (blk_lt (g := gb118) (o := .cells #[.slice Ao17 t112.length co17, .slice Ao22 t115.length co22] 25 (0, 0)) (by (with_reducible repeat (first | refine qa ?_ _ | refine qb ?_ | refine qc ?_ _)); exact BK118.out)) : gb131 ≠ gb118))
                   clear HO114
                   clear HO117
                   clear HO121
                   clear BK109
                   clear BK110
                   clear BK111
                   clear BK118
                   clear HB
                   have HO114 := n0_
                   have HO117 := n1_
                   have HO121 := n2_
                   have BK109 := n3_
                   have BK110 := n4_
                   have BK111 := n5_
                   have BK118 := n6_
                   have HB := n7_
                   have BK131 := n8_
                   have GW131 := n9_
                   have GE131 := n10_
                   have NB109_131 := n11_
                   have NB131_109 := n12_
                   have NB110_131 := n13_
                   have NB131_110 := n14_
                   have NB111_131 := n15_
                   have NB131_111 := n16_
                   have NB118_131 := n17_
                   have NB131_118 := n18_
                   clear n0_ n1_ n2_ n3_ n4_ n5_ n6_ n7_ n8_ n9_ n10_ n11_ n12_ n13_ n14_ n15_ n16_ n17_ n18_
                   clear hb hbox hg
                   refine hK.out _ _ ⟨(qd BK118.out 0).trans rfl, (qd BK118.out 1).trans rfl⟩ (fun hHeld => ?_)
                   clear hK K
                   refine norm_ (a' := ?_) ?_ ?_
                   rotate_left
                   ·show Act.put _ (some 5) _ = _
                    simp only [Act.put, qx, qy, qz, i64_w, i32_w]
                    rfl
                   exact norm_ (by first | (simp only [putAll, Act.put, qx, qy, qz]; done) | (simp only [putAll, Act.put, qx, qy, qz]; rfl)) (hJ4_13 (_, gb131) _ ⟨hHeld, (by (with_reducible repeat (first | apply qm | apply qn | apply qo)); exact HO114.out), (by (with_reducible repeat (first | apply qm | apply qn | apply qo)); exact HO117.out), (by (with_reducible repeat (first | apply qm | apply qn | apply qo)); exact HO121.out), (by (with_reducible repeat (first | refine qa ?_ _ | refine qb ?_ | refine qc ?_ _)); exact BK109.out), (by (with_reducible repeat (first | refine qa ?_ _ | refine qb ?_ | refine qc ?_ _)); exact BK110.out), (by (with_reducible repeat (first | refine qa ?_ _ | refine qb ?_ | refine qc ?_ _)); exact BK111.out), (by (with_reducible repeat (first | refine qa ?_ _ | refine qb ?_ | refine qc ?_ _)); exact BK118.out), (by (with_reducible repeat (first | refine qa ?_ _ | refine qb ?_ | refine qc ?_ _)); exact BK131.out), GW131.out, GE131.out, NB109_131.out, NB131_109.out, NB110_131.out, NB131_110.out, NB111_131.out, NB131_111.out, NB118_131.out, NB131_118.out, (by repeat (first | (with_reducible first | exact HB.out | apply qh | apply qj | apply qi | refine qg ?_ GE109.out | refine qg ?_ GE110.out | refine qg ?_ GE111.out | refine qg ?_ GE118.out | refine qg ?_ GE131.out) | exact HB.out))⟩)
                ·skip
                 rintro ⟨v126, gb131⟩ w28 ⟨hS_, h0_, h1_, h2_, h3_, h4_, h5_, h6_, h7_, h8_, h9_, h10_, h11_, h12_, h13_, h14_, h15_, h16_, h17_, h18_⟩
                 have n0_ : Aside0 (Kd.R k42 42 w28 w.heap.size (fun k_ => (w.heap.size ≤ k_)) (.slice Ao17 t112.length co17) t112) := ⟨h0_⟩
                 have n1_ : Aside0 (Kd.R k47 47 w28 w.heap.size (fun k_ => (w.heap.size ≤ k_) ∧ some k_ ≠ (v126 : Value).ownBlock) (.slice Ao22 t115.length co22) t115) := ⟨h1_⟩
                 have n2_ : Aside0 (Kd.R k47 47 w28 w.heap.size (fun k_ => (w.heap.size ≤ k_) ∧ some k_ ≠ (.slice Ao22 t115.length co22 : Value).ownBlock) v126 y125) := ⟨h2_⟩
                 have n3_ : Aside0 (w28.heap[gb109]? = some (.cells #[.slice A0_0 l0_0.length c0_0, .slice A0_1 l0_1.length c0_1] 25 (0, 0))) := ⟨h3_⟩
                 have n4_ : Aside0 (w28.heap[gb110]? = some (.cells #[.slice none 0 0, .slice none 0 0] 25 (0, 0))) := ⟨h4_⟩
                 have n5_ : Aside0 (w28.heap[gb111]? = some (.cells #[.slice none 0 0, .slice none 0 0, .slice none 0 0, .slice none 0 0] 30 (0, 0))) := ⟨h5_⟩
                 have n6_ : Aside0 (w28.heap[gb118]? = some (.cells #[.slice Ao17 t112.length co17, .slice Ao22 t115.length co22] 25 (0, 0))) := ⟨h6_⟩
                 have n7_ : Aside0 (w28.heap[gb131]? = some (.cells #[.slice none 0 0, .slice none 0 0, .slice none 0 0, .slice none 0 0] 30 (0, 0))) := ⟨h7_⟩
                 have n8_ : Aside0 (w.heap.size ≤ gb131) := ⟨h8_⟩
                 have n9_ : Aside0 (w.heap.size ≤ gb131) := ⟨h9_⟩
                 have n10_ : Aside0 (gb109 ≠ gb131) := ⟨h10_⟩
                 have n11_ : Aside0 (gb131 ≠ gb109) := ⟨h11_⟩
                 have n12_ : Aside0 (gb110 ≠ gb131) := ⟨h12_⟩
                 have n13_ : Aside0 (gb131 ≠ gb110) := ⟨h13_⟩
                 have n14_ : Aside0 (gb111 ≠ gb131) := ⟨h14_⟩
                 have n15_ : Aside0 (gb131 ≠ gb111) := ⟨h15_⟩
                 have n16_ : Aside0 (gb118 ≠ gb131) := ⟨h16_⟩
                 have n17_ : Aside0 (gb131 ≠ gb118) := ⟨h17_⟩
                 have n18_ : Aside0 (Below w.heap.size w w28) := ⟨h18_⟩
                 clear HO114
                 clear HO117
                 clear BK109
                 clear BK110
                 clear BK111
                 clear BK118
                 clear HB
                 clear h0_ h1_ h2_ h3_ h4_ h5_ h6_ h7_ h8_ h9_ h10_ h11_ h12_ h13_ h14_ h15_ h16_ h17_ h18_
                 have HO114 := n0_
                 have HO117 := n1_
                 have HO127 := n2_
                 have BK109 := n3_
                 have BK110 := n4_
                 have BK111 := n5_
                 have BK118 := n6_
                 have BK131 := n7_
                 have GW131 := n8_
                 have GE131 := n9_
                 have NB109_131 := n10_
                 have NB131_109 := n11_
                 have NB110_131 := n12_
                 have NB131_110 := n13_
                 have NB111_131 := n14_
                 have NB131_111 := n15_
                 have NB118_131 := n16_
                 have NB131_118 := n17_
                 have HB := n18_
                 clear n0_ n1_ n2_ n3_ n4_ n5_ n6_ n7_ n8_ n9_ n10_ n11_ n12_ n13_ n14_ n15_ n16_ n17_ n18_
                 have hHeld : w28.cell? ⟨gb118, 0, none⟩ = some (.slice Ao17 t112.length co17) ∧ w28.cell? ⟨gb118, 1, none⟩ = some (.slice Ao22 t115.length co22) := hS_
                 refine norm_ (a' := ?_) ?_ ?_
                 rotate_left
                 ·simp only [putAll, Act.put, qx, qy, qz]
                  rfl
                 refine one_ (i := 4) (N := some 12) #[true, true, true, true, true, false, true, true, true, true, true, false, false, true, false] rfl rfl (one_of HT_.out (by kernel_rfl)) (by decide) (fun K hK => ?_)
                 refine Kd.R_lit_step k42 _ 42 ?hg (N := 12) ?hd (xs := ([(⟨(⟨#[]⟩ : ByteArray), 0, 77, 0, 0⟩ : S42), (⟨(⟨#[]⟩ : ByteArray), 0, 77, 0, 0⟩ : S42)] : List (S42))) (inner := [.string (⟨#[]⟩ : ByteArray), .int .i64 0, .int .i64 77, .int .i64 0, .int .i64 0, .string (⟨#[]⟩ : ByteArray), .int .i64 0, .int .i64 77, .int .i64 0, .int .i64 0]) (ok := fun _ => True) (okp := fun _ => True) ?hr ?hp (fun _ hk => hk) trivial (Below.refl _ _) (Nat.le_refl _) (by simp) ?_; (case hd => rfl); (case hg => rfl); (case hr => first | (go_simp; done) | (go_simp; rfl)); (case hp => exact (Reps.c5 (show Kd.M k42 _ _ _ (⟨(⟨#[]⟩ : ByteArray), 0, 77, 0, 0⟩ : S42) [.string (⟨#[]⟩ : ByteArray), .int .i64 0, .int .i64 77, .int .i64 0, .int .i64 0] from (k42_mkM _ _ _ (⟨(⟨#[]⟩ : ByteArray), 0, 77, 0, 0⟩ : S42) )) (Reps.c5 (show Kd.M k42 _ _ _ (⟨(⟨#[]⟩ : ByteArray), 0, 77, 0, 0⟩ : S42) [.string (⟨#[]⟩ : ByteArray), .int .i64 0, .int .i64 77, .int .i64 0, .int .i64 0] from (k42_mkM _ _ _ (⟨(⟨#[]⟩ : ByteArray), 0, 77, 0, 0⟩ : S42) )) (Reps.none _ _))))
                 intro v120 w29 ho30 hb hg_ hnew_
                 clear hg_ hnew_
                 (first | rw [← Ny119.out] at ho30 | (simp only [Int.reduceToNat] at ho30; rw [← Ny119.out] at ho30))
                 have n0_ := qA (Kd.R_elder' (by (with_reducible repeat (first | apply qm | apply qn | apply qo)); exact HO114.out) (Kd.R_base ho30) hb)
                 have n1_ := qA (Kd.R_below (by (with_reducible repeat (first | apply qm | apply qn | apply qo)); exact HO117.out) hb)
                 have n2_ := qA (Kd.R_below (by (with_reducible repeat (first | apply qm | apply qn | apply qo)); exact HO127.out) hb)
                 have n3_ := qA (Kd.R_lower (Kd.R_new' (Kd.R_newM (M := fun k_ => (w.heap.size ≤ k_)) ho30 (ql (by repeat (first | (with_reducible first | exact HB.out | apply qh | apply qj | apply qi | refine qg ?_ GE109.out | refine qg ?_ GE110.out | refine qg ?_ GE111.out | refine qg ?_ GE118.out | refine qg ?_ GE131.out) | exact HB.out))) (fun k_ h_ => h_)) (Kd.R_lt (by (with_reducible repeat (first | apply qm | apply qn | apply qo)); exact HO114.out))) (ql (by repeat (first | (with_reducible first | exact HB.out | apply qh | apply qj | apply qi | refine qg ?_ GE109.out | refine qg ?_ GE110.out | refine qg ?_ GE111.out | refine qg ?_ GE118.out | refine qg ?_ GE131.out) | exact HB.out))))
                 have n4_ := qA (qf (g := gb109) (o := .cells #[.slice A0_0 l0_0.length c0_0, .slice A0_1 l0_1.length c0_1] 25 (0, 0)) (by (with_reducible repeat (first | refine qa ?_ _ | refine qb ?_ | refine qc ?_ _)); exact BK109.out) hb)
                 have n5_ := qA (qf (g := gb110) (o := .cells #[.slice none 0 0, .slice none 0 0] 25 (0, 0)) (by (with_reducible repeat (first | refine qa ?_ _ | refine qb ?_ | refine qc ?_ _)); exact BK110.out) hb)
                 have n6_ := qA (qf (g := gb111) (o := .cells #[.slice none 0 0, .slice none 0 0, .slice none 0 0, .slice none 0 0] 30 (0, 0)) (by (with_reducible repeat (first | refine qa ?_ _ | refine qb ?_ | refine qc ?_ _)); exact BK111.out) hb)
                 have n7_ := qA (qf (g := gb118) (o := .cells #[.slice Ao17 t112.length co17, .slice Ao22 t115.length co22] 25 (0, 0)) (by (with_reducible repeat (first | refine qa ?_ _ | refine qb ?_ | refine qc ?_ _)); exact BK118.out) hb)
                 have n8_ := qA (qf (g := gb131) (o := .cells #[.slice none 0 0, .slice none 0 0, .slice none 0 0, .slice none 0 0] 30 (0, 0)) (by (with_reducible repeat (first | refine qa ?_ _ | refine qb ?_ | refine qc ?_ _)); exact BK131.out) hb)
                 have n9_ := qA (qk (by repeat (first | (with_reducible first | exact HB.out | apply qh | apply qj | apply qi | refine qg ?_ GE109.out | refine qg ?_ GE110.out | refine qg ?_ GE111.out | refine qg ?_ GE118.out | refine qg ?_ GE131.out) | exact HB.out)) hb)
                 clear HO114
                 clear HO117
                 clear HO127
                 clear BK109
                 clear BK110
                 clear BK111
                 clear BK118
                 clear BK131
                 clear HB
                 have HO114 := n0_
                 have HO117 := n1_
                 have HO127 := n2_
                 have HO121 := n3_
                 have BK109 := n4_
                 have BK110 := n5_
                 have BK111 := n6_
                 have BK118 := n7_
                 have BK131 := n8_
                 have HB := n9_
                 clear n0_ n1_ n2_ n3_ n4_ n5_ n6_ n7_ n8_ n9_
                 clear hb ho30
                 refine hK.out _ _ ⟨(qd BK118.out 0).trans rfl, (qd BK118.out 1).trans rfl⟩ (fun hHeld => ?_)
                 clear hK K
                 refine norm_ (a' := ?_) ?_ ?_
                 rotate_left
                 ·show Act.put _ (some 12) _ = _
                  simp only [Act.put, qx, qy, qz, i64_w, i32_w]
                  rfl
                 exact norm_ (by first | (simp only [putAll, Act.put, qx, qy, qz]; done) | (simp only [putAll, Act.put, qx, qy, qz]; rfl)) (hJ4_10_13 (v120, v126, gb131) _ ⟨hHeld, (by (with_reducible repeat (first | apply qm | apply qn | apply qo)); exact HO114.out), (by (with_reducible repeat (first | apply qm | apply qn | apply qo)); exact HO117.out), (by (with_reducible repeat (first | apply qm | apply qn | apply qo)); exact qp HO121.out (fun _ hk => ⟨hk.1.1, hk.2⟩)), (by (with_reducible repeat (first | apply qm | apply qn | apply qo)); exact HO127.out), (by (with_reducible repeat (first | refine qa ?_ _ | refine qb ?_ | refine qc ?_ _)); exact BK109.out), (by (with_reducible repeat (first | refine qa ?_ _ | refine qb ?_ | refine qc ?_ _)); exact BK110.out), (by (with_reducible repeat (first | refine qa ?_ _ | refine qb ?_ | refine qc ?_ _)); exact BK111.out), (by (with_reducible repeat (first | refine qa ?_ _ | refine qb ?_ | refine qc ?_ _)); exact BK118.out), (by (with_reducible repeat (first | refine qa ?_ _ | refine qb ?_ | refine qc ?_ _)); exact BK131.out), GW131.out, GE131.out, NB109_131.out, NB131_109.out, NB110_131.out, NB131_110.out, NB111_131.out, NB131_111.out, NB118_131.out, NB131_118.out, (by repeat (first | (with_reducible first | exact HB.out | apply qh | apply qj | apply qi | refine qg ?_ GE109.out | refine qg ?_ GE110.out | refine qg ?_ GE111.out | refine qg ?_ GE118.out | refine qg ?_ GE131.out) | exact HB.out))⟩)
               ·skip
                rintro ⟨v120, gb131⟩ w28 ⟨hS_, h0_, h1_, h2_, h3_, h4_, h5_, h6_, h7_, h8_, h9_, h10_, h11_, h12_, h13_, h14_, h15_, h16_, h17_, h18_⟩
                have n0_ : Aside0 (Kd.R k42 42 w28 w.heap.size (fun k_ => (w.heap.size ≤ k_) ∧ some k_ ≠ (v120 : Value).ownBlock) (.slice Ao17 t112.length co17) t112) := ⟨h0_⟩
                have n1_ : Aside0 (Kd.R k47 47 w28 w.heap.size (fun k_ => (w.heap.size ≤ k_)) (.slice Ao22 t115.length co22) t115) := ⟨h1_⟩
                have n2_ : Aside0 (Kd.R k42 42 w28 w.heap.size (fun k_ => (w.heap.size ≤ k_) ∧ some k_ ≠ (.slice Ao17 t112.length co17 : Value).ownBlock) v120 y119) := ⟨h2_⟩
                have n3_ : Aside0 (w28.heap[gb109]? = some (.cells #[.slice A0_0 l0_0.length c0_0, .slice A0_1 l0_1.length c0_1] 25 (0, 0))) := ⟨h3_⟩
                have n4_ : Aside0 (w28.heap[gb110]? = some (.cells #[.slice none 0 0, .slice none 0 0] 25 (0, 0))) := ⟨h4_⟩
                have n5_ : Aside0 (w28.heap[gb111]? = some (.cells #[.slice none 0 0, .slice none 0 0, .slice none 0 0, .slice none 0 0] 30 (0, 0))) := ⟨h5_⟩
                have n6_ : Aside0 (w28.heap[gb118]? = some (.cells #[.slice Ao17 t112.length co17, .slice Ao22 t115.length co22] 25 (0, 0))) := ⟨h6_⟩
                have n7_ : Aside0 (w28.heap[gb131]? = some (.cells #[.slice none 0 0, .slice none 0 0, .slice none 0 0, .slice none 0 0] 30 (0, 0))) := ⟨h7_⟩
                have n8_ : Aside0 (w.heap.size ≤ gb131) := ⟨h8_⟩
                have n9_ : Aside0 (w.heap.size ≤ gb131) := ⟨h9_⟩
                have n10_ : Aside0 (gb109 ≠ gb131) := ⟨h10_⟩
                have n11_ : Aside0 (gb131 ≠ gb109) := ⟨h11_⟩
                have n12_ : Aside0 (gb110 ≠ gb131) := ⟨h12_⟩
                have n13_ : Aside0 (gb131 ≠ gb110) := ⟨h13_⟩
                have n14_ : Aside0 (gb111 ≠ gb131) := ⟨h14_⟩
                have n15_ : Aside0 (gb131 ≠ gb111) := ⟨h15_⟩
                have n16_ : Aside0 (gb118 ≠ gb131) := ⟨h16_⟩
                have n17_ : Aside0 (gb131 ≠ gb118) := ⟨h17_⟩
                have n18_ : Aside0 (Below w.heap.size w w28) := ⟨h18_⟩
                clear HO114
                clear HO117
                clear BK109
                clear BK110
                clear BK111
                clear BK118
                clear HB
                clear h0_ h1_ h2_ h3_ h4_ h5_ h6_ h7_ h8_ h9_ h10_ h11_ h12_ h13_ h14_ h15_ h16_ h17_ h18_
                have HO114 := n0_
                have HO117 := n1_
                have HO121 := n2_
                have BK109 := n3_
                have BK110 := n4_
                have BK111 := n5_
                have BK118 := n6_
                have BK131 := n7_
                have GW131 := n8_
                have GE131 := n9_
                have NB109_131 := n10_
                have NB131_109 := n11_
                have NB110_131 := n12_
                have NB131_110 := n13_
                have NB111_131 := n14_
                have NB131_111 := n15_
                have NB118_131 := n16_
                have NB131_118 := n17_
                have HB := n18_
                clear n0_ n1_ n2_ n3_ n4_ n5_ n6_ n7_ n8_ n9_ n10_ n11_ n12_ n13_ n14_ n15_ n16_ n17_ n18_
                have hHeld : w28.cell? ⟨gb118, 0, none⟩ = some (.slice Ao17 t112.length co17) ∧ w28.cell? ⟨gb118, 1, none⟩ = some (.slice Ao22 t115.length co22) := hS_
                obtain ⟨Ao30, co30, eo30⟩ := Kd.R_slice HO121.out
                (first | subst eo30 | (injection eo30 with f1_ f2_ f3_; have f4_ := f1_.symm; have f5_ := f3_.symm; clear f1_ f2_ f3_; subst f4_; subst f5_))
                refine norm_ (a' := ?_) ?_ ?_
                rotate_left
                ·simp only [putAll, Act.put, qx, qy, qz]
                 rfl
                refine two_ (i := 5) (j := 10) (Ni := some 13) (Nj := some 18) #[true, true, true, true, true, true, true, true, true, true, false, false, false, true, false] #[true, true, true, true, true, false, true, true, true, true, true, false, false, true, false] rfl rfl rfl rfl (two_of HT_.out (by kernel_rfl)) (by decide) (by decide) (fun K hK => ?_) (fun K hK => ?_)
                ·skip
                 refine Kd.R_append_rows_step k42 (w0 := w) w.heap.size (by rfl) (.tmp 9) (.tmp 12) 22 42 (.agg #[(.string ⟨#[]⟩), (.int .i64 0), (.int .i64 0), (.int .i64 0), (.int .i64 0)]) 48 rfl Tryd.underlying22 info42 rfl (by decide) (by omega) (.slice Ao17 t112.length co17) t112 y119 _ _ _ (fun k_ => (w.heap.size ≤ k_) ∧ some k_ ≠ (.slice Ao30 y119.length co30 : Value).ownBlock) (fun _ => False) rfl rfl ?aO ?aR (fun _ _ h => h) (fun _ h => h.elim) ?aF ?aB ?aS ?aL ?_
                 (case aR => repeat (first | exact (Kd.R_reads' HO121.out).2.2 | (with_reducible refine qu ?_ _) | (with_reducible refine qv ?_ _) | (with_reducible refine qw ?_)))
                 (case aB => exact (by repeat (first | (with_reducible first | exact HB.out | apply qh | apply qj | apply qi | refine qg ?_ GE109.out | refine qg ?_ GE110.out | refine qg ?_ GE111.out | refine qg ?_ GE118.out | refine qg ?_ GE131.out) | exact HB.out)))
                 (case aF => exact (fun k_ hk => ⟨(Nat.le_trans (ql (by repeat (first | (with_reducible first | exact HB.out | apply qh | apply qj | apply qi | refine qg ?_ GE109.out | refine qg ?_ GE110.out | refine qg ?_ GE111.out | refine qg ?_ GE118.out | refine qg ?_ GE131.out) | exact HB.out))) hk), Kd.fresh' (Kd.R_lt (by (with_reducible repeat (first | apply qm | apply qn | apply qo)); exact HO121.out)) k_ hk⟩))
                 (case aO => exact (by (with_reducible repeat (first | apply qm | apply qn | apply qo)); exact HO114.out))
                 (case aS => exact (ql (by repeat (first | (with_reducible first | exact HB.out | apply qh | apply qj | apply qi | refine qg ?_ GE109.out | refine qg ?_ GE110.out | refine qg ?_ GE111.out | refine qg ?_ GE118.out | refine qg ?_ GE131.out) | exact HB.out))))
                 (case aL => have := LMc3.out; omega)
                 intro v123 w29 ho hb hg hat
                 rw [← Ny122.out] at ho
                 have n0_ := qA (qe (g := gb109) (o := .cells #[.slice A0_0 l0_0.length c0_0, .slice A0_1 l0_1.length c0_1] 25 (0, 0)) (by (with_reducible repeat (first | refine qa ?_ _ | refine qb ?_ | refine qc ?_ _)); exact BK109.out) hg (Kd.R_ne HO114.out BK109.out (by decide)))
                 have n1_ := qA (qe (g := gb110) (o := .cells #[.slice none 0 0, .slice none 0 0] 25 (0, 0)) (by (with_reducible repeat (first | refine qa ?_ _ | refine qb ?_ | refine qc ?_ _)); exact BK110.out) hg (Kd.R_ne HO114.out BK110.out (by decide)))
                 have n2_ := qA (qe (g := gb111) (o := .cells #[.slice none 0 0, .slice none 0 0, .slice none 0 0, .slice none 0 0] 30 (0, 0)) (by (with_reducible repeat (first | refine qa ?_ _ | refine qb ?_ | refine qc ?_ _)); exact BK111.out) hg (Kd.R_ne HO114.out BK111.out (by decide)))
                 have n3_ := qA (Kd.R_over' (by (with_reducible repeat (first | apply qm | apply qn | apply qo)); exact HO117.out) (Kd.R_typed (by (with_reducible repeat (first | apply qm | apply qn | apply qo)); exact HO114.out)) (by decide) hg)
                 have n4_ := qA (qe (g := gb118) (o := .cells #[.slice Ao17 t112.length co17, .slice Ao22 t115.length co22] 25 (0, 0)) (by (with_reducible repeat (first | refine qa ?_ _ | refine qb ?_ | refine qc ?_ _)); exact BK118.out) hg (Kd.R_ne HO114.out BK118.out (by decide)))
                 have n5_ := qA (Kd.R_after (ok := (fun k_ => (w.heap.size ≤ k_))) (by (with_reducible repeat (first | apply qm | apply qn | apply qo)); exact HO121.out) hg hat)
                 have n6_ := qA (qe (g := gb131) (o := .cells #[.slice none 0 0, .slice none 0 0, .slice none 0 0, .slice none 0 0] 30 (0, 0)) (by (with_reducible repeat (first | refine qa ?_ _ | refine qb ?_ | refine qc ?_ _)); exact BK131.out) hg (Kd.R_ne HO114.out BK131.out (by decide)))
                 have n7_ := qA (hb)
                 have n8_ := qA (ho)
                 clear BK109
                 clear BK110
                 clear BK111
                 clear HO117
                 clear BK118
                 clear HO121
                 clear BK131
                 clear HB
                 clear HO114
                 have BK109 := n0_
                 have BK110 := n1_
                 have BK111 := n2_
                 have HO117 := n3_
                 have BK118 := n4_
                 have HO121 := n5_
                 have BK131 := n6_
                 have HB := n7_
                 have HO124 := n8_
                 clear n0_ n1_ n2_ n3_ n4_ n5_ n6_ n7_ n8_
                 clear ho hb hg hat
                 refine hK.out _ _ ⟨(qd BK118.out 0).trans rfl, (qd BK118.out 1).trans rfl⟩ (fun hHeld => ?_)
                 clear hK K
                 refine norm_ (a' := ?_) ?_ ?_
                 rotate_left
                 ·show Act.put _ (some 13) _ = _
                  simp only [Act.put, qx, qy, qz, i64_w, i32_w]
                  rfl
                 exact norm_ (by first | (simp only [putAll, Act.put, qx, qy, qz]; done) | (simp only [putAll, Act.put, qx, qy, qz]; rfl)) (hJ4_5_13 (.slice Ao30 y119.length co30, v123, gb131) _ ⟨hHeld, (by (with_reducible repeat (first | apply qm | apply qn | apply qo)); exact HO117.out), (by (with_reducible repeat (first | apply qm | apply qn | apply qo)); exact HO121.out), (by (with_reducible repeat (first | apply qm | apply qn | apply qo)); exact HO124.out), (by (with_reducible repeat (first | refine qa ?_ _ | refine qb ?_ | refine qc ?_ _)); exact BK109.out), (by (with_reducible repeat (first | refine qa ?_ _ | refine qb ?_ | refine qc ?_ _)); exact BK110.out), (by (with_reducible repeat (first | refine qa ?_ _ | refine qb ?_ | refine qc ?_ _)); exact BK111.out), (by (with_reducible repeat (first | refine qa ?_ _ | refine qb ?_ | refine qc ?_ _)); exact BK118.out), (by (with_reducible repeat (first | refine qa ?_ _ | refine qb ?_ | refine qc ?_ _)); exact BK131.out), GW131.out, GE131.out, NB109_131.out, NB131_109.out, NB110_131.out, NB131_110.out, NB111_131.out, NB131_111.out, NB118_131.out, NB131_118.out, (by repeat (first | (with_reducible first | exact HB.out | apply qh | apply qj | apply qi | refine qg ?_ GE109.out | refine qg ?_ GE110.out | refine qg ?_ GE111.out | refine qg ?_ GE118.out | refine qg ?_ GE131.out) | exact HB.out))⟩)
                ·skip
                 refine Kd.R_lit_step k47 _ 47 ?hg (N := 18) ?hd (xs := ([(⟨0, 0, 77, 0⟩ : S47), (⟨0, 0, 77, 0⟩ : S47)] : List (S47))) (inner := [.int .i64 0, .int .i64 0, .int .i64 77, .int .i64 0, .int .i64 0, .int .i64 0, .int .i64 77, .int .i64 0]) (ok := fun _ => True) (okp := fun _ => True) ?hr ?hp (fun _ hk => hk) trivial (Below.refl _ _) (Nat.le_refl _) (by simp) ?_; (case hd => rfl); (case hg => rfl); (case hr => first | (go_simp; done) | (go_simp; rfl)); (case hp => exact (Reps.c4 (show Kd.M k47 _ _ _ (⟨0, 0, 77, 0⟩ : S47) [.int .i64 0, .int .i64 0, .int .i64 77, .int .i64 0] from (k47_mkM _ _ _ (⟨0, 0, 77, 0⟩ : S47) )) (Reps.c4 (show Kd.M k47 _ _ _ (⟨0, 0, 77, 0⟩ : S47) [.int .i64 0, .int .i64 0, .int .i64 77, .int .i64 0] from (k47_mkM _ _ _ (⟨0, 0, 77, 0⟩ : S47) )) (Reps.none _ _))))
                 intro v126 w29 ho30 hb hg_ hnew_
                 clear hg_ hnew_
                 (first | rw [← Ny125.out] at ho30 | (simp only [Int.reduceToNat] at ho30; rw [← Ny125.out] at ho30))
                 have n0_ := qA (Kd.R_below (by (with_reducible repeat (first | apply qm | apply qn | apply qo)); exact HO114.out) hb)
                 have n1_ := qA (Kd.R_elder' (by (with_reducible repeat (first | apply qm | apply qn | apply qo)); exact HO117.out) (Kd.R_base ho30) hb)
                 have n2_ := qA (Kd.R_below (by (with_reducible repeat (first | apply qm | apply qn | apply qo)); exact HO121.out) hb)
                 have n3_ := qA (Kd.R_lower (Kd.R_new' (Kd.R_newM (M := fun k_ => (w.heap.size ≤ k_)) ho30 (ql (by repeat (first | (with_reducible first | exact HB.out | apply qh | apply qj | apply qi | refine qg ?_ GE109.out | refine qg ?_ GE110.out | refine qg ?_ GE111.out | refine qg ?_ GE118.out | refine qg ?_ GE131.out) | exact HB.out))) (fun k_ h_ => h_)) (Kd.R_lt (by (with_reducible repeat (first | apply qm | apply qn | apply qo)); exact HO117.out))) (ql (by repeat (first | (with_reducible first | exact HB.out | apply qh | apply qj | apply qi | refine qg ?_ GE109.out | refine qg ?_ GE110.out | refine qg ?_ GE111.out | refine qg ?_ GE118.out | refine qg ?_ GE131.out) | exact HB.out))))
                 have n4_ := qA (qf (g := gb109) (o := .cells #[.slice A0_0 l0_0.length c0_0, .slice A0_1 l0_1.length c0_1] 25 (0, 0)) (by (with_reducible repeat (first | refine qa ?_ _ | refine qb ?_ | refine qc ?_ _)); exact BK109.out) hb)
                 have n5_ := qA (qf (g := gb110) (o := .cells #[.slice none 0 0, .slice none 0 0] 25 (0, 0)) (by (with_reducible repeat (first | refine qa ?_ _ | refine qb ?_ | refine qc ?_ _)); exact BK110.out) hb)
                 have n6_ := qA (qf (g := gb111) (o := .cells #[.slice none 0 0, .slice none 0 0, .slice none 0 0, .slice none 0 0] 30 (0, 0)) (by (with_reducible repeat (first | refine qa ?_ _ | refine qb ?_ | refine qc ?_ _)); exact BK111.out) hb)
                 have n7_ := qA (qf (g := gb118) (o := .cells #[.slice Ao17 t112.length co17, .slice Ao22 t115.length co22] 25 (0, 0)) (by (with_reducible repeat (first | refine qa ?_ _ | refine qb ?_ | refine qc ?_ _)); exact BK118.out) hb)
                 have n8_ := qA (qf (g := gb131) (o := .cells #[.slice none 0 0, .slice none 0 0, .slice none 0 0, .slice none 0 0] 30 (0, 0)) (by (with_reducible repeat (first | refine qa ?_ _ | refine qb ?_ | refine qc ?_ _)); exact BK131.out) hb)
                 have n9_ := qA (qk (by repeat (first | (with_reducible first | exact HB.out | apply qh | apply qj | apply qi | refine qg ?_ GE109.out | refine qg ?_ GE110.out | refine qg ?_ GE111.out | refine qg ?_ GE118.out | refine qg ?_ GE131.out) | exact HB.out)) hb)
                 clear HO114
                 clear HO117
                 clear HO121
                 clear BK109
                 clear BK110
                 clear BK111
                 clear BK118
                 clear BK131
                 clear HB
                 have HO114 := n0_
                 have HO117 := n1_
                 have HO121 := n2_
                 have HO127 := n3_
                 have BK109 := n4_
                 have BK110 := n5_
                 have BK111 := n6_
                 have BK118 := n7_
                 have BK131 := n8_
                 have HB := n9_
                 clear n0_ n1_ n2_ n3_ n4_ n5_ n6_ n7_ n8_ n9_
                 clear hb ho30
                 refine hK.out _ _ ⟨(qd BK118.out 0).trans rfl, (qd BK118.out 1).trans rfl⟩ (fun hHeld => ?_)
                 clear hK K
                 refine norm_ (a' := ?_) ?_ ?_
                 rotate_left
                 ·show Act.put _ (some 18) _ = _
                  simp only [Act.put, qx, qy, qz, i64_w, i32_w]
                  rfl
                 exact norm_ (by first | (simp only [putAll, Act.put, qx, qy, qz]; done) | (simp only [putAll, Act.put, qx, qy, qz]; rfl)) (hJ4_10_13 (_, v126, gb131) _ ⟨hHeld, (by (with_reducible repeat (first | apply qm | apply qn | apply qo)); exact HO114.out), (by (with_reducible repeat (first | apply qm | apply qn | apply qo)); exact HO117.out), (by (with_reducible repeat (first | apply qm | apply qn | apply qo)); exact HO121.out), (by (with_reducible repeat (first | apply qm | apply qn | apply qo)); exact qp HO127.out (fun _ hk => ⟨hk.1.1, hk.2⟩)), (by (with_reducible repeat (first | refine qa ?_ _ | refine qb ?_ | refine qc ?_ _)); exact BK109.out), (by (with_reducible repeat (first | refine qa ?_ _ | refine qb ?_ | refine qc ?_ _)); exact BK110.out), (by (with_reducible repeat (first | refine qa ?_ _ | refine qb ?_ | refine qc ?_ _)); exact BK111.out), (by (with_reducible repeat (first | refine qa ?_ _ | refine qb ?_ | refine qc ?_ _)); exact BK118.out), (by (with_reducible repeat (first | refine qa ?_ _ | refine qb ?_ | refine qc ?_ _)); exact BK131.out), GW131.out, GE131.out, NB109_131.out, NB131_109.out, NB110_131.out, NB131_110.out, NB111_131.out, NB131_111.out, NB118_131.out, NB131_118.out, (by repeat (first | (with_reducible first | exact HB.out | apply qh | apply qj | apply qi | refine qg ?_ GE109.out | refine qg ?_ GE110.out | refine qg ?_ GE111.out | refine qg ?_ GE118.out | refine qg ?_ GE131.out) | exact HB.out))⟩)
              ·skip
               rintro ⟨v120, v126⟩ w29 ⟨hS_, h0_, h1_, h2_, h3_, h4_, h5_, h6_, h7_, h8_⟩
               have n0_ : Aside0 (Kd.R k42 42 w29 w.heap.size (fun k_ => (w.heap.size ≤ k_) ∧ some k_ ≠ (v120 : Value).ownBlock) (.slice Ao17 t112.length co17) t112) := ⟨h0_⟩
               have n1_ : Aside0 (Kd.R k47 47 w29 w.heap.size (fun k_ => (w.heap.size ≤ k_) ∧ some k_ ≠ (v126 : Value).ownBlock) (.slice Ao22 t115.length co22) t115) := ⟨h1_⟩
               have n2_ : Aside0 (Kd.R k42 42 w29 w.heap.size (fun k_ => (w.heap.size ≤ k_) ∧ some k_ ≠ (.slice Ao17 t112.length co17 : Value).ownBlock) v120 y119) := ⟨h2_⟩
               have n3_ : Aside0 (Kd.R k47 47 w29 w.heap.size (fun k_ => (w.heap.size ≤ k_) ∧ some k_ ≠ (.slice Ao22 t115.length co22 : Value).ownBlock) v126 y125) := ⟨h3_⟩
               have n4_ : Aside0 (w29.heap[gb109]? = some (.cells #[.slice A0_0 l0_0.length c0_0, .slice A0_1 l0_1.length c0_1] 25 (0, 0))) := ⟨h4_⟩
               have n5_ : Aside0 (w29.heap[gb110]? = some (.cells #[.slice none 0 0, .slice none 0 0] 25 (0, 0))) := ⟨h5_⟩
               have n6_ : Aside0 (w29.heap[gb111]? = some (.cells #[.slice none 0 0, .slice none 0 0, .slice none 0 0, .slice none 0 0] 30 (0, 0))) := ⟨h6_⟩
               have n7_ : Aside0 (w29.heap[gb118]? = some (.cells #[.slice Ao17 t112.length co17, .slice Ao22 t115.length co22] 25 (0, 0))) := ⟨h7_⟩
               have n8_ : Aside0 (Below w.heap.size w w29) := ⟨h8_⟩
               clear HO114
               clear HO117
               clear BK109
               clear BK110
               clear BK111
               clear BK118
               clear HB
               clear h0_ h1_ h2_ h3_ h4_ h5_ h6_ h7_ h8_
               have HO114 := n0_
               have HO117 := n1_
               have HO121 := n2_
               have HO127 := n3_
               have BK109 := n4_
               have BK110 := n5_
               have BK111 := n6_
               have BK118 := n7_
               have HB := n8_
               clear n0_ n1_ n2_ n3_ n4_ n5_ n6_ n7_ n8_
               have hHeld : w29.cell? ⟨gb118, 0, none⟩ = some (.slice Ao17 t112.length co17) ∧ w29.cell? ⟨gb118, 1, none⟩ = some (.slice Ao22 t115.length co22) := hS_
               obtain ⟨Ao31, co31, eo31⟩ := Kd.R_slice HO121.out
               (first | subst eo31 | (injection eo31 with f1_ f2_ f3_; have f4_ := f1_.symm; have f5_ := f3_.symm; clear f1_ f2_ f3_; subst f4_; subst f5_))
               refine norm_ (a' := ?_) ?_ ?_
               rotate_left
               ·simp only [putAll, Act.put, qx, qy, qz]
                rfl
               refine two_ (i := 5) (j := 13) (Ni := some 13) (Nj := some 5) #[true, true, true, true, true, true, true, true, true, true, true, false, false, false, false] #[true, true, true, true, true, false, true, true, true, true, true, false, false, true, false] rfl rfl rfl rfl (two_of HT_.out (by kernel_rfl)) (by decide) (by decide) (fun K hK => ?_) (fun K hK => ?_)
               ·skip
                refine Kd.R_append_rows_step k42 (w0 := w) w.heap.size (by rfl) (.tmp 9) (.tmp 12) 22 42 (.agg #[(.string ⟨#[]⟩), (.int .i64 0), (.int .i64 0), (.int .i64 0), (.int .i64 0)]) 48 rfl Tryd.underlying22 info42 rfl (by decide) (by omega) (.slice Ao17 t112.length co17) t112 y119 _ _ _ (fun k_ => (w.heap.size ≤ k_) ∧ some k_ ≠ (.slice Ao31 y119.length co31 : Value).ownBlock) (fun _ => False) rfl rfl ?aO ?aR (fun _ _ h => h) (fun _ h => h.elim) ?aF ?aB ?aS ?aL ?_
                (case aR => repeat (first | exact (Kd.R_reads' HO121.out).2.2 | (with_reducible refine qu ?_ _) | (with_reducible refine qv ?_ _) | (with_reducible refine qw ?_)))
                (case aB => exact (by repeat (first | (with_reducible first | exact HB.out | apply qh | apply qj | apply qi | refine qg ?_ GE109.out | refine qg ?_ GE110.out | refine qg ?_ GE111.out | refine qg ?_ GE118.out) | exact HB.out)))
                (case aF => exact (fun k_ hk => ⟨(Nat.le_trans (ql (by repeat (first | (with_reducible first | exact HB.out | apply qh | apply qj | apply qi | refine qg ?_ GE109.out | refine qg ?_ GE110.out | refine qg ?_ GE111.out | refine qg ?_ GE118.out) | exact HB.out))) hk), Kd.fresh' (Kd.R_lt (by (with_reducible repeat (first | apply qm | apply qn | apply qo)); exact HO121.out)) k_ hk⟩))
                (case aO => exact (by (with_reducible repeat (first | apply qm | apply qn | apply qo)); exact HO114.out))
                (case aS => exact (ql (by repeat (first | (with_reducible first | exact HB.out | apply qh | apply qj | apply qi | refine qg ?_ GE109.out | refine qg ?_ GE110.out | refine qg ?_ GE111.out | refine qg ?_ GE118.out) | exact HB.out))))
                (case aL => have := LMc3.out; omega)
                intro v123 w30 ho hb hg hat
                rw [← Ny122.out] at ho
                have n0_ := qA (qe (g := gb109) (o := .cells #[.slice A0_0 l0_0.length c0_0, .slice A0_1 l0_1.length c0_1] 25 (0, 0)) (by (with_reducible repeat (first | refine qa ?_ _ | refine qb ?_ | refine qc ?_ _)); exact BK109.out) hg (Kd.R_ne HO114.out BK109.out (by decide)))
                have n1_ := qA (qe (g := gb110) (o := .cells #[.slice none 0 0, .slice none 0 0] 25 (0, 0)) (by (with_reducible repeat (first | refine qa ?_ _ | refine qb ?_ | refine qc ?_ _)); exact BK110.out) hg (Kd.R_ne HO114.out BK110.out (by decide)))
                have n2_ := qA (qe (g := gb111) (o := .cells #[.slice none 0 0, .slice none 0 0, .slice none 0 0, .slice none 0 0] 30 (0, 0)) (by (with_reducible repeat (first | refine qa ?_ _ | refine qb ?_ | refine qc ?_ _)); exact BK111.out) hg (Kd.R_ne HO114.out BK111.out (by decide)))
                have n3_ := qA (Kd.R_over' (by (with_reducible repeat (first | apply qm | apply qn | apply qo)); exact HO117.out) (Kd.R_typed (by (with_reducible repeat (first | apply qm | apply qn | apply qo)); exact HO114.out)) (by decide) hg)
                have n4_ := qA (qe (g := gb118) (o := .cells #[.slice Ao17 t112.length co17, .slice Ao22 t115.length co22] 25 (0, 0)) (by (with_reducible repeat (first | refine qa ?_ _ | refine qb ?_ | refine qc ?_ _)); exact BK118.out) hg (Kd.R_ne HO114.out BK118.out (by decide)))
                have n5_ := qA (Kd.R_after (ok := (fun k_ => (w.heap.size ≤ k_))) (by (with_reducible repeat (first | apply qm | apply qn | apply qo)); exact HO121.out) hg hat)
                have n6_ := qA (Kd.R_over' (by (with_reducible repeat (first | apply qm | apply qn | apply qo)); exact HO127.out) (Kd.R_typed (by (with_reducible repeat (first | apply qm | apply qn | apply qo)); exact HO114.out)) (by decide) hg)
                have n7_ := qA (hb)
                have n8_ := qA (ho)
                clear BK109
                clear BK110
                clear BK111
                clear HO117
                clear BK118
                clear HO121
                clear HO127
                clear HB
                clear HO114
                have BK109 := n0_
                have BK110 := n1_
                have BK111 := n2_
                have HO117 := n3_
                have BK118 := n4_
                have HO121 := n5_
                have HO127 := n6_
                have HB := n7_
                have HO124 := n8_
                clear n0_ n1_ n2_ n3_ n4_ n5_ n6_ n7_ n8_
                clear ho hb hg hat
                refine hK.out _ _ ⟨(qd BK118.out 0).trans rfl, (qd BK118.out 1).trans rfl⟩ (fun hHeld => ?_)
                clear hK K
                refine norm_ (a' := ?_) ?_ ?_
                rotate_left
                ·show Act.put _ (some 13) _ = _
                 simp only [Act.put, qx, qy, qz, i64_w, i32_w]
                 rfl
                exact norm_ (by first | (simp only [putAll, Act.put, qx, qy, qz]; done) | (simp only [putAll, Act.put, qx, qy, qz]; rfl)) (hJ4_5_10 (.slice Ao31 y119.length co31, v123, v126) _ ⟨hHeld, (by (with_reducible repeat (first | apply qm | apply qn | apply qo)); exact HO117.out), (by (with_reducible repeat (first | apply qm | apply qn | apply qo)); exact HO121.out), (by (with_reducible repeat (first | apply qm | apply qn | apply qo)); exact HO124.out), (by (with_reducible repeat (first | apply qm | apply qn | apply qo)); exact HO127.out), (by (with_reducible repeat (first | refine qa ?_ _ | refine qb ?_ | refine qc ?_ _)); exact BK109.out), (by (with_reducible repeat (first | refine qa ?_ _ | refine qb ?_ | refine qc ?_ _)); exact BK110.out), (by (with_reducible repeat (first | refine qa ?_ _ | refine qb ?_ | refine qc ?_ _)); exact BK111.out), (by (with_reducible repeat (first | refine qa ?_ _ | refine qb ?_ | refine qc ?_ _)); exact BK118.out), (by repeat (first | (with_reducible first | exact HB.out | apply qh | apply qj | apply qi | refine qg ?_ GE109.out | refine qg ?_ GE110.out | refine qg ?_ GE111.out | refine qg ?_ GE118.out) | exact HB.out))⟩)
               ·skip
                refine box_step ?hg (N := 5) ?hd (cs := #[.slice none 0 0, .slice none 0 0, .slice none 0 0, .slice none 0 0]) (t := 30) ?hr ?_; (case hd => rfl); (case hg => rfl); (case hr => first | (go_simp; done) | (go_simp; rfl))
                intro gb131 hg w30 hbox hb
                have n0_ := qA (Kd.R_below (by (with_reducible repeat (first | apply qm | apply qn | apply qo)); exact HO114.out) hb)
                have n1_ := qA (Kd.R_below (by (with_reducible repeat (first | apply qm | apply qn | apply qo)); exact HO117.out) hb)
                have n2_ := qA (Kd.R_below (by (with_reducible repeat (first | apply qm | apply qn | apply qo)); exact HO121.out) hb)
                have n3_ := qA (Kd.R_below (by (with_reducible repeat (first | apply qm | apply qn | apply qo)); exact HO127.out) hb)
                have n4_ := qA (qf (g := gb109) (o := .cells #[.slice A0_0 l0_0.length c0_0, .slice A0_1 l0_1.length c0_1] 25 (0, 0)) (by (with_reducible repeat (first | refine qa ?_ _ | refine qb ?_ | refine qc ?_ _)); exact BK109.out) hb)
                have n5_ := qA (qf (g := gb110) (o := .cells #[.slice none 0 0, .slice none 0 0] 25 (0, 0)) (by (with_reducible repeat (first | refine qa ?_ _ | refine qb ?_ | refine qc ?_ _)); exact BK110.out) hb)
                have n6_ := qA (qf (g := gb111) (o := .cells #[.slice none 0 0, .slice none 0 0, .slice none 0 0, .slice none 0 0] 30 (0, 0)) (by (with_reducible repeat (first | refine qa ?_ _ | refine qb ?_ | refine qc ?_ _)); exact BK111.out) hb)
                have n7_ := qA (qf (g := gb118) (o := .cells #[.slice Ao17 t112.length co17, .slice Ao22 t115.length co22] 25 (0, 0)) (by (with_reducible repeat (first | refine qa ?_ _ | refine qb ?_ | refine qc ?_ _)); exact BK118.out) hb)
                have n8_ := qA (qk (by repeat (first | (with_reducible first | exact HB.out | apply qh | apply qj | apply qi | refine qg ?_ GE109.out | refine qg ?_ GE110.out | refine qg ?_ GE111.out | refine qg ?_ GE118.out) | exact HB.out)) hb)
                have n9_ := qA (hbox)
                have n10_ := qA ((by rw [hg]; exact (ql (by repeat (first | (with_reducible first | exact HB.out | apply qh | apply qj | apply qi | refine qg ?_ GE109.out | refine qg ?_ GE110.out | refine qg ?_ GE111.out | refine qg ?_ GE118.out) | exact HB.out))) : w.heap.size ≤ gb131))
                have n11_ := qA ((by rw [hg]; exact (ql (by repeat (first | (with_reducible first | exact HB.out | apply qh | apply qj | apply qi | refine qg ?_ GE109.out | refine qg ?_ GE110.out | refine qg ?_ GE111.out | refine qg ?_ GE118.out) | exact HB.out))) : w.heap.size ≤ gb131))
                have n12_ := qA ((by rw [hg]; exact Nat.ne_of_lt (blk_lt (g := gb109) (o := .cells #[.slice A0_0 l0_0.length c0_0, .slice A0_1 l0_1.length c0_1] 25 (0, 0)) (by (with_reducible repeat (first | refine qa ?_ _ | refine qb ?_ | refine qc ?_ _)); exact BK109.out)) : gb109 ≠ gb131))
                have n13_ := qA ((by rw [hg]; exact Nat.ne_of_gt (blk_lt (g := gb109) (o := .cells #[.slice A0_0 l0_0.length c0_0, .slice A0_1 l0_1.length c0_1] 25 (0, 0)) (by (with_reducible repeat (first | refine qa ?_ _ | refine qb ?_ | refine qc ?_ _)); exact BK109.out)) : gb131 ≠ gb109))
                have n14_ := qA ((by rw [hg]; exact Nat.ne_of_lt (blk_lt (g := gb110) (o := .cells #[.slice none 0 0, .slice none 0 0] 25 (0, 0)) (by (with_reducible repeat (first | refine qa ?_ _ | refine qb ?_ | refine qc ?_ _)); exact BK110.out)) : gb110 ≠ gb131))
                have n15_ := qA ((by rw [hg]; exact Nat.ne_of_gt (blk_lt (g := gb110) (o := .cells #[.slice none 0 0, .slice none 0 0] 25 (0, 0)) (by (with_reducible repeat (first | refine qa ?_ _ | refine qb ?_ | refine qc ?_ _)); exact BK110.out)) : gb131 ≠ gb110))
                have n16_ := qA ((by rw [hg]; exact Nat.ne_of_lt (blk_lt (g := gb111) (o := .cells #[.slice none 0 0, .slice none 0 0, .slice none 0 0, .slice none 0 0] 30 (0, 0)) (by (with_reducible repeat (first | refine qa ?_ _ | refine qb ?_ | refine qc ?_ _)); exact BK111.out)) : gb111 ≠ gb131))
                have n17_ := qA ((by rw [hg]; exact Nat.ne_of_gt (blk_lt (g := gb111) (o := .cells #[.slice none 0 0, .slice none 0 0, .slice none 0 0, .slice none 0 0] 30 (0, 0)) (by (with_reducible repeat (first | refine qa ?_ _ | refine qb ?_ | refine qc ?_ _)); exact BK111.out)) : gb131 ≠ gb111))
                have n18_ := qA ((by rw [hg]; exact Nat.ne_of_lt (blk_lt (g := gb118) (o := .cells #[.slice Ao17 t112.length co17, .slice Ao22 t115.length co22] 25 (0, 0)) (by (with_reducible repeat (first | refine qa ?_ _ | refine qb ?_ | refine qc ?_ _)); exact BK118.out)) : gb118 ≠ gb131))
                have n19_ := qA ((by rw [hg]; exact Nat.ne_of_gt (blk_lt (g := gb118) (o := .cells #[.slice Ao17 t112.length co17, .slice Ao22 t115.length co22] 25 (0, 0)) (by (with_reducible repeat (first | refine qa ?_ _ | refine qb ?_ | refine qc ?_ _)); exact BK118.out)) : gb131 ≠ gb118))
                clear HO114
                clear HO117
                clear HO121
                clear HO127
                clear BK109
                clear BK110
                clear BK111
                clear BK118
                clear HB
                have HO114 := n0_
                have HO117 := n1_
                have HO121 := n2_
                have HO127 := n3_
                have BK109 := n4_
                have BK110 := n5_
                have BK111 := n6_
                have BK118 := n7_
                have HB := n8_
                have BK131 := n9_
                have GW131 := n10_
                have GE131 := n11_
                have NB109_131 := n12_
                have NB131_109 := n13_
                have NB110_131 := n14_
                have NB131_110 := n15_
                have NB111_131 := n16_
                have NB131_111 := n17_
                have NB118_131 := n18_
                have NB131_118 := n19_
                clear n0_ n1_ n2_ n3_ n4_ n5_ n6_ n7_ n8_ n9_ n10_ n11_ n12_ n13_ n14_ n15_ n16_ n17_ n18_ n19_
                clear hb hbox hg
                refine hK.out _ _ ⟨(qd BK118.out 0).trans rfl, (qd BK118.out 1).trans rfl⟩ (fun hHeld => ?_)
                clear hK K
                refine norm_ (a' := ?_) ?_ ?_
                rotate_left
                ·show Act.put _ (some 5) _ = _
                 simp only [Act.put, qx, qy, qz, i64_w, i32_w]
                 rfl
                exact norm_ (by first | (simp only [putAll, Act.put, qx, qy, qz]; done) | (simp only [putAll, Act.put, qx, qy, qz]; rfl)) (hJ4_10_13 (_, v126, gb131) _ ⟨hHeld, (by (with_reducible repeat (first | apply qm | apply qn | apply qo)); exact HO114.out), (by (with_reducible repeat (first | apply qm | apply qn | apply qo)); exact HO117.out), (by (with_reducible repeat (first | apply qm | apply qn | apply qo)); exact HO121.out), (by (with_reducible repeat (first | apply qm | apply qn | apply qo)); exact HO127.out), (by (with_reducible repeat (first | refine qa ?_ _ | refine qb ?_ | refine qc ?_ _)); exact BK109.out), (by (with_reducible repeat (first | refine qa ?_ _ | refine qb ?_ | refine qc ?_ _)); exact BK110.out), (by (with_reducible repeat (first | refine qa ?_ _ | refine qb ?_ | refine qc ?_ _)); exact BK111.out), (by (with_reducible repeat (first | refine qa ?_ _ | refine qb ?_ | refine qc ?_ _)); exact BK118.out), (by (with_reducible repeat (first | refine qa ?_ _ | refine qb ?_ | refine qc ?_ _)); exact BK131.out), GW131.out, GE131.out, NB109_131.out, NB131_109.out, NB110_131.out, NB131_110.out, NB111_131.out, NB131_111.out, NB118_131.out, NB131_118.out, (by repeat (first | (with_reducible first | exact HB.out | apply qh | apply qj | apply qi | refine qg ?_ GE109.out | refine qg ?_ GE110.out | refine qg ?_ GE111.out | refine qg ?_ GE118.out | refine qg ?_ GE131.out) | exact HB.out))⟩)
             ·skip
              rintro ⟨v120, v123⟩ w29 ⟨hS_, h0_, h1_, h2_, h3_, h4_, h5_, h6_, h7_⟩
              have n0_ : Aside0 (Kd.R k47 47 w29 w.heap.size (fun k_ => (w.heap.size ≤ k_)) (.slice Ao22 t115.length co22) t115) := ⟨h0_⟩
              have n1_ : Aside0 (Kd.R k42 42 w29 w.heap.size (fun k_ => (w.heap.size ≤ k_) ∧ some k_ ≠ (v123 : Value).ownBlock) v120 y119) := ⟨h1_⟩
              have n2_ : Aside0 (Kd.R k42 42 w29 w.heap.size (fun k_ => (w.heap.size ≤ k_) ∧ some k_ ≠ (v120 : Value).ownBlock) v123 y122) := ⟨h2_⟩
              have n3_ : Aside0 (w29.heap[gb109]? = some (.cells #[.slice A0_0 l0_0.length c0_0, .slice A0_1 l0_1.length c0_1] 25 (0, 0))) := ⟨h3_⟩
              have n4_ : Aside0 (w29.heap[gb110]? = some (.cells #[.slice none 0 0, .slice none 0 0] 25 (0, 0))) := ⟨h4_⟩
              have n5_ : Aside0 (w29.heap[gb111]? = some (.cells #[.slice none 0 0, .slice none 0 0, .slice none 0 0, .slice none 0 0] 30 (0, 0))) := ⟨h5_⟩
              have n6_ : Aside0 (w29.heap[gb118]? = some (.cells #[.slice Ao17 t112.length co17, .slice Ao22 t115.length co22] 25 (0, 0))) := ⟨h6_⟩
              have n7_ : Aside0 (Below w.heap.size w w29) := ⟨h7_⟩
              clear HO114
              clear HO117
              clear BK109
              clear BK110
              clear BK111
              clear BK118
              clear HB
              clear h0_ h1_ h2_ h3_ h4_ h5_ h6_ h7_
              have HO117 := n0_
              have HO121 := n1_
              have HO124 := n2_
              have BK109 := n3_
              have BK110 := n4_
              have BK111 := n5_
              have BK118 := n6_
              have HB := n7_
              clear n0_ n1_ n2_ n3_ n4_ n5_ n6_ n7_
              have hHeld : w29.cell? ⟨gb118, 0, none⟩ = some (.slice Ao17 t112.length co17) ∧ w29.cell? ⟨gb118, 1, none⟩ = some (.slice Ao22 t115.length co22) := hS_
              refine norm_ (a' := ?_) ?_ ?_
              rotate_left
              ·simp only [putAll, Act.put, qx, qy, qz]
               rfl
              refine two_ (i := 10) (j := 13) (Ni := some 18) (Nj := some 5) #[true, true, true, true, true, true, true, true, true, true, true, false, false, false, false] #[true, true, true, true, true, true, true, true, true, true, false, false, false, true, false] rfl rfl rfl rfl (two_of HT_.out (by kernel_rfl)) (by decide) (by decide) (fun K hK => ?_) (fun K hK => ?_)
              ·skip
               refine Kd.R_lit_step k47 _ 47 ?hg (N := 18) ?hd (xs := ([(⟨0, 0, 77, 0⟩ : S47), (⟨0, 0, 77, 0⟩ : S47)] : List (S47))) (inner := [.int .i64 0, .int .i64 0, .int .i64 77, .int .i64 0, .int .i64 0, .int .i64 0, .int .i64 77, .int .i64 0]) (ok := fun _ => True) (okp := fun _ => True) ?hr ?hp (fun _ hk => hk) trivial (Below.refl _ _) (Nat.le_refl _) (by simp) ?_; (case hd => rfl); (case hg => rfl); (case hr => first | (go_simp; done) | (go_simp; rfl)); (case hp => exact (Reps.c4 (show Kd.M k47 _ _ _ (⟨0, 0, 77, 0⟩ : S47) [.int .i64 0, .int .i64 0, .int .i64 77, .int .i64 0] from (k47_mkM _ _ _ (⟨0, 0, 77, 0⟩ : S47) )) (Reps.c4 (show Kd.M k47 _ _ _ (⟨0, 0, 77, 0⟩ : S47) [.int .i64 0, .int .i64 0, .int .i64 77, .int .i64 0] from (k47_mkM _ _ _ (⟨0, 0, 77, 0⟩ : S47) )) (Reps.none _ _))))
               intro v126 w30 ho31 hb hg_ hnew_
               clear hg_ hnew_
               (first | rw [← Ny125.out] at ho31 | (simp only [Int.reduceToNat] at ho31; rw [← Ny125.out] at ho31))
               have n0_ := qA (Kd.R_elder' (by (with_reducible repeat (first | apply qm | apply qn | apply qo)); exact HO117.out) (Kd.R_base ho31) hb)
               have n1_ := qA (Kd.R_below (by (with_reducible repeat (first | apply qm | apply qn | apply qo)); exact HO121.out) hb)
               have n2_ := qA (Kd.R_below (by (with_reducible repeat (first | apply qm | apply qn | apply qo)); exact HO124.out) hb)
               have n3_ := qA (Kd.R_lower (Kd.R_new' (Kd.R_newM (M := fun k_ => (w.heap.size ≤ k_)) ho31 (ql (by repeat (first | (with_reducible first | exact HB.out | apply qh | apply qj | apply qi | refine qg ?_ GE109.out | refine qg ?_ GE110.out | refine qg ?_ GE111.out | refine qg ?_ GE118.out) | exact HB.out))) (fun k_ h_ => h_)) (Kd.R_lt (by (with_reducible repeat (first | apply qm | apply qn | apply qo)); exact HO117.out))) (ql (by repeat (first | (with_reducible first | exact HB.out | apply qh | apply qj | apply qi | refine qg ?_ GE109.out | refine qg ?_ GE110.out | refine qg ?_ GE111.out | refine qg ?_ GE118.out) | exact HB.out))))
               have n4_ := qA (qf (g := gb109) (o := .cells #[.slice A0_0 l0_0.length c0_0, .slice A0_1 l0_1.length c0_1] 25 (0, 0)) (by (with_reducible repeat (first | refine qa ?_ _ | refine qb ?_ | refine qc ?_ _)); exact BK109.out) hb)
               have n5_ := qA (qf (g := gb110) (o := .cells #[.slice none 0 0, .slice none 0 0] 25 (0, 0)) (by (with_reducible repeat (first | refine qa ?_ _ | refine qb ?_ | refine qc ?_ _)); exact BK110.out) hb)
               have n6_ := qA (qf (g := gb111) (o := .cells #[.slice none 0 0, .slice none 0 0, .slice none 0 0, .slice none 0 0] 30 (0, 0)) (by (with_reducible repeat (first | refine qa ?_ _ | refine qb ?_ | refine qc ?_ _)); exact BK111.out) hb)
               have n7_ := qA (qf (g := gb118) (o := .cells #[.slice Ao17 t112.length co17, .slice Ao22 t115.length co22] 25 (0, 0)) (by (with_reducible repeat (first | refine qa ?_ _ | refine qb ?_ | refine qc ?_ _)); exact BK118.out) hb)
               have n8_ := qA (qk (by repeat (first | (with_reducible first | exact HB.out | apply qh | apply qj | apply qi | refine qg ?_ GE109.out | refine qg ?_ GE110.out | refine qg ?_ GE111.out | refine qg ?_ GE118.out) | exact HB.out)) hb)
               clear HO117
               clear HO121
               clear HO124
               clear BK109
               clear BK110
               clear BK111
               clear BK118
               clear HB
               have HO117 := n0_
               have HO121 := n1_
               have HO124 := n2_
               have HO127 := n3_
               have BK109 := n4_
               have BK110 := n5_
               have BK111 := n6_
               have BK118 := n7_
               have HB := n8_
               clear n0_ n1_ n2_ n3_ n4_ n5_ n6_ n7_ n8_
               clear hb ho31
               refine hK.out _ _ ⟨(qd BK118.out 0).trans rfl, (qd BK118.out 1).trans rfl⟩ (fun hHeld => ?_)
               clear hK K
               refine norm_ (a' := ?_) ?_ ?_
               rotate_left
               ·show Act.put _ (some 18) _ = _
                simp only [Act.put, qx, qy, qz, i64_w, i32_w]
                rfl
               exact norm_ (by first | (simp only [putAll, Act.put, qx, qy, qz]; done) | (simp only [putAll, Act.put, qx, qy, qz]; rfl)) (hJ4_5_10 (v120, v123, v126) _ ⟨hHeld, (by (with_reducible repeat (first | apply qm | apply qn | apply qo)); exact HO117.out), (by (with_reducible repeat (first | apply qm | apply qn | apply qo)); exact HO121.out), (by (with_reducible repeat (first | apply qm | apply qn | apply qo)); exact HO124.out), (by (with_reducible repeat (first | apply qm | apply qn | apply qo)); exact qp HO127.out (fun _ hk => ⟨hk.1.1, hk.2⟩)), (by (with_reducible repeat (first | refine qa ?_ _ | refine qb ?_ | refine qc ?_ _)); exact BK109.out), (by (with_reducible repeat (first | refine qa ?_ _ | refine qb ?_ | refine qc ?_ _)); exact BK110.out), (by (with_reducible repeat (first | refine qa ?_ _ | refine qb ?_ | refine qc ?_ _)); exact BK111.out), (by (with_reducible repeat (first | refine qa ?_ _ | refine qb ?_ | refine qc ?_ _)); exact BK118.out), (by repeat (first | (with_reducible first | exact HB.out | apply qh | apply qj | apply qi | refine qg ?_ GE109.out | refine qg ?_ GE110.out | refine qg ?_ GE111.out | refine qg ?_ GE118.out) | exact HB.out))⟩)
              ·skip
               refine box_step ?hg (N := 5) ?hd (cs := #[.slice none 0 0, .slice none 0 0, .slice none 0 0, .slice none 0 0]) (t := 30) ?hr ?_; (case hd => rfl); (case hg => rfl); (case hr => first | (go_simp; done) | (go_simp; rfl))
               intro gb131 hg w30 hbox hb
               have n0_ := qA (Kd.R_below (by (with_reducible repeat (first | apply qm | apply qn | apply qo)); exact HO117.out) hb)
               have n1_ := qA (Kd.R_below (by (with_reducible repeat (first | apply qm | apply qn | apply qo)); exact HO121.out) hb)
               have n2_ := qA (Kd.R_below (by (with_reducible repeat (first | apply qm | apply qn | apply qo)); exact HO124.out) hb)
               have n3_ := qA (qf (g := gb109) (o := .cells #[.slice A0_0 l0_0.length c0_0, .slice A0_1 l0_1.length c0_1] 25 (0, 0)) (by (with_reducible repeat (first | refine qa ?_ _ | refine qb ?_ | refine qc ?_ _)); exact BK109.out) hb)
               have n4_ := qA (qf (g := gb110) (o := .cells #[.slice none 0 0, .slice none 0 0] 25 (0, 0)) (by (with_reducible repeat (first | refine qa ?_ _ | refine qb ?_ | refine qc ?_ _)); exact BK110.out) hb)
               have n5_ := qA (qf (g := gb111) (o := .cells #[.slice none 0 0, .slice none 0 0, .slice none 0 0, .slice none 0 0] 30 (0, 0)) (by (with_reducible repeat (first | refine qa ?_ _ | refine qb ?_ | refine qc ?_ _)); exact BK111.out) hb)
               have n6_ := qA (qf (g := gb118) (o := .cells #[.slice Ao17 t112.length co17, .slice Ao22 t115.length co22] 25 (0, 0)) (by (with_reducible repeat (first | refine qa ?_ _ | refine qb ?_ | refine qc ?_ _)); exact BK118.out) hb)
               have n7_ := qA (qk (by repeat (first | (with_reducible first | exact HB.out | apply qh | apply qj | apply qi | refine qg ?_ GE109.out | refine qg ?_ GE110.out | refine qg ?_ GE111.out | refine qg ?_ GE118.out) | exact HB.out)) hb)
               have n8_ := qA (hbox)
               have n9_ := qA ((by rw [hg]; exact (ql (by repeat (first | (with_reducible first | exact HB.out | apply qh | apply qj | apply qi | refine qg ?_ GE109.out | refine qg ?_ GE110.out | refine qg ?_ GE111.out | refine qg ?_ GE118.out) | exact HB.out))) : w.heap.size ≤ gb131))
               have n10_ := qA ((by rw [hg]; exact (ql (by repeat (first | (with_reducible first | exact HB.out | apply qh | apply qj | apply qi | refine qg ?_ GE109.out | refine qg ?_ GE110.out | refine qg ?_ GE111.out | refine qg ?_ GE118.out) | exact HB.out))) : w.heap.size ≤ gb131))
               have n11_ := qA ((by rw [hg]; exact Nat.ne_of_lt (blk_lt (g := gb109) (o := .cells #[.slice A0_0 l0_0.length c0_0, .slice A0_1 l0_1.length c0_1] 25 (0, 0)) (by (with_reducible repeat (first | refine qa ?_ _ | refine qb ?_ | refine qc ?_ _)); exact BK109.out)) : gb109 ≠ gb131))
               have n12_ := qA ((by rw [hg]; exact Nat.ne_of_gt (blk_lt (g := gb109) (o := .cells #[.slice A0_0 l0_0.length c0_0, .slice A0_1 l0_1.length c0_1] 25 (0, 0)) (by (with_reducible repeat (first | refine qa ?_ _ | refine qb ?_ | refine qc ?_ _)); exact BK109.out)) : gb131 ≠ gb109))
               have n13_ := qA ((by rw [hg]; exact Nat.ne_of_lt (blk_lt (g := gb110) (o := .cells #[.slice none 0 0, .slice none 0 0] 25 (0, 0)) (by (with_reducible repeat (first | refine qa ?_ _ | refine qb ?_ | refine qc ?_ _)); exact BK110.out)) : gb110 ≠ gb131))
               have n14_ := qA ((by rw [hg]; exact Nat.ne_of_gt (blk_lt (g := gb110) (o := .cells #[.slice none 0 0, .slice none 0 0] 25 (0, 0)) (by (with_reducible repeat (first | refine qa ?_ _ | refine qb ?_ | refine qc ?_ _)); exact BK110.out)) : gb131 ≠ gb110))
               have n15_ := qA ((by rw [hg]; exact Nat.ne_of_lt (blk_lt (g := gb111) (o := .cells #[.slice none 0 0, .slice none 0 0, .slice none 0 0, .slice none 0 0] 30 (0, 0)) (by (with_reducible repeat (first | refine qa ?_ _ | refine qb ?_ | refine qc ?_ _)); exact BK111.out)) : gb111 ≠ gb131))
               have n16_ := qA ((by rw [hg]; exact Nat.ne_of_gt (blk_lt (g := gb111) (o := .cells #[.slice none 0 0, .slice none 0 0, .slice none 0 0, .slice none 0 0] 30 (0, 0)) (by (with_reducible repeat (first | refine qa ?_ _ | refine qb ?_ | refine qc ?_ _)); exact BK111.out)) : gb131 ≠ gb111))
               have n17_ := qA ((by rw [hg]; exact Nat.ne_of_lt (blk_lt (g := gb118) (o := .cells #[.slice Ao17 t112.length co17, .slice Ao22 t115.length co22] 25 (0, 0)) (by (with_reducible repeat (first | refine qa ?_ _ | refine qb ?_ | refine qc ?_ _)); exact BK118.out)) : gb118 ≠ gb131))
               have n18_ := qA ((by rw [hg]; exact Nat.ne_of_gt (blk_lt (g := gb118) (o := .cells #[.slice Ao17 t112.length co17, .slice Ao22 t115.length co22] 25 (0, 0)) (by (with_reducible repeat (first | refine qa ?_ _ | refine qb ?_ | refine qc ?_ _)); exact BK118.out)) : gb131 ≠ gb118))
               clear HO117
               clear HO121
               clear HO124
               clear BK109
               clear BK110
               clear BK111
               clear BK118
               clear HB
               have HO117 := n0_
               have HO121 := n1_
               have HO124 := n2_
               have BK109 := n3_
               have BK110 := n4_
               have BK111 := n5_
               have BK118 := n6_
               have HB := n7_
               have BK131 := n8_
               have GW131 := n9_
               have GE131 := n10_
               have NB109_131 := n11_
               have NB131_109 := n12_
               have NB110_131 := n13_
               have NB131_110 := n14_
               have NB111_131 := n15_
               have NB131_111 := n16_
               have NB118_131 := n17_
               have NB131_118 := n18_
               clear n0_ n1_ n2_ n3_ n4_ n5_ n6_ n7_ n8_ n9_ n10_ n11_ n12_ n13_ n14_ n15_ n16_ n17_ n18_
               clear hb hbox hg
               refine hK.out _ _ ⟨(qd BK118.out 0).trans rfl, (qd BK118.out 1).trans rfl⟩ (fun hHeld => ?_)
               clear hK K
               refine norm_ (a' := ?_) ?_ ?_
               rotate_left
               ·show Act.put _ (some 5) _ = _
                simp only [Act.put, qx, qy, qz, i64_w, i32_w]
                rfl
               exact norm_ (by first | (simp only [putAll, Act.put, qx, qy, qz]; done) | (simp only [putAll, Act.put, qx, qy, qz]; rfl)) (hJ4_5_13 (v120, v123, gb131) _ ⟨hHeld, (by (with_reducible repeat (first | apply qm | apply qn | apply qo)); exact HO117.out), (by (with_reducible repeat (first | apply qm | apply qn | apply qo)); exact HO121.out), (by (with_reducible repeat (first | apply qm | apply qn | apply qo)); exact HO124.out), (by (with_reducible repeat (first | refine qa ?_ _ | refine qb ?_ | refine qc ?_ _)); exact BK109.out), (by (with_reducible repeat (first | refine qa ?_ _ | refine qb ?_ | refine qc ?_ _)); exact BK110.out), (by (with_reducible repeat (first | refine qa ?_ _ | refine qb ?_ | refine qc ?_ _)); exact BK111.out), (by (with_reducible repeat (first | refine qa ?_ _ | refine qb ?_ | refine qc ?_ _)); exact BK118.out), (by (with_reducible repeat (first | refine qa ?_ _ | refine qb ?_ | refine qc ?_ _)); exact BK131.out), GW131.out, GE131.out, NB109_131.out, NB131_109.out, NB110_131.out, NB131_110.out, NB111_131.out, NB131_111.out, NB118_131.out, NB131_118.out, (by repeat (first | (with_reducible first | exact HB.out | apply qh | apply qj | apply qi | refine qg ?_ GE109.out | refine qg ?_ GE110.out | refine qg ?_ GE111.out | refine qg ?_ GE118.out | refine qg ?_ GE131.out) | exact HB.out))⟩)
            ·skip
             rintro ⟨v120, v126, gb131⟩ w30 ⟨hS_, h0_, h1_, h2_, h3_, h4_, h5_, h6_, h7_, h8_, h9_, h10_, h11_, h12_, h13_, h14_, h15_, h16_, h17_, h18_, h19_⟩
             have n0_ : Aside0 (Kd.R k42 42 w30 w.heap.size (fun k_ => (w.heap.size ≤ k_) ∧ some k_ ≠ (v120 : Value).ownBlock) (.slice Ao17 t112.length co17) t112) := ⟨h0_⟩
             have n1_ : Aside0 (Kd.R k47 47 w30 w.heap.size (fun k_ => (w.heap.size ≤ k_) ∧ some k_ ≠ (v126 : Value).ownBlock) (.slice Ao22 t115.length co22) t115) := ⟨h1_⟩
             have n2_ : Aside0 (Kd.R k42 42 w30 w.heap.size (fun k_ => (w.heap.size ≤ k_) ∧ some k_ ≠ (.slice Ao17 t112.length co17 : Value).ownBlock) v120 y119) := ⟨h2_⟩
             have n3_ : Aside0 (Kd.R k47 47 w30 w.heap.size (fun k_ => (w.heap.size ≤ k_) ∧ some k_ ≠ (.slice Ao22 t115.length co22 : Value).ownBlock) v126 y125) := ⟨h3_⟩
             have n4_ : Aside0 (w30.heap[gb109]? = some (.cells #[.slice A0_0 l0_0.length c0_0, .slice A0_1 l0_1.length c0_1] 25 (0, 0))) := ⟨h4_⟩
             have n5_ : Aside0 (w30.heap[gb110]? = some (.cells #[.slice none 0 0, .slice none 0 0] 25 (0, 0))) := ⟨h5_⟩
             have n6_ : Aside0 (w30.heap[gb111]? = some (.cells #[.slice none 0 0, .slice none 0 0, .slice none 0 0, .slice none 0 0] 30 (0, 0))) := ⟨h6_⟩
             have n7_ : Aside0 (w30.heap[gb118]? = some (.cells #[.slice Ao17 t112.length co17, .slice Ao22 t115.length co22] 25 (0, 0))) := ⟨h7_⟩
             have n8_ : Aside0 (w30.heap[gb131]? = some (.cells #[.slice none 0 0, .slice none 0 0, .slice none 0 0, .slice none 0 0] 30 (0, 0))) := ⟨h8_⟩
             have n9_ : Aside0 (w.heap.size ≤ gb131) := ⟨h9_⟩
             have n10_ : Aside0 (w.heap.size ≤ gb131) := ⟨h10_⟩
             have n11_ : Aside0 (gb109 ≠ gb131) := ⟨h11_⟩
             have n12_ : Aside0 (gb131 ≠ gb109) := ⟨h12_⟩
             have n13_ : Aside0 (gb110 ≠ gb131) := ⟨h13_⟩
             have n14_ : Aside0 (gb131 ≠ gb110) := ⟨h14_⟩
             have n15_ : Aside0 (gb111 ≠ gb131) := ⟨h15_⟩
             have n16_ : Aside0 (gb131 ≠ gb111) := ⟨h16_⟩
             have n17_ : Aside0 (gb118 ≠ gb131) := ⟨h17_⟩
             have n18_ : Aside0 (gb131 ≠ gb118) := ⟨h18_⟩
             have n19_ : Aside0 (Below w.heap.size w w30) := ⟨h19_⟩
             clear HO114
             clear HO117
             clear BK109
             clear BK110
             clear BK111
             clear BK118
             clear HB
             clear h0_ h1_ h2_ h3_ h4_ h5_ h6_ h7_ h8_ h9_ h10_ h11_ h12_ h13_ h14_ h15_ h16_ h17_ h18_ h19_
             have HO114 := n0_
             have HO117 := n1_
             have HO121 := n2_
             have HO127 := n3_
             have BK109 := n4_
             have BK110 := n5_
             have BK111 := n6_
             have BK118 := n7_
             have BK131 := n8_
             have GW131 := n9_
             have GE131 := n10_
             have NB109_131 := n11_
             have NB131_109 := n12_
             have NB110_131 := n13_
             have NB131_110 := n14_
             have NB111_131 := n15_
             have NB131_111 := n16_
             have NB118_131 := n17_
             have NB131_118 := n18_
             have HB := n19_
             clear n0_ n1_ n2_ n3_ n4_ n5_ n6_ n7_ n8_ n9_ n10_ n11_ n12_ n13_ n14_ n15_ n16_ n17_ n18_ n19_
             have hHeld : w30.cell? ⟨gb118, 0, none⟩ = some (.slice Ao17 t112.length co17) ∧ w30.cell? ⟨gb118, 1, none⟩ = some (.slice Ao22 t115.length co22) := hS_
             obtain ⟨Ao32, co32, eo32⟩ := Kd.R_slice HO121.out
             (first | subst eo32 | (injection eo32 with f1_ f2_ f3_; have f4_ := f1_.symm; have f5_ := f3_.symm; clear f1_ f2_ f3_; subst f4_; subst f5_))
             refine norm_ (a' := ?_) ?_ ?_
             rotate_left
             ·simp only [putAll, Act.put, qx, qy, qz]
              rfl
             refine one_ (i := 5) (N := some 13) #[true, true, true, true, true, true, true, true, true, true, true, false, false, true, false] rfl rfl (one_of HT_.out (by kernel_rfl)) (by decide) (fun K hK => ?_)
             refine Kd.R_append_rows_step k42 (w0 := w) w.heap.size (by rfl) (.tmp 9) (.tmp 12) 22 42 (.agg #[(.string ⟨#[]⟩), (.int .i64 0), (.int .i64 0), (.int .i64 0), (.int .i64 0)]) 48 rfl Tryd.underlying22 info42 rfl (by decide) (by omega) (.slice Ao17 t112.length co17) t112 y119 _ _ _ (fun k_ => (w.heap.size ≤ k_) ∧ some k_ ≠ (.slice Ao32 y119.length co32 : Value).ownBlock) (fun _ => False) rfl rfl ?aO ?aR (fun _ _ h => h) (fun _ h => h.elim) ?aF ?aB ?aS ?aL ?_
             (case aR => repeat (first | exact (Kd.R_reads' HO121.out).2.2 | (with_reducible refine qu ?_ _) | (with_reducible refine qv ?_ _) | (with_reducible refine qw ?_)))
             (case aB => exact (by repeat (first | (with_reducible first | exact HB.out | apply qh | apply qj | apply qi | refine qg ?_ GE109.out | refine qg ?_ GE110.out | refine qg ?_ GE111.out | refine qg ?_ GE118.out | refine qg ?_ GE131.out) | exact HB.out)))
             (case aF => exact (fun k_ hk => ⟨(Nat.le_trans (ql (by repeat (first | (with_reducible first | exact HB.out | apply qh | apply qj | apply qi | refine qg ?_ GE109.out | refine qg ?_ GE110.out | refine qg ?_ GE111.out | refine qg ?_ GE118.out | refine qg ?_ GE131.out) | exact HB.out))) hk), Kd.fresh' (Kd.R_lt (by (with_reducible repeat (first | apply qm | apply qn | apply qo)); exact HO121.out)) k_ hk⟩))
             (case aO => exact (by (with_reducible repeat (first | apply qm | apply qn | apply qo)); exact HO114.out))
             (case aS => exact (ql (by repeat (first | (with_reducible first | exact HB.out | apply qh | apply qj | apply qi | refine qg ?_ GE109.out | refine qg ?_ GE110.out | refine qg ?_ GE111.out | refine qg ?_ GE118.out | refine qg ?_ GE131.out) | exact HB.out))))
             (case aL => have := LMc3.out; omega)
             intro v123 w31 ho hb hg hat
             rw [← Ny122.out] at ho
             have n0_ := qA (qe (g := gb109) (o := .cells #[.slice A0_0 l0_0.length c0_0, .slice A0_1 l0_1.length c0_1] 25 (0, 0)) (by (with_reducible repeat (first | refine qa ?_ _ | refine qb ?_ | refine qc ?_ _)); exact BK109.out) hg (Kd.R_ne HO114.out BK109.out (by decide)))
             have n1_ := qA (qe (g := gb110) (o := .cells #[.slice none 0 0, .slice none 0 0] 25 (0, 0)) (by (with_reducible repeat (first | refine qa ?_ _ | refine qb ?_ | refine qc ?_ _)); exact BK110.out) hg (Kd.R_ne HO114.out BK110.out (by decide)))
             have n2_ := qA (qe (g := gb111) (o := .cells #[.slice none 0 0, .slice none 0 0, .slice none 0 0, .slice none 0 0] 30 (0, 0)) (by (with_reducible repeat (first | refine qa ?_ _ | refine qb ?_ | refine qc ?_ _)); exact BK111.out) hg (Kd.R_ne HO114.out BK111.out (by decide)))
             have n3_ := qA (Kd.R_over' (by (with_reducible repeat (first | apply qm | apply qn | apply qo)); exact HO117.out) (Kd.R_typed (by (with_reducible repeat (first | apply qm | apply qn | apply qo)); exact HO114.out)) (by decide) hg)
             have n4_ := qA (qe (g := gb118) (o := .cells #[.slice Ao17 t112.length co17, .slice Ao22 t115.length co22] 25 (0, 0)) (by (with_reducible repeat (first | refine qa ?_ _ | refine qb ?_ | refine qc ?_ _)); exact BK118.out) hg (Kd.R_ne HO114.out BK118.out (by decide)))
             have n5_ := qA (Kd.R_after (ok := (fun k_ => (w.heap.size ≤ k_))) (by (with_reducible repeat (first | apply qm | apply qn | apply qo)); exact HO121.out) hg hat)
             have n6_ := qA (Kd.R_over' (by (with_reducible repeat (first | apply qm | apply qn | apply qo)); exact HO127.out) (Kd.R_typed (by (with_reducible repeat (first | apply qm | apply qn | apply qo)); exact HO114.out)) (by decide) hg)
             have n7_ := qA (qe (g := gb131) (o := .cells #[.slice none 0 0, .slice none 0 0, .slice none 0 0, .slice none 0 0] 30 (0, 0)) (by (with_reducible repeat (first | refine qa ?_ _ | refine qb ?_ | refine qc ?_ _)); exact BK131.out) hg (Kd.R_ne HO114.out BK131.out (by decide)))
             have n8_ := qA (hb)
             have n9_ := qA (ho)
             clear BK109
             clear BK110
             clear BK111
             clear HO117
             clear BK118
             clear HO121
             clear HO127
             clear BK131
             clear HB
             clear HO114
             have BK109 := n0_
             have BK110 := n1_
             have BK111 := n2_
             have HO117 := n3_
             have BK118 := n4_
             have HO121 := n5_
             have HO127 := n6_
             have BK131 := n7_
             have HB := n8_
             have HO124 := n9_
             clear n0_ n1_ n2_ n3_ n4_ n5_ n6_ n7_ n8_ n9_
             clear ho hb hg hat
             refine hK.out _ _ ⟨(qd BK118.out 0).trans rfl, (qd BK118.out 1).trans rfl⟩ (fun hHeld => ?_)
             clear hK K
             refine norm_ (a' := ?_) ?_ ?_
             rotate_left
             ·show Act.put _ (some 13) _ = _
              simp only [Act.put, qx, qy, qz, i64_w, i32_w]
              rfl
             exact norm_ (by first | (simp only [putAll, Act.put, qx, qy, qz]; done) | (simp only [putAll, Act.put, qx, qy, qz]; rfl)) (hJ4_5_10_13 (.slice Ao32 y119.length co32, v123, v126, gb131) _ ⟨hHeld, (by (with_reducible repeat (first | apply qm | apply qn | apply qo)); exact HO117.out), (by (with_reducible repeat (first | apply qm | apply qn | apply qo)); exact HO121.out), (by (with_reducible repeat (first | apply qm | apply qn | apply qo)); exact HO124.out), (by (with_reducible repeat (first | apply qm | apply qn | apply qo)); exact HO127.out), (by (with_reducible repeat (first | refine qa ?_ _ | refine qb ?_ | refine qc ?_ _)); exact BK109.out), (by (with_reducible repeat (first | refine qa ?_ _ | refine qb ?_ | refine qc ?_ _)); exact BK110.out), (by (with_reducible repeat (first | refine qa ?_ _ | refine qb ?_ | refine qc ?_ _)); exact BK111.out), (by (with_reducible repeat (first | refine qa ?_ _ | refine qb ?_ | refine qc ?_ _)); exact BK118.out), (by (with_reducible repeat (first | refine qa ?_ _ | refine qb ?_ | refine qc ?_ _)); exact BK131.out), GW131.out, GE131.out, NB109_131.out, NB131_109.out, NB110_131.out, NB131_110.out, NB111_131.out, NB131_111.out, NB118_131.out, NB131_118.out, (by repeat (first | (with_reducible first | exact HB.out | apply qh | apply qj | apply qi | refine qg ?_ GE109.out | refine qg ?_ GE110.out | refine qg ?_ GE111.out | refine qg ?_ GE118.out | refine qg ?_ GE131.out) | exact HB.out))⟩)
           ·skip
            rintro ⟨v120, v123, gb131⟩ w30 ⟨hS_, h0_, h1_, h2_, h3_, h4_, h5_, h6_, h7_, h8_, h9_, h10_, h11_, h12_, h13_, h14_, h15_, h16_, h17_, h18_⟩
            have n0_ : Aside0 (Kd.R k47 47 w30 w.heap.size (fun k_ => (w.heap.size ≤ k_)) (.slice Ao22 t115.length co22) t115) := ⟨h0_⟩
            have n1_ : Aside0 (Kd.R k42 42 w30 w.heap.size (fun k_ => (w.heap.size ≤ k_) ∧ some k_ ≠ (v123 : Value).ownBlock) v120 y119) := ⟨h1_⟩
            have n2_ : Aside0 (Kd.R k42 42 w30 w.heap.size (fun k_ => (w.heap.size ≤ k_) ∧ some k_ ≠ (v120 : Value).ownBlock) v123 y122) := ⟨h2_⟩
            have n3_ : Aside0 (w30.heap[gb109]? = some (.cells #[.slice A0_0 l0_0.length c0_0, .slice A0_1 l0_1.length c0_1] 25 (0, 0))) := ⟨h3_⟩
            have n4_ : Aside0 (w30.heap[gb110]? = some (.cells #[.slice none 0 0, .slice none 0 0] 25 (0, 0))) := ⟨h4_⟩
            have n5_ : Aside0 (w30.heap[gb111]? = some (.cells #[.slice none 0 0, .slice none 0 0, .slice none 0 0, .slice none 0 0] 30 (0, 0))) := ⟨h5_⟩
            have n6_ : Aside0 (w30.heap[gb118]? = some (.cells #[.slice Ao17 t112.length co17, .slice Ao22 t115.length co22] 25 (0, 0))) := ⟨h6_⟩
            have n7_ : Aside0 (w30.heap[gb131]? = some (.cells #[.slice none 0 0, .slice none 0 0, .slice none 0 0, .slice none 0 0] 30 (0, 0))) := ⟨h7_⟩
            have n8_ : Aside0 (w.heap.size ≤ gb131) := ⟨h8_⟩
            have n9_ : Aside0 (w.heap.size ≤ gb131) := ⟨h9_⟩
            have n10_ : Aside0 (gb109 ≠ gb131) := ⟨h10_⟩
            have n11_ : Aside0 (gb131 ≠ gb109) := ⟨h11_⟩
            have n12_ : Aside0 (gb110 ≠ gb131) := ⟨h12_⟩
            have n13_ : Aside0 (gb131 ≠ gb110) := ⟨h13_⟩
            have n14_ : Aside0 (gb111 ≠ gb131) := ⟨h14_⟩
            have n15_ : Aside0 (gb131 ≠ gb111) := ⟨h15_⟩
            have n16_ : Aside0 (gb118 ≠ gb131) := ⟨h16_⟩
            have n17_ : Aside0 (gb131 ≠ gb118) := ⟨h17_⟩
            have n18_ : Aside0 (Below w.heap.size w w30) := ⟨h18_⟩
            clear HO114
            clear HO117
            clear BK109
            clear BK110
            clear BK111
            clear BK118
            clear HB
            clear h0_ h1_ h2_ h3_ h4_ h5_ h6_ h7_ h8_ h9_ h10_ h11_ h12_ h13_ h14_ h15_ h16_ h17_ h18_
            have HO117 := n0_
            have HO121 := n1_
            have HO124 := n2_
            have BK109 := n3_
            have BK110 := n4_
            have BK111 := n5_
            have BK118 := n6_
            have BK131 := n7_
            have GW131 := n8_
            have GE131 := n9_
            have NB109_131 := n10_
            have NB131_109 := n11_
            have NB110_131 := n12_
            have NB131_110 := n13_
            have NB111_131 := n14_
            have NB131_111 := n15_
            have NB118_131 := n16_
            have NB131_118 := n17_
            have HB := n18_
            clear n0_ n1_ n2_ n3_ n4_ n5_ n6_ n7_ n8_ n9_ n10_ n11_ n12_ n13_ n14_ n15_ n16_ n17_ n18_
            have hHeld : w30.cell? ⟨gb118, 0, none⟩ = some (.slice Ao17 t112.length co17) ∧ w30.cell? ⟨gb118, 1, none⟩ = some (.slice Ao22 t115.length co22) := hS_
            refine norm_ (a' := ?_) ?_ ?_
            rotate_left
            ·simp only [putAll, Act.put, qx, qy, qz]
             rfl
            refine one_ (i := 10) (N := some 18) #[true, true, true, true, true, true, true, true, true, true, true, false, false, true, false] rfl rfl (one_of HT_.out (by kernel_rfl)) (by decide) (fun K hK => ?_)
            refine Kd.R_lit_step k47 _ 47 ?hg (N := 18) ?hd (xs := ([(⟨0, 0, 77, 0⟩ : S47), (⟨0, 0, 77, 0⟩ : S47)] : List (S47))) (inner := [.int .i64 0, .int .i64 0, .int .i64 77, .int .i64 0, .int .i64 0, .int .i64 0, .int .i64 77, .int .i64 0]) (ok := fun _ => True) (okp := fun _ => True) ?hr ?hp (fun _ hk => hk) trivial (Below.refl _ _) (Nat.le_refl _) (by simp) ?_; (case hd => rfl); (case hg => rfl); (case hr => first | (go_simp; done) | (go_simp; rfl)); (case hp => exact (Reps.c4 (show Kd.M k47 _ _ _ (⟨0, 0, 77, 0⟩ : S47) [.int .i64 0, .int .i64 0, .int .i64 77, .int .i64 0] from (k47_mkM _ _ _ (⟨0, 0, 77, 0⟩ : S47) )) (Reps.c4 (show Kd.M k47 _ _ _ (⟨0, 0, 77, 0⟩ : S47) [.int .i64 0, .int .i64 0, .int .i64 77, .int .i64 0] from (k47_mkM _ _ _ (⟨0, 0, 77, 0⟩ : S47) )) (Reps.none _ _))))
            intro v126 w31 ho32 hb hg_ hnew_
            clear hg_ hnew_
            (first | rw [← Ny125.out] at ho32 | (simp only [Int.reduceToNat] at ho32; rw [← Ny125.out] at ho32))
            have n0_ := qA (Kd.R_elder' (by (with_reducible repeat (first | apply qm | apply qn | apply qo)); exact HO117.out) (Kd.R_base ho32) hb)
            have n1_ := qA (Kd.R_below (by (with_reducible repeat (first | apply qm | apply qn | apply qo)); exact HO121.out) hb)
            have n2_ := qA (Kd.R_below (by (with_reducible repeat (first | apply qm | apply qn | apply qo)); exact HO124.out) hb)
            have n3_ := qA (Kd.R_lower (Kd.R_new' (Kd.R_newM (M := fun k_ => (w.heap.size ≤ k_)) ho32 (ql (by repeat (first | (with_reducible first | exact HB.out | apply qh | apply qj | apply qi | refine qg ?_ GE109.out | refine qg ?_ GE110.out | refine qg ?_ GE111.out | refine qg ?_ GE118.out | refine qg ?_ GE131.out) | exact HB.out))) (fun k_ h_ => h_)) (Kd.R_lt (by (with_reducible repeat (first | apply qm | apply qn | apply qo)); exact HO117.out))) (ql (by repeat (first | (with_reducible first | exact HB.out | apply qh | apply qj | apply qi | refine qg ?_ GE109.out | refine qg ?_ GE110.out | refine qg ?_ GE111.out | refine qg ?_ GE118.out | refine qg ?_ GE131.out) | exact HB.out))))
            have n4_ := qA (qf (g := gb109) (o := .cells #[.slice A0_0 l0_0.length c0_0, .slice A0_1 l0_1.length c0_1] 25 (0, 0)) (by (with_reducible repeat (first | refine qa ?_ _ | refine qb ?_ | refine qc ?_ _)); exact BK109.out) hb)
            have n5_ := qA (qf (g := gb110) (o := .cells #[.slice none 0 0, .slice none 0 0] 25 (0, 0)) (by (with_reducible repeat (first | refine qa ?_ _ | refine qb ?_ | refine qc ?_ _)); exact BK110.out) hb)
            have n6_ := qA (qf (g := gb111) (o := .cells #[.slice none 0 0, .slice none 0 0, .slice none 0 0, .slice none 0 0] 30 (0, 0)) (by (with_reducible repeat (first | refine qa ?_ _ | refine qb ?_ | refine qc ?_ _)); exact BK111.out) hb)
            have n7_ := qA (qf (g := gb118) (o := .cells #[.slice Ao17 t112.length co17, .slice Ao22 t115.length co22] 25 (0, 0)) (by (with_reducible repeat (first | refine qa ?_ _ | refine qb ?_ | refine qc ?_ _)); exact BK118.out) hb)
            have n8_ := qA (qf (g := gb131) (o := .cells #[.slice none 0 0, .slice none 0 0, .slice none 0 0, .slice none 0 0] 30 (0, 0)) (by (with_reducible repeat (first | refine qa ?_ _ | refine qb ?_ | refine qc ?_ _)); exact BK131.out) hb)
            have n9_ := qA (qk (by repeat (first | (with_reducible first | exact HB.out | apply qh | apply qj | apply qi | refine qg ?_ GE109.out | refine qg ?_ GE110.out | refine qg ?_ GE111.out | refine qg ?_ GE118.out | refine qg ?_ GE131.out) | exact HB.out)) hb)
            clear HO117
            clear HO121
            clear HO124
            clear BK109
            clear BK110
            clear BK111
            clear BK118
            clear BK131
            clear HB
            have HO117 := n0_
            have HO121 := n1_
            have HO124 := n2_
            have HO127 := n3_
            have BK109 := n4_
            have BK110 := n5_
            have BK111 := n6_
            have BK118 := n7_
            have BK131 := n8_
            have HB := n9_
            clear n0_ n1_ n2_ n3_ n4_ n5_ n6_ n7_ n8_ n9_
            clear hb ho32
            refine hK.out _ _ ⟨(qd BK118.out 0).trans rfl, (qd BK118.out 1).trans rfl⟩ (fun hHeld => ?_)
            clear hK K
            refine norm_ (a' := ?_) ?_ ?_
            rotate_left
            ·show Act.put _ (some 18) _ = _
             simp only [Act.put, qx, qy, qz, i64_w, i32_w]
             rfl
            exact norm_ (by first | (simp only [putAll, Act.put, qx, qy, qz]; done) | (simp only [putAll, Act.put, qx, qy, qz]; rfl)) (hJ4_5_10_13 (v120, v123, v126, gb131) _ ⟨hHeld, (by (with_reducible repeat (first | apply qm | apply qn | apply qo)); exact HO117.out), (by (with_reducible repeat (first | apply qm | apply qn | apply qo)); exact HO121.out), (by (with_reducible repeat (first | apply qm | apply qn | apply qo)); exact HO124.out), (by (with_reducible repeat (first | apply qm | apply qn | apply qo)); exact qp HO127.out (fun _ hk => ⟨hk.1.1, hk.2⟩)), (by (with_reducible repeat (first | refine qa ?_ _ | refine qb ?_ | refine qc ?_ _)); exact BK109.out), (by (with_reducible repeat (first | refine qa ?_ _ | refine qb ?_ | refine qc ?_ _)); exact BK110.out), (by (with_reducible repeat (first | refine qa ?_ _ | refine qb ?_ | refine qc ?_ _)); exact BK111.out), (by (with_reducible repeat (first | refine qa ?_ _ | refine qb ?_ | refine qc ?_ _)); exact BK118.out), (by (with_reducible repeat (first | refine qa ?_ _ | refine qb ?_ | refine qc ?_ _)); exact BK131.out), GW131.out, GE131.out, NB109_131.out, NB131_109.out, NB110_131.out, NB131_110.out, NB111_131.out, NB131_111.out, NB118_131.out, NB131_118.out, (by repeat (first | (with_reducible first | exact HB.out | apply qh | apply qj | apply qi | refine qg ?_ GE109.out | refine qg ?_ GE110.out | refine qg ?_ GE111.out | refine qg ?_ GE118.out | refine qg ?_ GE131.out) | exact HB.out))⟩)
          ·skip
           rintro ⟨v120, v123, v126⟩ w31 ⟨hS_, h0_, h1_, h2_, h3_, h4_, h5_, h6_, h7_, h8_⟩
           have n0_ : Aside0 (Kd.R k47 47 w31 w.heap.size (fun k_ => (w.heap.size ≤ k_) ∧ some k_ ≠ (v126 : Value).ownBlock) (.slice Ao22 t115.length co22) t115) := ⟨h0_⟩
           have n1_ : Aside0 (Kd.R k42 42 w31 w.heap.size (fun k_ => (w.heap.size ≤ k_) ∧ some k_ ≠ (v123 : Value).ownBlock) v120 y119) := ⟨h1_⟩
           have n2_ : Aside0 (Kd.R k42 42 w31 w.heap.size (fun k_ => (w.heap.size ≤ k_) ∧ some k_ ≠ (v120 : Value).ownBlock) v123 y122) := ⟨h2_⟩
           have n3_ : Aside0 (Kd.R k47 47 w31 w.heap.size (fun k_ => (w.heap.size ≤ k_) ∧ some k_ ≠ (.slice Ao22 t115.length co22 : Value).ownBlock) v126 y125) := ⟨h3_⟩
           have n4_ : Aside0 (w31.heap[gb109]? = some (.cells #[.slice A0_0 l0_0.length c0_0, .slice A0_1 l0_1.length c0_1] 25 (0, 0))) := ⟨h4_⟩
           have n5_ : Aside0 (w31.heap[gb110]? = some (.cells #[.slice none 0 0, .slice none 0 0] 25 (0, 0))) := ⟨h5_⟩
           have n6_ : Aside0 (w31.heap[gb111]? = some (.cells #[.slice none 0 0, .slice none 0 0, .slice none 0 0, .slice none 0 0] 30 (0, 0))) := ⟨h6_⟩
           have n7_ : Aside0 (w31.heap[gb118]? = some (.cells #[.slice Ao17 t112.length co17, .slice Ao22 t115.length co22] 25 (0, 0))) := ⟨h7_⟩
           have n8_ : Aside0 (Below w.heap.size w w31) := ⟨h8_⟩
           clear HO114
           clear HO117
           clear BK109
           clear BK110
           clear BK111
           clear BK118
           clear HB
           clear h0_ h1_ h2_ h3_ h4_ h5_ h6_ h7_ h8_
           have HO117 := n0_
           have HO121 := n1_
           have HO124 := n2_
           have HO127 := n3_
           have BK109 := n4_
           have BK110 := n5_
           have BK111 := n6_
           have BK118 := n7_
           have HB := n8_
           clear n0_ n1_ n2_ n3_ n4_ n5_ n6_ n7_ n8_
           have hHeld : w31.cell? ⟨gb118, 0, none⟩ = some (.slice Ao17 t112.length co17) ∧ w31.cell? ⟨gb118, 1, none⟩ = some (.slice Ao22 t115.length co22) := hS_
           obtain ⟨Ao33, co33, eo33⟩ := Kd.R_slice HO127.out
           (first | subst eo33 | (injection eo33 with f1_ f2_ f3_; have f4_ := f1_.symm; have f5_ := f3_.symm; clear f1_ f2_ f3_; subst f4_; subst f5_))
           refine norm_ (a' := ?_) ?_ ?_
           rotate_left
           ·simp only [putAll, Act.put, qx, qy, qz]
            rfl
           refine two_ (i := 11) (j := 13) (Ni := some 19) (Nj := some 5) #[true, true, true, true, true, true, true, true, true, true, true, true, false, false, false] #[true, true, true, true, true, true, true, true, true, true, true, false, false, true, false] rfl rfl rfl rfl (two_of HT_.out (by kernel_rfl)) (by decide) (by decide) (fun K hK => ?_) (fun K hK => ?_)
           ·skip
            refine Kd.R_append_rows_step k47 (w0 := w) w.heap.size (by rfl) (.tmp 15) (.tmp 18) 23 47 (.agg #[(.int .i64 0), (.int .i64 0), (.int .i64 0), (.int .i64 0)]) 32 rfl Tryd.underlying23 info47 rfl (by decide) (by omega) (.slice Ao22 t115.length co22) t115 y125 _ _ _ (fun k_ => (w.heap.size ≤ k_) ∧ some k_ ≠ (.slice Ao33 y125.length co33 : Value).ownBlock) (fun _ => False) rfl rfl ?aO ?aR (fun _ _ h => h) (fun _ h => h.elim) ?aF ?aB ?aS ?aL ?_
            (case aR => repeat (first | exact (Kd.R_reads' HO127.out).2.2 | (with_reducible refine qu ?_ _) | (with_reducible refine qv ?_ _) | (with_reducible refine qw ?_)))
            (case aB => exact (by repeat (first | (with_reducible first | exact HB.out | apply qh | apply qj | apply qi | refine qg ?_ GE109.out | refine qg ?_ GE110.out | refine qg ?_ GE111.out | refine qg ?_ GE118.out) | exact HB.out)))
            (case aF => exact (fun k_ hk => ⟨(Nat.le_trans (ql (by repeat (first | (with_reducible first | exact HB.out | apply qh | apply qj | apply qi | refine qg ?_ GE109.out | refine qg ?_ GE110.out | refine qg ?_ GE111.out | refine qg ?_ GE118.out) | exact HB.out))) hk), Kd.fresh' (Kd.R_lt (by (with_reducible repeat (first | apply qm | apply qn | apply qo)); exact HO127.out)) k_ hk⟩))
            (case aO => exact (by (with_reducible repeat (first | apply qm | apply qn | apply qo)); exact HO117.out))
            (case aS => exact (ql (by repeat (first | (with_reducible first | exact HB.out | apply qh | apply qj | apply qi | refine qg ?_ GE109.out | refine qg ?_ GE110.out | refine qg ?_ GE111.out | refine qg ?_ GE118.out) | exact HB.out))))
            (case aL => have := LMc4.out; omega)
            intro v129 w32 ho hb hg hat
            rw [← Ny128.out] at ho
            have n0_ := qA (qe (g := gb109) (o := .cells #[.slice A0_0 l0_0.length c0_0, .slice A0_1 l0_1.length c0_1] 25 (0, 0)) (by (with_reducible repeat (first | refine qa ?_ _ | refine qb ?_ | refine qc ?_ _)); exact BK109.out) hg (Kd.R_ne HO117.out BK109.out (by decide)))
            have n1_ := qA (qe (g := gb110) (o := .cells #[.slice none 0 0, .slice none 0 0] 25 (0, 0)) (by (with_reducible repeat (first | refine qa ?_ _ | refine qb ?_ | refine qc ?_ _)); exact BK110.out) hg (Kd.R_ne HO117.out BK110.out (by decide)))
            have n2_ := qA (qe (g := gb111) (o := .cells #[.slice none 0 0, .slice none 0 0, .slice none 0 0, .slice none 0 0] 30 (0, 0)) (by (with_reducible repeat (first | refine qa ?_ _ | refine qb ?_ | refine qc ?_ _)); exact BK111.out) hg (Kd.R_ne HO117.out BK111.out (by decide)))
            have n3_ := qA (qe (g := gb118) (o := .cells #[.slice Ao17 t112.length co17, .slice Ao22 t115.length co22] 25 (0, 0)) (by (with_reducible repeat (first | refine qa ?_ _ | refine qb ?_ | refine qc ?_ _)); exact BK118.out) hg (Kd.R_ne HO117.out BK118.out (by decide)))
            have n4_ := qA (Kd.R_over' (by (with_reducible repeat (first | apply qm | apply qn | apply qo)); exact HO121.out) (Kd.R_typed (by (with_reducible repeat (first | apply qm | apply qn | apply qo)); exact HO117.out)) (by decide) hg)
            have n5_ := qA (Kd.R_over' (by (with_reducible repeat (first | apply qm | apply qn | apply qo)); exact HO124.out) (Kd.R_typed (by (with_reducible repeat (first | apply qm | apply qn | apply qo)); exact HO117.out)) (by decide) hg)
            have n6_ := qA (Kd.R_after (ok := (fun k_ => (w.heap.size ≤ k_))) (by (with_reducible repeat (first | apply qm | apply qn | apply qo)); exact HO127.out) hg hat)
            have n7_ := qA (hb)
            have n8_ := qA (ho)
            clear BK109
            clear BK110
            clear BK111
            clear BK118
            clear HO121
            clear HO124
            clear HO127
            clear HB
            clear HO117
            have BK109 := n0_
            have BK110 := n1_
            have BK111 := n2_
            have BK118 := n3_
            have HO121 := n4_
            have HO124 := n5_
            have HO127 := n6_
            have HB := n7_
            have HO130 := n8_
            clear n0_ n1_ n2_ n3_ n4_ n5_ n6_ n7_ n8_
            clear ho hb hg hat
            obtain ⟨Ao34, co34, eo34⟩ := Kd.R_slice HO130.out
            (first | subst eo34 | (injection eo34 with f1_ f2_ f3_; have f4_ := f1_.symm; have f5_ := f3_.symm; clear f1_ f2_ f3_; subst f4_; subst f5_))
            obtain ⟨Ao35, co35, eo35⟩ := Kd.R_slice HO124.out
            (first | subst eo35 | (injection eo35 with f1_ f2_ f3_; have f4_ := f1_.symm; have f5_ := f3_.symm; clear f1_ f2_ f3_; subst f4_; subst f5_))
            refine hK.out _ _ ⟨(qd BK118.out 0).trans rfl, (qd BK118.out 1).trans rfl⟩ (fun hHeld => ?_)
            clear hK K
            refine norm_ (a' := ?_) ?_ ?_
            rotate_left
            ·show Act.put _ (some 19) _ = _
             simp only [Act.put, qx, qy, qz, i64_w, i32_w]
             rfl
            refine pure_ (i := 12) (N := some 20) (v := ?_) (a' := ?_) #[true, true, true, true, true, true, true, true, true, true, true, true, true, false, false] rfl rfl (any_of HT_.out (by kernel_rfl)) (fun _ _ _ h => h) (Or.inl ⟨by rfl, ?_⟩) ?_ ?_
            rotate_left
            ·intro w'
             go_simp
             with_reducible rfl
            rotate_left
            ·simp only [Act.put, qx, qy, qz, i64_w, i32_w]
             rfl
            exact norm_ (by first | (simp only [putAll, Act.put, qx, qy, qz]; done) | (simp only [putAll, Act.put, qx, qy, qz]; rfl)) (hJ4_5_10_11 (v120, .slice Ao35 y122.length co35, .slice Ao33 y125.length co33, .slice Ao34 y128.length co34) _ ⟨hHeld, (by (with_reducible repeat (first | apply qm | apply qn | apply qo)); exact HO121.out), (by (with_reducible repeat (first | apply qm | apply qn | apply qo)); exact HO124.out), (by (with_reducible repeat (first | apply qm | apply qn | apply qo)); exact HO127.out), (by (with_reducible repeat (first | apply qm | apply qn | apply qo)); exact HO130.out), (by (with_reducible repeat (first | refine qa ?_ _ | refine qb ?_ | refine qc ?_ _)); exact BK109.out), (by (with_reducible repeat (first | refine qa ?_ _ | refine qb ?_ | refine qc ?_ _)); exact BK110.out), (by (with_reducible repeat (first | refine qa ?_ _ | refine qb ?_ | refine qc ?_ _)); exact BK111.out), (by (with_reducible repeat (first | refine qa ?_ _ | refine qb ?_ | refine qc ?_ _)); exact BK118.out), (by repeat (first | (with_reducible first | exact HB.out | apply qh | apply qj | apply qi | refine qg ?_ GE109.out | refine qg ?_ GE110.out | refine qg ?_ GE111.out | refine qg ?_ GE118.out) | exact HB.out))⟩)
           ·skip
            refine box_step ?hg (N := 5) ?hd (cs := #[.slice none 0 0, .slice none 0 0, .slice none 0 0, .slice none 0 0]) (t := 30) ?hr ?_; (case hd => rfl); (case hg => rfl); (case hr => first | (go_simp; done) | (go_simp; rfl))
            intro gb131 hg w32 hbox hb
            have n0_ := qA (Kd.R_below (by (with_reducible repeat (first | apply qm | apply qn | apply qo)); exact HO117.out) hb)
            have n1_ := qA (Kd.R_below (by (with_reducible repeat (first | apply qm | apply qn | apply qo)); exact HO121.out) hb)
            have n2_ := qA (Kd.R_below (by (with_reducible repeat (first | apply qm | apply qn | apply qo)); exact HO124.out) hb)
            have n3_ := qA (Kd.R_below (by (with_reducible repeat (first | apply qm | apply qn | apply qo)); exact HO127.out) hb)
            have n4_ := qA (qf (g := gb109) (o := .cells #[.slice A0_0 l0_0.length c0_0, .slice A0_1 l0_1.length c0_1] 25 (0, 0)) (by (with_reducible repeat (first | refine qa ?_ _ | refine qb ?_ | refine qc ?_ _)); exact BK109.out) hb)
            have n5_ := qA (qf (g := gb110) (o := .cells #[.slice none 0 0, .slice none 0 0] 25 (0, 0)) (by (with_reducible repeat (first | refine qa ?_ _ | refine qb ?_ | refine qc ?_ _)); exact BK110.out) hb)
            have n6_ := qA (qf (g := gb111) (o := .cells #[.slice none 0 0, .slice none 0 0, .slice none 0 0, .slice none 0 0] 30 (0, 0)) (by (with_reducible repeat (first | refine qa ?_ _ | refine qb ?_ | refine qc ?_ _)); exact BK111.out) hb)
            have n7_ := qA (qf (g := gb118) (o := .cells #[.slice Ao17 t112.length co17, .slice Ao22 t115.length co22] 25 (0, 0)) (by (with_reducible repeat (first | refine qa ?_ _ | refine qb ?_ | refine qc ?_ _)); exact BK118.out) hb)
            have n8_ := qA (qk (by repeat (first | (with_reducible first | exact HB.out | apply qh | apply qj | apply qi | refine qg ?_ GE109.out | refine qg ?_ GE110.out | refine qg ?_ GE111.out | refine qg ?_ GE118.out) | exact HB.out)) hb)
            have n9_ := qA (hbox)
            have n10_ := qA ((by rw [hg]; exact (ql (by repeat (first | (with_reducible first | exact HB.out | apply qh | apply qj | apply qi | refine qg ?_ GE109.out | refine qg ?_ GE110.out | refine qg ?_ GE111.out | refine qg ?_ GE118.out) | exact HB.out))) : w.heap.size ≤ gb131))
            have n11_ := qA ((by rw [hg]; exact (ql (by repeat (first | (with_reducible first | exact HB.out | apply qh | apply qj | apply qi | refine qg ?_ GE109.out | refine qg ?_ GE110.out | refine qg ?_ GE111.out | refine qg ?_ GE118.out) | exact HB.out))) : w.heap.size ≤ gb131))
            have n12_ := qA ((by rw [hg]; exact Nat.ne_of_lt (blk_lt (g := gb109) (o := .cells #[.slice A0_0 l0_0.length c0_0, .slice A0_1 l0_1.length c0_1] 25 (0, 0)) (by (with_reducible repeat (first | refine qa ?_ _ | refine qb ?_ | refine qc ?_ _)); exact BK109.out)) : gb109 ≠ gb131))
            have n13_ := qA ((by rw [hg]; exact Nat.ne_of_gt (blk_lt (g := gb109) (o := .cells #[.slice A0_0 l0_0.length c0_0, .slice A0_1 l0_1.length c0_1] 25 (0, 0)) (by (with_reducible repeat (first | refine qa ?_ _ | refine qb ?_ | refine qc ?_ _)); exact BK109.out)) : gb131 ≠ gb109))
            have n14_ := qA ((by rw [hg]; exact Nat.ne_of_lt (blk_lt (g := gb110) (o := .cells #[.slice none 0 0, .slice none 0 0] 25 (0, 0)) (by (with_reducible repeat (first | refine qa ?_ _ | refine qb ?_ | refine qc ?_ _)); exact BK110.out)) : gb110 ≠ gb131))
            have n15_ := qA ((by rw [hg]; exact Nat.ne_of_gt (blk_lt (g := gb110) (o := .cells #[.slice none 0 0, .slice none 0 0] 25 (0, 0)) (by (with_reducible repeat (first | refine qa ?_ _ | refine qb ?_ | refine qc ?_ _)); exact BK110.out)) : gb131 ≠ gb110))
            have n16_ := qA ((by rw [hg]; exact Nat.ne_of_lt (blk_lt (g := gb111) (o := .cells #[.slice none 0 0, .slice none 0 0, .slice none 0 0, .slice none 0 0] 30 (0, 0)) (by (with_reducible repeat (first | refine qa ?_ _ | refine qb ?_ | refine qc ?_ _)); exact BK111.out)) : gb111 ≠ gb131))
            have n17_ := qA ((by rw [hg]; exact Nat.ne_of_gt (blk_lt (g := gb111) (o := .cells #[.slice none 0 0, .slice none 0 0, .slice none 0 0, .slice none 0 0] 30 (0, 0)) (by (with_reducible repeat (first | refine qa ?_ _ | refine qb ?_ | refine qc ?_ _)); exact BK111.out)) : gb131 ≠ gb111))
            have n18_ := qA ((by rw [hg]; exact Nat.ne_of_lt (blk_lt (g := gb118) (o := .cells #[.slice Ao17 t112.length co17, .slice Ao22 t115.length co22] 25 (0, 0)) (by (with_reducible repeat (first | refine qa ?_ _ | refine qb ?_ | refine qc ?_ _)); exact BK118.out)) : gb118 ≠ gb131))
            have n19_ := qA ((by rw [hg]; exact Nat.ne_of_gt (blk_lt (g := gb118) (o := .cells #[.slice Ao17 t112.length co17, .slice Ao22 t115.length co22] 25 (0, 0)) (by (with_reducible repeat (first | refine qa ?_ _ | refine qb ?_ | refine qc ?_ _)); exact BK118.out)) : gb131 ≠ gb118))
            clear HO117
            clear HO121
            clear HO124
            clear HO127
            clear BK109
            clear BK110
            clear BK111
            clear BK118
            clear HB
            have HO117 := n0_
            have HO121 := n1_
            have HO124 := n2_
            have HO127 := n3_
            have BK109 := n4_
            have BK110 := n5_
            have BK111 := n6_
            have BK118 := n7_
            have HB := n8_
            have BK131 := n9_
            have GW131 := n10_
            have GE131 := n11_
            have NB109_131 := n12_
            have NB131_109 := n13_
            have NB110_131 := n14_
            have NB131_110 := n15_
            have NB111_131 := n16_
            have NB131_111 := n17_
            have NB118_131 := n18_
            have NB131_118 := n19_
            clear n0_ n1_ n2_ n3_ n4_ n5_ n6_ n7_ n8_ n9_ n10_ n11_ n12_ n13_ n14_ n15_ n16_ n17_ n18_ n19_
            clear hb hbox hg
            refine hK.out _ _ ⟨(qd BK118.out 0).trans rfl, (qd BK118.out 1).trans rfl⟩ (fun hHeld => ?_)
            clear hK K
            refine norm_ (a' := ?_) ?_ ?_
            rotate_left
            ·show Act.put _ (some 5) _ = _
             simp only [Act.put, qx, qy, qz, i64_w, i32_w]
             rfl
            exact norm_ (by first | (simp only [putAll, Act.put, qx, qy, qz]; done) | (simp only [putAll, Act.put, qx, qy, qz]; rfl)) (hJ4_5_10_13 (v120, v123, _, gb131) _ ⟨hHeld, (by (with_reducible repeat (first | apply qm | apply qn | apply qo)); exact HO117.out), (by (with_reducible repeat (first | apply qm | apply qn | apply qo)); exact HO121.out), (by (with_reducible repeat (first | apply qm | apply qn | apply qo)); exact HO124.out), (by (with_reducible repeat (first | apply qm | apply qn | apply qo)); exact HO127.out), (by (with_reducible repeat (first | refine qa ?_ _ | refine qb ?_ | refine qc ?_ _)); exact BK109.out), (by (with_reducible repeat (first | refine qa ?_ _ | refine qb ?_ | refine qc ?_ _)); exact BK110.out), (by (with_reducible repeat (first | refine qa ?_ _ | refine qb ?_ | refine qc ?_ _)); exact BK111.out), (by (with_reducible repeat (first | refine qa ?_ _ | refine qb ?_ | refine qc ?_ _)); exact BK118.out), (by (with_reducible repeat (first | refine qa ?_ _ | refine qb ?_ | refine qc ?_ _)); exact BK131.out), GW131.out, GE131.out, NB109_131.out, NB131_109.out, NB110_131.out, NB131_110.out, NB111_131.out, NB131_111.out, NB118_131.out, NB131_118.out, (by repeat (first | (with_reducible first | exact HB.out | apply qh | apply qj | apply qi | refine qg ?_ GE109.out | refine qg ?_ GE110.out | refine qg ?_ GE111.out | refine qg ?_ GE118.out | refine qg ?_ GE131.out) | exact HB.out))⟩)
         ·skip
          rintro ⟨v120, v123, v126, gb131⟩ w32 ⟨hS_, h0_, h1_, h2_, h3_, h4_, h5_, h6_, h7_, h8_, h9_, h10_, h11_, h12_, h13_, h14_, h15_, h16_, h17_, h18_, h19_⟩
          have n0_ : Aside0 (Kd.R k47 47 w32 w.heap.size (fun k_ => (w.heap.size ≤ k_) ∧ some k_ ≠ (v126 : Value).ownBlock) (.slice Ao22 t115.length co22) t115) := ⟨h0_⟩
          have n1_ : Aside0 (Kd.R k42 42 w32 w.heap.size (fun k_ => (w.heap.size ≤ k_) ∧ some k_ ≠ (v123 : Value).ownBlock) v120 y119) := ⟨h1_⟩
          have n2_ : Aside0 (Kd.R k42 42 w32 w.heap.size (fun k_ => (w.heap.size ≤ k_) ∧ some k_ ≠ (v120 : Value).ownBlock) v123 y122) := ⟨h2_⟩
          have n3_ : Aside0 (Kd.R k47 47 w32 w.heap.size (fun k_ => (w.heap.size ≤ k_) ∧ some k_ ≠ (.slice Ao22 t115.length co22 : Value).ownBlock) v126 y125) := ⟨h3_⟩
          have n4_ : Aside0 (w32.heap[gb109]? = some (.cells #[.slice A0_0 l0_0.length c0_0, .slice A0_1 l0_1.length c0_1] 25 (0, 0))) := ⟨h4_⟩
          have n5_ : Aside0 (w32.heap[gb110]? = some (.cells #[.slice none 0 0, .slice none 0 0] 25 (0, 0))) := ⟨h5_⟩
          have n6_ : Aside0 (w32.heap[gb111]? = some (.cells #[.slice none 0 0, .slice none 0 0, .slice none 0 0, .slice none 0 0] 30 (0, 0))) := ⟨h6_⟩
          have n7_ : Aside0 (w32.heap[gb118]? = some (.cells #[.slice Ao17 t112.length co17, .slice Ao22 t115.length co22] 25 (0, 0))) := ⟨h7_⟩
          have n8_ : Aside0 (w32.heap[gb131]? = some (.cells #[.slice none 0 0, .slice none 0 0, .slice none 0 0, .slice none 0 0] 30 (0, 0))) := ⟨h8_⟩
          have n9_ : Aside0 (w.heap.size ≤ gb131) := ⟨h9_⟩
          have n10_ : Aside0 (w.heap.size ≤ gb131) := ⟨h10_⟩
          have n11_ : Aside0 (gb109 ≠ gb131) := ⟨h11_⟩
          have n12_ : Aside0 (gb131 ≠ gb109) := ⟨h12_⟩
          have n13_ : Aside0 (gb110 ≠ gb131) := ⟨h13_⟩
          have n14_ : Aside0 (gb131 ≠ gb110) := ⟨h14_⟩
          have n15_ : Aside0 (gb111 ≠ gb131) := ⟨h15_⟩
          have n16_ : Aside0 (gb131 ≠ gb111) := ⟨h16_⟩
          have n17_ : Aside0 (gb118 ≠ gb131) := ⟨h17_⟩
          have n18_ : Aside0 (gb131 ≠ gb118) := ⟨h18_⟩
          have n19_ : Aside0 (Below w.heap.size w w32) := ⟨h19_⟩
          clear HO114
          clear HO117
          clear BK109
          clear BK110
          clear BK111
          clear BK118
          clear HB
          clear h0_ h1_ h2_ h3_ h4_ h5_ h6_ h7_ h8_ h9_ h10_ h11_ h12_ h13_ h14_ h15_ h16_ h17_ h18_ h19_
          have HO117 := n0_
          have HO121 := n1_
          have HO124 := n2_
          have HO127 := n3_
          have BK109 := n4_
          have BK110 := n5_
          have BK111 := n6_
          have BK118 := n7_
          have BK131 := n8_
          have GW131 := n9_
          have GE131 := n10_
          have NB109_131 := n11_
          have NB131_109 := n12_
          have NB110_131 := n13_
          have NB131_110 := n14_
          have NB111_131 := n15_
          have NB131_111 := n16_
          have NB118_131 := n17_
          have NB131_118 := n18_
          have HB := n19_
          clear n0_ n1_ n2_ n3_ n4_ n5_ n6_ n7_ n8_ n9_ n10_ n11_ n12_ n13_ n14_ n15_ n16_ n17_ n18_ n19_
          have hHeld : w32.cell? ⟨gb118, 0, none⟩ = some (.slice Ao17 t112.length co17) ∧ w32.cell? ⟨gb118, 1, none⟩ = some (.slice Ao22 t115.length co22) := hS_
          obtain ⟨Ao34, co34, eo34⟩ := Kd.R_slice HO127.out
          (first | subst eo34 | (injection eo34 with f1_ f2_ f3_; have f4_ := f1_.symm; have f5_ := f3_.symm; clear f1_ f2_ f3_; subst f4_; subst f5_))
          refine norm_ (a' := ?_) ?_ ?_
          rotate_left
          ·simp only [putAll, Act.put, qx, qy, qz]
           rfl
          refine one_ (i := 11) (N := some 19) #[true, true, true, true, true, true, true, true, true, true, true, true, false, true, false] rfl rfl (one_of HT_.out (by kernel_rfl)) (by decide) (fun K hK => ?_)
          refine Kd.R_append_rows_step k47 (w0 := w) w.heap.size (by rfl) (.tmp 15) (.tmp 18) 23 47 (.agg #[(.int .i64 0), (.int .i64 0), (.int .i64 0), (.int .i64 0)]) 32 rfl Tryd.underlying23 info47 rfl (by decide) (by omega) (.slice Ao22 t115.length co22) t115 y125 _ _ _ (fun k_ => (w.heap.size ≤ k_) ∧ some k_ ≠ (.slice Ao34 y125.length co34 : Value).ownBlock) (fun _ => False) rfl rfl ?aO ?aR (fun _ _ h => h) (fun _ h => h.elim) ?aF ?aB ?aS ?aL ?_
          (case aR => repeat (first | exact (Kd.R_reads' HO127.out).2.2 | (with_reducible refine qu ?_ _) | (with_reducible refine qv ?_ _) | (with_reducible refine qw ?_)))
          (case aB => exact (by repeat (first | (with_reducible first | exact HB.out | apply qh | apply qj | apply qi | refine qg ?_ GE109.out | refine qg ?_ GE110.out | refine qg ?_ GE111.out | refine qg ?_ GE118.out | refine qg ?_ GE131.out) | exact HB.out)))
          (case aF => exact (fun k_ hk => ⟨(Nat.le_trans (ql (by repeat (first | (with_reducible first | exact HB.out | apply qh | apply qj | apply qi | refine qg ?_ GE109.out | refine qg ?_ GE110.out | refine qg ?_ GE111.out | refine qg ?_ GE118.out | refine qg ?_ GE131.out) | exact HB.out))) hk), Kd.fresh' (Kd.R_lt (by (with_reducible repeat (first | apply qm | apply qn | apply qo)); exact HO127.out)) k_ hk⟩))
          (case aO => exact (by (with_reducible repeat (first | apply qm | apply qn | apply qo)); exact HO117.out))
          (case aS => exact (ql (by repeat (first | (with_reducible first | exact HB.out | apply qh | apply qj | apply qi | refine qg ?_ GE109.out | refine qg ?_ GE110.out | refine qg ?_ GE111.out | refine qg ?_ GE118.out | refine qg ?_ GE131.out) | exact HB.out))))
          (case aL => have := LMc4.out; omega)
          intro v129 w33 ho hb hg hat
          rw [← Ny128.out] at ho
          have n0_ := qA (qe (g := gb109) (o := .cells #[.slice A0_0 l0_0.length c0_0, .slice A0_1 l0_1.length c0_1] 25 (0, 0)) (by (with_reducible repeat (first | refine qa ?_ _ | refine qb ?_ | refine qc ?_ _)); exact BK109.out) hg (Kd.R_ne HO117.out BK109.out (by decide)))
          have n1_ := qA (qe (g := gb110) (o := .cells #[.slice none 0 0, .slice none 0 0] 25 (0, 0)) (by (with_reducible repeat (first | refine qa ?_ _ | refine qb ?_ | refine qc ?_ _)); exact BK110.out) hg (Kd.R_ne HO117.out BK110.out (by decide)))
          have n2_ := qA (qe (g := gb111) (o := .cells #[.slice none 0 0, .slice none 0 0, .slice none 0 0, .slice none 0 0] 30 (0, 0)) (by (with_reducible repeat (first | refine qa ?_ _ | refine qb ?_ | refine qc ?_ _)); exact BK111.out) hg (Kd.R_ne HO117.out BK111.out (by decide)))
          have n3_ := qA (qe (g := gb118) (o := .cells #[.slice Ao17 t112.length co17, .slice Ao22 t115.length co22] 25 (0, 0)) (by (with_reducible repeat (first | refine qa ?_ _ | refine qb ?_ | refine qc ?_ _)); exact BK118.out) hg (Kd.R_ne HO117.out BK118.out (by decide)))
          have n4_ := qA (Kd.R_over' (by (with_reducible repeat (first | apply qm | apply qn | apply qo)); exact HO121.out) (Kd.R_typed (by (with_reducible repeat (first | apply qm | apply qn | apply qo)); exact HO117.out)) (by decide) hg)
          have n5_ := qA (Kd.R_over' (by (with_reducible repeat (first | apply qm | apply qn | apply qo)); exact HO124.out) (Kd.R_typed (by (with_reducible repeat (first | apply qm | apply qn | apply qo)); exact HO117.out)) (by decide) hg)
          have n6_ := qA (Kd.R_after (ok := (fun k_ => (w.heap.size ≤ k_))) (by (with_reducible repeat (first | apply qm | apply qn | apply qo)); exact HO127.out) hg hat)
          have n7_ := qA (qe (g := gb131) (o := .cells #[.slice none 0 0, .slice none 0 0, .slice none 0 0, .slice none 0 0] 30 (0, 0)) (by (with_reducible repeat (first | refine qa ?_ _ | refine qb ?_ | refine qc ?_ _)); exact BK131.out) hg (Kd.R_ne HO117.out BK131.out (by decide)))
          have n8_ := qA (hb)
          have n9_ := qA (ho)
          clear BK109
          clear BK110
          clear BK111
          clear BK118
          clear HO121
          clear HO124
          clear HO127
          clear BK131
          clear HB
          clear HO117
          have BK109 := n0_
          have BK110 := n1_
          have BK111 := n2_
          have BK118 := n3_
          have HO121 := n4_
          have HO124 := n5_
          have HO127 := n6_
          have BK131 := n7_
          have HB := n8_
          have HO130 := n9_
          clear n0_ n1_ n2_ n3_ n4_ n5_ n6_ n7_ n8_ n9_
          clear ho hb hg hat
          obtain ⟨Ao35, co35, eo35⟩ := Kd.R_slice HO130.out
          (first | subst eo35 | (injection eo35 with f1_ f2_ f3_; have f4_ := f1_.symm; have f5_ := f3_.symm; clear f1_ f2_ f3_; subst f4_; subst f5_))
          obtain ⟨Ao36, co36, eo36⟩ := Kd.R_slice HO124.out
          (first | subst eo36 | (injection eo36 with f1_ f2_ f3_; have f4_ := f1_.symm; have f5_ := f3_.symm; clear f1_ f2_ f3_; subst f4_; subst f5_))
          refine hK.out _ _ ⟨(qd BK118.out 0).trans rfl, (qd BK118.out 1).trans rfl⟩ (fun hHeld => ?_)
          clear hK K
          refine norm_ (a' := ?_) ?_ ?_
          rotate_left
          ·show Act.put _ (some 19) _ = _
           simp only [Act.put, qx, qy, qz, i64_w, i32_w]
           rfl
          refine pure_ (i := 12) (N := some 20) (v := ?_) (a' := ?_) #[true, true, true, true, true, true, true, true, true, true, true, true, true, true, false] rfl rfl (any_of HT_.out (by kernel_rfl)) (fun _ _ _ h => h) (Or.inl ⟨by rfl, ?_⟩) ?_ ?_
          rotate_left
          ·intro w'
           go_simp
           with_reducible rfl
          rotate_left
          ·simp only [Act.put, qx, qy, qz, i64_w, i32_w]
           rfl
          exact norm_ (by first | (simp only [putAll, Act.put, qx, qy, qz]; done) | (simp only [putAll, Act.put, qx, qy, qz]; rfl)) (hJ4_5_10_11_13 (v120, .slice Ao36 y122.length co36, .slice Ao34 y125.length co34, .slice Ao35 y128.length co35, gb131) _ ⟨hHeld, (by (with_reducible repeat (first | apply qm | apply qn | apply qo)); exact HO121.out), (by (with_reducible repeat (first | apply qm | apply qn | apply qo)); exact HO124.out), (by (with_reducible repeat (first | apply qm | apply qn | apply qo)); exact HO127.out), (by (with_reducible repeat (first | apply qm | apply qn | apply qo)); exact HO130.out), (by (with_reducible repeat (first | refine qa ?_ _ | refine qb ?_ | refine qc ?_ _)); exact BK109.out), (by (with_reducible repeat (first | refine qa ?_ _ | refine qb ?_ | refine qc ?_ _)); exact BK110.out), (by (with_reducible repeat (first | refine qa ?_ _ | refine qb ?_ | refine qc ?_ _)); exact BK111.out), (by (with_reducible repeat (first | refine qa ?_ _ | refine qb ?_ | refine qc ?_ _)); exact BK118.out), (by (with_reducible repeat (first | refine qa ?_ _ | refine qb ?_ | refine qc ?_ _)); exact BK131.out), GW131.out, GE131.out, NB109_131.out, NB131_109.out, NB110_131.out, NB131_110.out, NB111_131.out, NB131_111.out, NB118_131.out, NB131_118.out, (by repeat (first | (with_reducible first | exact HB.out | apply qh | apply qj | apply qi | refine qg ?_ GE109.out | refine qg ?_ GE110.out | refine qg ?_ GE111.out | refine qg ?_ GE118.out | refine qg ?_ GE131.out) | exact HB.out))⟩)
        ·skip
         rintro ⟨v120, v123, v126, v129⟩ w35 ⟨hS_, h0_, h1_, h2_, h3_, h4_, h5_, h6_, h7_, h8_⟩
         have n0_ : Aside0 (Kd.R k42 42 w35 w.heap.size (fun k_ => (w.heap.size ≤ k_) ∧ some k_ ≠ (v123 : Value).ownBlock) v120 y119) := ⟨h0_⟩
         have n1_ : Aside0 (Kd.R k42 42 w35 w.heap.size (fun k_ => (w.heap.size ≤ k_) ∧ some k_ ≠ (v120 : Value).ownBlock) v123 y122) := ⟨h1_⟩
         have n2_ : Aside0 (Kd.R k47 47 w35 w.heap.size (fun k_ => (w.heap.size ≤ k_) ∧ some k_ ≠ (v129 : Value).ownBlock) v126 y125) := ⟨h2_⟩
         have n3_ : Aside0 (Kd.R k47 47 w35 w.heap.size (fun k_ => (w.heap.size ≤ k_) ∧ some k_ ≠ (v126 : Value).ownBlock) v129 y128) := ⟨h3_⟩
         have n4_ : Aside0 (w35.heap[gb109]? = some (.cells #[.slice A0_0 l0_0.length c0_0, .slice A0_1 l0_1.length c0_1] 25 (0, 0))) := ⟨h4_⟩
         have n5_ : Aside0 (w35.heap[gb110]? = some (.cells #[.slice none 0 0, .slice none 0 0] 25 (0, 0))) := ⟨h5_⟩
         have n6_ : Aside0 (w35.heap[gb111]? = some (.cells #[.slice none 0 0, .slice none 0 0, .slice none 0 0, .slice none 0 0] 30 (0, 0))) := ⟨h6_⟩
         have n7_ : Aside0 (w35.heap[gb118]? = some (.cells #[.slice Ao17 t112.length co17, .slice Ao22 t115.length co22] 25 (0, 0))) := ⟨h7_⟩
         have n8_ : Aside0 (Below w.heap.size w w35) := ⟨h8_⟩
         clear HO114
         clear HO117
         clear BK109
         clear BK110
         clear BK111
         clear BK118
         clear HB
         clear h0_ h1_ h2_ h3_ h4_ h5_ h6_ h7_ h8_
         have HO121 := n0_
         have HO124 := n1_
         have HO127 := n2_
         have HO130 := n3_
         have BK109 := n4_
         have BK110 := n5_
         have BK111 := n6_
         have BK118 := n7_
         have HB := n8_
         clear n0_ n1_ n2_ n3_ n4_ n5_ n6_ n7_ n8_
         have hHeld : w35.cell? ⟨gb118, 0, none⟩ = some (.slice Ao17 t112.length co17) ∧ w35.cell? ⟨gb118, 1, none⟩ = some (.slice Ao22 t115.length co22) := hS_
         obtain ⟨Ao36, co36, eo36⟩ := Kd.R_slice HO130.out
         (first | subst eo36 | (injection eo36 with f1_ f2_ f3_; have f4_ := f1_.symm; have f5_ := f3_.symm; clear f1_ f2_ f3_; subst f4_; subst f5_))
         obtain ⟨Ao37, co37, eo37⟩ := Kd.R_slice HO124.out
         (first | subst eo37 | (injection eo37 with f1_ f2_ f3_; have f4_ := f1_.symm; have f5_ := f3_.symm; clear f1_ f2_ f3_; subst f4_; subst f5_))
         refine norm_ (a' := ?_) ?_ ?_
         rotate_left
         ·simp only [putAll, Act.put, qx, qy, qz]
          rfl
         refine one_ (i := 13) (N := some 5) #[true, true, true, true, true, true, true, true, true, true, true, true, true, true, false] rfl rfl (one_of HT_.out (by kernel_rfl)) (by decide) (fun K hK => ?_)
         refine box_step ?hg (N := 5) ?hd (cs := #[.slice none 0 0, .slice none 0 0, .slice none 0 0, .slice none 0 0]) (t := 30) ?hr ?_; (case hd => rfl); (case hg => rfl); (case hr => first | (go_simp; done) | (go_simp; rfl))
         intro gb131 hg w38 hbox hb
         have n0_ := qA (Kd.R_below (by (with_reducible repeat (first | apply qm | apply qn | apply qo)); exact HO121.out) hb)
         have n1_ := qA (Kd.R_below (by (with_reducible repeat (first | apply qm | apply qn | apply qo)); exact HO124.out) hb)
         have n2_ := qA (Kd.R_below (by (with_reducible repeat (first | apply qm | apply qn | apply qo)); exact HO127.out) hb)
         have n3_ := qA (Kd.R_below (by (with_reducible repeat (first | apply qm | apply qn | apply qo)); exact HO130.out) hb)
         have n4_ := qA (qf (g := gb109) (o := .cells #[.slice A0_0 l0_0.length c0_0, .slice A0_1 l0_1.length c0_1] 25 (0, 0)) (by (with_reducible repeat (first | refine qa ?_ _ | refine qb ?_ | refine qc ?_ _)); exact BK109.out) hb)
         have n5_ := qA (qf (g := gb110) (o := .cells #[.slice none 0 0, .slice none 0 0] 25 (0, 0)) (by (with_reducible repeat (first | refine qa ?_ _ | refine qb ?_ | refine qc ?_ _)); exact BK110.out) hb)
         have n6_ := qA (qf (g := gb111) (o := .cells #[.slice none 0 0, .slice none 0 0, .slice none 0 0, .slice none 0 0] 30 (0, 0)) (by (with_reducible repeat (first | refine qa ?_ _ | refine qb ?_ | refine qc ?_ _)); exact BK111.out) hb)
         have n7_ := qA (qf (g := gb118) (o := .cells #[.slice Ao17 t112.length co17, .slice Ao22 t115.length co22] 25 (0, 0)) (by (with_reducible repeat (first | refine qa ?_ _ | refine qb ?_ | refine qc ?_ _)); exact BK118.out) hb)
         have n8_ := qA (qk (by repeat (first | (with_reducible first | exact HB.out | apply qh | apply qj | apply qi | refine qg ?_ GE109.out | refine qg ?_ GE110.out | refine qg ?_ GE111.out | refine qg ?_ GE118.out) | exact HB.out)) hb)
         have n9_ := qA (hbox)
         have n10_ := qA ((by rw [hg]; exact (ql (by repeat (first | (with_reducible first | exact HB.out | apply qh | apply qj | apply qi | refine qg ?_ GE109.out | refine qg ?_ GE110.out | refine qg ?_ GE111.out | refine qg ?_ GE118.out) | exact HB.out))) : w.heap.size ≤ gb131))
         have n11_ := qA ((by rw [hg]; exact (ql (by repeat (first | (with_reducible first | exact HB.out | apply qh | apply qj | apply qi | refine qg ?_ GE109.out | refine qg ?_ GE110.out | refine qg ?_ GE111.out | refine qg ?_ GE118.out) | exact HB.out))) : w.heap.size ≤ gb131))
         have n12_ := qA ((by rw [hg]; exact Nat.ne_of_lt (blk_lt (g := gb109) (o := .cells #[.slice A0_0 l0_0.length c0_0, .slice A0_1 l0_1.length c0_1] 25 (0, 0)) (by (with_reducible repeat (first | refine qa ?_ _ | refine qb ?_ | refine qc ?_ _)); exact BK109.out)) : gb109 ≠ gb131))
         have n13_ := qA ((by rw [hg]; exact Nat.ne_of_gt (blk_lt (g := gb109) (o := .cells #[.slice A0_0 l0_0.length c0_0, .slice A0_1 l0_1.length c0_1] 25 (0, 0)) (by (with_reducible repeat (first | refine qa ?_ _ | refine qb ?_ | refine qc ?_ _)); exact BK109.out)) : gb131 ≠ gb109))
         have n14_ := qA ((by rw [hg]; exact Nat.ne_of_lt (blk_lt (g := gb110) (o := .cells #[.slice none 0 0, .slice none 0 0] 25 (0, 0)) (by (with_reducible repeat (first | refine qa ?_ _ | refine qb ?_ | refine qc ?_ _)); exact BK110.out)) : gb110 ≠ gb131))
         have n15_ := qA ((by rw [hg]; exact Nat.ne_of_gt (blk_lt (g := gb110) (o := .cells #[.slice none 0 0, .slice none 0 0] 25 (0, 0)) (by (with_reducible repeat (first | refine qa ?_ _ | refine qb ?_ | refine qc ?_ _)); exact BK110.out)) : gb131 ≠ gb110))
         have n16_ := qA ((by rw [hg]; exact Nat.ne_of_lt (blk_lt (g := gb111) (o := .cells #[.slice none 0 0, .slice none 0 0, .slice none 0 0, .slice none 0 0] 30 (0, 0)) (by (with_reducible repeat (first | refine qa ?_ _ | refine qb ?_ | refine qc ?_ _)); exact BK111.out)) : gb111 ≠ gb131))
         have n17_ := qA ((by rw [hg]; exact Nat.ne_of_gt (blk_lt (g := gb111) (o := .cells #[.slice none 0 0, .slice none 0 0, .slice none 0 0, .slice none 0 0] 30 (0, 0)) (by (with_reducible repeat (first | refine qa ?_ _ | refine qb ?_ | refine qc ?_ _)); exact BK111.out)) : gb131 ≠ gb111))
         have n18_ := qA ((by rw [hg]; exact Nat.ne_of_lt (blk_lt (g := gb118) (o := .cells #[.slice Ao17 t112.length co17, .slice Ao22 t115.length co22] 25 (0, 0)) (by (with_reducible repeat (first | refine qa ?_ _ | refine qb ?_ | refine qc ?_ _)); exact BK118.out)) : gb118 ≠ gb131))
         have n19_ := qA ((by rw [hg]; exact Nat.ne_of_gt (blk_lt (g := gb118) (o := .cells #[.slice Ao17 t112.length co17, .slice Ao22 t115.length co22] 25 (0, 0)) (by (with_reducible repeat (first | refine qa ?_ _ | refine qb ?_ | refine qc ?_ _)); exact BK118.out)) : gb131 ≠ gb118))
         clear HO121
         clear HO124
         clear HO127
         clear HO130
         clear BK109
         clear BK110
         clear BK111
         clear BK118
         clear HB
         have HO121 := n0_
         have HO124 := n1_
         have HO127 := n2_
         have HO130 := n3_
         have BK109 := n4_
         have BK110 := n5_
         have BK111 := n6_
         have BK118 := n7_
         have HB := n8_
         have BK131 := n9_
         have GW131 := n10_
         have GE131 := n11_
         have NB109_131 := n12_
         have NB131_109 := n13_
         have NB110_131 := n14_
         have NB131_110 := n15_
         have NB111_131 := n16_
         have NB131_111 := n17_
         have NB118_131 := n18_
         have NB131_118 := n19_
         clear n0_ n1_ n2_ n3_ n4_ n5_ n6_ n7_ n8_ n9_ n10_ n11_ n12_ n13_ n14_ n15_ n16_ n17_ n18_ n19_
         clear hb hbox hg
         refine hK.out _ _ ⟨(qd BK118.out 0).trans rfl, (qd BK118.out 1).trans rfl⟩ (fun hHeld => ?_)
         clear hK K
         refine norm_ (a' := ?_) ?_ ?_
         rotate_left
         ·show Act.put _ (some 5) _ = _
          simp only [Act.put, qx, qy, qz, i64_w, i32_w]
          rfl
         exact norm_ (by first | (simp only [putAll, Act.put, qx, qy, qz]; done) | (simp only [putAll, Act.put, qx, qy, qz]; rfl)) (hJ4_5_10_11_13 (v120, .slice Ao37 y122.length co37, v126, .slice Ao36 y128.length co36, gb131) _ ⟨hHeld, (by (with_reducible repeat (first | apply qm | apply qn | apply qo)); exact HO121.out), (by (with_reducible repeat (first | apply qm | apply qn | apply qo)); exact HO124.out), (by (with_reducible repeat (first | apply qm | apply qn | apply qo)); exact HO127.out), (by (with_reducible repeat (first | apply qm | apply qn | apply qo)); exact HO130.out), (by (with_reducible repeat (first | refine qa ?_ _ | refine qb ?_ | refine qc ?_ _)); exact BK109.out), (by (with_reducible repeat (first | refine qa ?_ _ | refine qb ?_ | refine qc ?_ _)); exact BK110.out), (by (with_reducible repeat (first | refine qa ?_ _ | refine qb ?_ | refine qc ?_ _)); exact BK111.out), (by (with_reducible repeat (first | refine qa ?_ _ | refine qb ?_ | refine qc ?_ _)); exact BK118.out), (by (with_reducible repeat (first | refine qa ?_ _ | refine qb ?_ | refine qc ?_ _)); exact BK131.out), GW131.out, GE131.out, NB109_131.out, NB131_109.out, NB110_131.out, NB131_110.out, NB111_131.out, NB131_111.out, NB118_131.out, NB131_118.out, (by repeat (first | (with_reducible first | exact HB.out | apply qh | apply qj | apply qi | refine qg ?_ GE109.out | refine qg ?_ GE110.out | refine qg ?_ GE111.out | refine qg ?_ GE118.out | refine qg ?_ GE131.out) | exact HB.out))⟩)
       rintro ⟨v120, v123, v126, v129, gb131⟩ w36 ⟨hS_, h0_, h1_, h2_, h3_, h4_, h5_, h6_, h7_, h8_, h9_, h10_, h11_, h12_, h13_, h14_, h15_, h16_, h17_, h18_, h19_⟩
       have n0_ : Aside0 (Kd.R k42 42 w36 w.heap.size (fun k_ => (w.heap.size ≤ k_) ∧ some k_ ≠ (v123 : Value).ownBlock) v120 y119) := ⟨h0_⟩
       have n1_ : Aside0 (Kd.R k42 42 w36 w.heap.size (fun k_ => (w.heap.size ≤ k_) ∧ some k_ ≠ (v120 : Value).ownBlock) v123 y122) := ⟨h1_⟩
       have n2_ : Aside0 (Kd.R k47 47 w36 w.heap.size (fun k_ => (w.heap.size ≤ k_) ∧ some k_ ≠ (v129 : Value).ownBlock) v126 y125) := ⟨h2_⟩
       have n3_ : Aside0 (Kd.R k47 47 w36 w.heap.size (fun k_ => (w.heap.size ≤ k_) ∧ some k_ ≠ (v126 : Value).ownBlock) v129 y128) := ⟨h3_⟩
       have n4_ : Aside0 (w36.heap[gb109]? = some (.cells #[.slice A0_0 l0_0.length c0_0, .slice A0_1 l0_1.length c0_1] 25 (0, 0))) := ⟨h4_⟩
       have n5_ : Aside0 (w36.heap[gb110]? = some (.cells #[.slice none 0 0, .slice none 0 0] 25 (0, 0))) := ⟨h5_⟩
       have n6_ : Aside0 (w36.heap[gb111]? = some (.cells #[.slice none 0 0, .slice none 0 0, .slice none 0 0, .slice none 0 0] 30 (0, 0))) := ⟨h6_⟩
       have n7_ : Aside0 (w36.heap[gb118]? = some (.cells #[.slice Ao17 t112.length co17, .slice Ao22 t115.length co22] 25 (0, 0))) := ⟨h7_⟩
       have n8_ : Aside0 (w36.heap[gb131]? = some (.cells #[.slice none 0 0, .slice none 0 0, .slice none 0 0, .slice none 0 0] 30 (0, 0))) := ⟨h8_⟩
       have n9_ : Aside0 (w.heap.size ≤ gb131) := ⟨h9_⟩
       have n10_ : Aside0 (w.heap.size ≤ gb131) := ⟨h10_⟩
       have n11_ : Aside0 (gb109 ≠ gb131) := ⟨h11_⟩
       have n12_ : Aside0 (gb131 ≠ gb109) := ⟨h12_⟩
       have n13_ : Aside0 (gb110 ≠ gb131) := ⟨h13_⟩
       have n14_ : Aside0 (gb131 ≠ gb110) := ⟨h14_⟩
       have n15_ : Aside0 (gb111 ≠ gb131) := ⟨h15_⟩
       have n16_ : Aside0 (gb131 ≠ gb111) := ⟨h16_⟩
       have n17_ : Aside0 (gb118 ≠ gb131) := ⟨h17_⟩
       have n18_ : Aside0 (gb131 ≠ gb118) := ⟨h18_⟩
       have n19_ : Aside0 (Below w.heap.size w w36) := ⟨h19_⟩
       clear HO114
       clear HO117
       clear BK109
       clear BK110
       clear BK111
       clear BK118
       clear HB
       clear h0_ h1_ h2_ h3_ h4_ h5_ h6_ h7_ h8_ h9_ h10_ h11_ h12_ h13_ h14_ h15_ h16_ h17_ h18_ h19_
       have HO121 := n0_
       have HO124 := n1_
       have HO127 := n2_
       have HO130 := n3_
       have BK109 := n4_
       have BK110 := n5_
       have BK111 := n6_
       have BK118 := n7_
       have BK131 := n8_
       have GW131 := n9_
       have GE131 := n10_
       have NB109_131 := n11_
       have NB131_109 := n12_
       have NB110_131 := n13_
       have NB131_110 := n14_
       have NB111_131 := n15_
       have NB131_111 := n16_
       have NB118_131 := n17_
       have NB131_118 := n18_
       have HB := n19_
       clear n0_ n1_ n2_ n3_ n4_ n5_ n6_ n7_ n8_ n9_ n10_ n11_ n12_ n13_ n14_ n15_ n16_ n17_ n18_ n19_
       have hHeld : w36.cell? ⟨gb118, 0, none⟩ = some (.slice Ao17 t112.length co17) ∧ w36.cell? ⟨gb118, 1, none⟩ = some (.slice Ao22 t115.length co22) := hS_
       obtain ⟨Ao37, co37, eo37⟩ := Kd.R_slice HO130.out
       (first | subst eo37 | (injection eo37 with f1_ f2_ f3_; have f4_ := f1_.symm; have f5_ := f3_.symm; clear f1_ f2_ f3_; subst f4_; subst f5_))
       obtain ⟨Ao38, co38, eo38⟩ := Kd.R_slice HO124.out
       (first | subst eo38 | (injection eo38 with f1_ f2_ f3_; have f4_ := f1_.symm; have f5_ := f3_.symm; clear f1_ f2_ f3_; subst f4_; subst f5_))
       refine norm_ (a' := ?_) ?_ ?_
       rotate_left
       ·simp only [putAll, Act.put, qx, qy, qz]
        rfl
       refine one_ (i := 14) (N := none) #[true, true, true, true, true, true, true, true, true, true, true, true, true, true, true] rfl rfl (one_of HT_.out (by kernel_rfl)) (by decide) (fun K hK => ?_)
       have hs39 : w36.cell? ⟨gb131, 0, none⟩ = some (.slice none 0 0) := (qd BK131.out 0).trans rfl
       have hfs39 := blk_frozen BK131.out 0
       have hns39_0 := NB109_131.out
       have hns39_1 := NB110_131.out
       have hns39_2 := NB111_131.out
       have hns39_3 := NB118_131.out
       have hms39_0 := NB131_109.out
       have hms39_1 := NB131_110.out
       have hms39_2 := NB131_111.out
       have hms39_3 := NB131_118.out
       have hs40 : w36.cell? ⟨gb131, 1, none⟩ = some (.slice none 0 0) := (qd BK131.out 1).trans rfl
       have hfs40 := blk_frozen BK131.out 1
       have hns40_0 := NB109_131.out
       have hns40_1 := NB110_131.out
       have hns40_2 := NB111_131.out
       have hns40_3 := NB118_131.out
       have hms40_0 := NB131_109.out
       have hms40_1 := NB131_110.out
       have hms40_2 := NB131_111.out
       have hms40_3 := NB131_118.out
       have hs41 : w36.cell? ⟨gb131, 2, none⟩ = some (.slice none 0 0) := (qd BK131.out 2).trans rfl
       have hfs41 := blk_frozen BK131.out 2
       have hns41_0 := NB109_131.out
       have hns41_1 := NB110_131.out
       have hns41_2 := NB111_131.out
       have hns41_3 := NB118_131.out
       have hms41_0 := NB131_109.out
       have hms41_1 := NB131_110.out
       have hms41_2 := NB131_111.out
       have hms41_3 := NB131_118.out
       have hs42 : w36.cell? ⟨gb131, 3, none⟩ = some (.slice none 0 0) := (qd BK131.out 3).trans rfl
       have hfs42 := blk_frozen BK131.out 3
       have hns42_0 := NB109_131.out
       have hns42_1 := NB110_131.out
       have hns42_2 := NB111_131.out
       have hns42_3 := NB118_131.out
       have hms42_0 := NB131_109.out
       have hms42_1 := NB131_110.out
       have hms42_2 := NB131_111.out
       have hms42_3 := NB131_118.out
       refine skip_ (w1 := ?_) (by rfl) rfl ?_ ?_
       rotate_left
       ·go_simp
        rfl
       refine hK.out _ _ ⟨((cell_far (p := ⟨gb131, _, none⟩) NB118_131.out _).trans (((cell_far (p := ⟨gb131, _, none⟩) NB118_131.out _).trans (((cell_far (p := ⟨gb131, _, none⟩) NB118_131.out _).trans (((cell_far (p := ⟨gb131, _, none⟩) NB118_131.out _).trans (hHeld.1)))))))), ((cell_far (p := ⟨gb131, _, none⟩) NB118_131.out _).trans (((cell_far (p := ⟨gb131, _, none⟩) NB118_131.out _).trans (((cell_far (p := ⟨gb131, _, none⟩) NB118_131.out _).trans (((cell_far (p := ⟨gb131, _, none⟩) NB118_131.out _).trans (hHeld.2))))))))⟩ (fun hHeld => ?_)
       clear hK K
       refine done_ (done_of HT_.out (by kernel_rfl)) ?_
       have n0_ : Aside0 (Kd.R k42 42 ((((w36.setCell ⟨gb131, 0, none⟩ (.slice Ao38 y122.length co38)).setCell ⟨gb131, 1, none⟩ (.slice Ao37 y128.length co37)).setCell ⟨gb131, 2, none⟩ (.slice none 0 0)).setCell ⟨gb131, 3, none⟩ (.slice none 0 0)) w.heap.size (fun k_ => (w.heap.size ≤ k_) ∧ some k_ ≠ (.slice Ao38 y122.length co38 : Value).ownBlock) v120 y119) := ⟨by (with_reducible repeat (first | apply qm | apply qn | apply qo)); exact qp (qs (p := ⟨gb131, 3, none⟩) (qs (p := ⟨gb131, 2, none⟩) (qs (p := ⟨gb131, 1, none⟩) (qs (p := ⟨gb131, 0, none⟩) (qr HO121.out BK131.out (by decide)) (fun _ hk => hk.2) (.slice Ao38 y122.length co38)) (fun _ hk => hk.2) (.slice Ao37 y128.length co37)) (fun _ hk => hk.2) (.slice none 0 0)) (fun _ hk => hk.2) (.slice none 0 0)) (fun _ hk => ⟨hk.1.1, hk.1.2⟩)⟩
       have n1_ : Aside0 (Kd.R k42 42 ((((w36.setCell ⟨gb131, 0, none⟩ (.slice Ao38 y122.length co38)).setCell ⟨gb131, 1, none⟩ (.slice Ao37 y128.length co37)).setCell ⟨gb131, 2, none⟩ (.slice none 0 0)).setCell ⟨gb131, 3, none⟩ (.slice none 0 0)) w.heap.size (fun k_ => (w.heap.size ≤ k_) ∧ some k_ ≠ (v120 : Value).ownBlock) (.slice Ao38 y122.length co38) y122) := ⟨by (with_reducible repeat (first | apply qm | apply qn | apply qo)); exact qp (qs (p := ⟨gb131, 3, none⟩) (qs (p := ⟨gb131, 2, none⟩) (qs (p := ⟨gb131, 1, none⟩) (qs (p := ⟨gb131, 0, none⟩) (qr HO124.out BK131.out (by decide)) (fun _ hk => hk.2) (.slice Ao38 y122.length co38)) (fun _ hk => hk.2) (.slice Ao37 y128.length co37)) (fun _ hk => hk.2) (.slice none 0 0)) (fun _ hk => hk.2) (.slice none 0 0)) (fun _ hk => ⟨hk.1.1, hk.1.2⟩)⟩
       have n2_ : Aside0 (Kd.R k47 47 ((((w36.setCell ⟨gb131, 0, none⟩ (.slice Ao38 y122.length co38)).setCell ⟨gb131, 1, none⟩ (.slice Ao37 y128.length co37)).setCell ⟨gb131, 2, none⟩ (.slice none 0 0)).setCell ⟨gb131, 3, none⟩ (.slice none 0 0)) w.heap.size (fun k_ => (w.heap.size ≤ k_) ∧ some k_ ≠ (.slice Ao37 y128.length co37 : Value).ownBlock) v126 y125) := ⟨by (with_reducible repeat (first | apply qm | apply qn | apply qo)); exact qp (qs (p := ⟨gb131, 3, none⟩) (qs (p := ⟨gb131, 2, none⟩) (qs (p := ⟨gb131, 1, none⟩) (qs (p := ⟨gb131, 0, none⟩) (qr HO127.out BK131.out (by decide)) (fun _ hk => hk.2) (.slice Ao38 y122.length co38)) (fun _ hk => hk.2) (.slice Ao37 y128.length co37)) (fun _ hk => hk.2) (.slice none 0 0)) (fun _ hk => hk.2) (.slice none 0 0)) (fun _ hk => ⟨hk.1.1, hk.1.2⟩)⟩
       have n3_ : Aside0 (Kd.R k47 47 ((((w36.setCell ⟨gb131, 0, none⟩ (.slice Ao38 y122.length co38)).setCell ⟨gb131, 1, none⟩ (.slice Ao37 y128.length co37)).setCell ⟨gb131, 2, none⟩ (.slice none 0 0)).setCell ⟨gb131, 3, none⟩ (.slice none 0 0)) w.heap.size (fun k_ => (w.heap.size ≤ k_) ∧ some k_ ≠ (v126 : Value).ownBlock) (.slice Ao37 y128.length co37) y128) := ⟨by (with_reducible repeat (first | apply qm | apply qn | apply qo)); exact qp (qs (p := ⟨gb131, 3, none⟩) (qs (p := ⟨gb131, 2, none⟩) (qs (p := ⟨gb131, 1, none⟩) (qs (p := ⟨gb131, 0, none⟩) (qr HO130.out BK131.out (by decide)) (fun _ hk => hk.2) (.slice Ao38 y122.length co38)) (fun _ hk => hk.2) (.slice Ao37 y128.length co37)) (fun _ hk => hk.2) (.slice none 0 0)) (fun _ hk => hk.2) (.slice none 0 0)) (fun _ hk => ⟨hk.1.1, hk.1.2⟩)⟩
       have n4_ : Aside0 (((((w36.setCell ⟨gb131, 0, none⟩ (.slice Ao38 y122.length co38)).setCell ⟨gb131, 1, none⟩ (.slice Ao37 y128.length co37)).setCell ⟨gb131, 2, none⟩ (.slice none 0 0)).setCell ⟨gb131, 3, none⟩ (.slice none 0 0)).heap[gb109]? = some (.cells #[.slice A0_0 l0_0.length c0_0, .slice A0_1 l0_1.length c0_1] 25 (0, 0))) := ⟨by (with_reducible repeat (first | refine qa ?_ _ | refine qb ?_ | refine qc ?_ _)); refine blk_far ?_ NB109_131.out _; (with_reducible repeat (first | refine qa ?_ _ | refine qb ?_ | refine qc ?_ _)); refine blk_far ?_ NB109_131.out _; (with_reducible repeat (first | refine qa ?_ _ | refine qb ?_ | refine qc ?_ _)); refine blk_far ?_ NB109_131.out _; (with_reducible repeat (first | refine qa ?_ _ | refine qb ?_ | refine qc ?_ _)); refine blk_far ?_ NB109_131.out _; (with_reducible repeat (first | refine qa ?_ _ | refine qb ?_ | refine qc ?_ _)); exact BK109.out⟩
       have n5_ : Aside0 (((((w36.setCell ⟨gb131, 0, none⟩ (.slice Ao38 y122.length co38)).setCell ⟨gb131, 1, none⟩ (.slice Ao37 y128.length co37)).setCell ⟨gb131, 2, none⟩ (.slice none 0 0)).setCell ⟨gb131, 3, none⟩ (.slice none 0 0)).heap[gb110]? = some (.cells #[.slice none 0 0, .slice none 0 0] 25 (0, 0))) := ⟨by (with_reducible repeat (first | refine qa ?_ _ | refine qb ?_ | refine qc ?_ _)); refine blk_far ?_ NB110_131.out _; (with_reducible repeat (first | refine qa ?_ _ | refine qb ?_ | refine qc ?_ _)); refine blk_far ?_ NB110_131.out _; (with_reducible repeat (first | refine qa ?_ _ | refine qb ?_ | refine qc ?_ _)); refine blk_far ?_ NB110_131.out _; (with_reducible repeat (first | refine qa ?_ _ | refine qb ?_ | refine qc ?_ _)); refine blk_far ?_ NB110_131.out _; (with_reducible repeat (first | refine qa ?_ _ | refine qb ?_ | refine qc ?_ _)); exact BK110.out⟩
       have n6_ : Aside0 (((((w36.setCell ⟨gb131, 0, none⟩ (.slice Ao38 y122.length co38)).setCell ⟨gb131, 1, none⟩ (.slice Ao37 y128.length co37)).setCell ⟨gb131, 2, none⟩ (.slice none 0 0)).setCell ⟨gb131, 3, none⟩ (.slice none 0 0)).heap[gb111]? = some (.cells #[.slice none 0 0, .slice none 0 0, .slice none 0 0, .slice none 0 0] 30 (0, 0))) := ⟨by (with_reducible repeat (first | refine qa ?_ _ | refine qb ?_ | refine qc ?_ _)); refine blk_far ?_ NB111_131.out _; (with_reducible repeat (first | refine qa ?_ _ | refine qb ?_ | refine qc ?_ _)); refine blk_far ?_ NB111_131.out _; (with_reducible repeat (first | refine qa ?_ _ | refine qb ?_ | refine qc ?_ _)); refine blk_far ?_ NB111_131.out _; (with_reducible repeat (first | refine qa ?_ _ | refine qb ?_ | refine qc ?_ _)); refine blk_far ?_ NB111_131.out _; (with_reducible repeat (first | refine qa ?_ _ | refine qb ?_ | refine qc ?_ _)); exact BK111.out⟩
       have n7_ : Aside0 (((((w36.setCell ⟨gb131, 0, none⟩ (.slice Ao38 y122.length co38)).setCell ⟨gb131, 1, none⟩ (.slice Ao37 y128.length co37)).setCell ⟨gb131, 2, none⟩ (.slice none 0 0)).setCell ⟨gb131, 3, none⟩ (.slice none 0 0)).heap[gb118]? = some (.cells #[.slice Ao17 t112.length co17, .slice Ao22 t115.length co22] 25 (0, 0))) := ⟨by (with_reducible repeat (first | refine qa ?_ _ | refine qb ?_ | refine qc ?_ _)); refine blk_far ?_ NB118_131.out _; (with_reducible repeat (first | refine qa ?_ _ | refine qb ?_ | refine qc ?_ _)); refine blk_far ?_ NB118_131.out _; (with_reducible repeat (first | refine qa ?_ _ | refine qb ?_ | refine qc ?_ _)); refine blk_far ?_ NB118_131.out _; (with_reducible repeat (first | refine qa ?_ _ | refine qb ?_ | refine qc ?_ _)); refine blk_far ?_ NB118_131.out _; (with_reducible repeat (first | refine qa ?_ _ | refine qb ?_ | refine qc ?_ _)); exact BK118.out⟩
       have n8_ : Aside0 (((((w36.setCell ⟨gb131, 0, none⟩ (.slice Ao38 y122.length co38)).setCell ⟨gb131, 1, none⟩ (.slice Ao37 y128.length co37)).setCell ⟨gb131, 2, none⟩ (.slice none 0 0)).setCell ⟨gb131, 3, none⟩ (.slice none 0 0)).heap[gb131]? = some (.cells #[.slice Ao38 y122.length co38, .slice Ao37 y128.length co37, .slice none 0 0, .slice none 0 0] 30 (0, 0))) := ⟨by (with_reducible repeat (first | refine qa ?_ _ | refine qb ?_ | refine qc ?_ _)); refine blk_put (cs := #[.slice Ao38 y122.length co38, .slice Ao37 y128.length co37, .slice none 0 0, .slice none 0 0]) ?_ 3 _ rfl; (with_reducible repeat (first | refine qa ?_ _ | refine qb ?_ | refine qc ?_ _)); refine blk_put (cs := #[.slice Ao38 y122.length co38, .slice Ao37 y128.length co37, .slice none 0 0, .slice none 0 0]) ?_ 2 _ rfl; (with_reducible repeat (first | refine qa ?_ _ | refine qb ?_ | refine qc ?_ _)); refine blk_put (cs := #[.slice Ao38 y122.length co38, .slice none 0 0, .slice none 0 0, .slice none 0 0]) ?_ 1 _ rfl; (with_reducible repeat (first | refine qa ?_ _ | refine qb ?_ | refine qc ?_ _)); refine blk_put (cs := #[.slice none 0 0, .slice none 0 0, .slice none 0 0, .slice none 0 0]) ?_ 0 _ rfl; (with_reducible repeat (first | refine qa ?_ _ | refine qb ?_ | refine qc ?_ _)); exact BK131.out⟩
       have n9_ : Aside0 (Below w.heap.size w ((((w36.setCell ⟨gb131, 0, none⟩ (.slice Ao38 y122.length co38)).setCell ⟨gb131, 1, none⟩ (.slice Ao37 y128.length co37)).setCell ⟨gb131, 2, none⟩ (.slice none 0 0)).setCell ⟨gb131, 3, none⟩ (.slice none 0 0))) := ⟨by repeat (first | (with_reducible first | exact HB.out | apply qh | apply qj | apply qi | refine qg ?_ GE109.out | refine qg ?_ GE110.out | refine qg ?_ GE111.out | refine qg ?_ GE118.out | refine qg ?_ GE131.out) | exact HB.out)⟩
       (try clear HO121)
       (try clear HO124)
       (try clear HO127)
       (try clear HO130)
       (try clear BK109)
       (try clear BK110)
       (try clear BK111)
       (try clear BK118)
       (try clear BK131)
       (try clear HB)
       generalize ((((w36.setCell ⟨gb131, 0, none⟩ (.slice Ao38 y122.length co38)).setCell ⟨gb131, 1, none⟩ (.slice Ao37 y128.length co37)).setCell ⟨gb131, 2, none⟩ (.slice none 0 0)).setCell ⟨gb131, 3, none⟩ (.slice none 0 0)) = w43 at n0_ n1_ n2_ n3_ n4_ n5_ n6_ n7_ n8_ n9_ ⊢
       have HO121 := n0_
       have HO124 := n1_
       have HO127 := n2_
       have HO130 := n3_
       have BK109 := n4_
       have BK110 := n5_
       have BK111 := n6_
       have BK118 := n7_
       have BK131 := n8_
       have HB := n9_
       clear n0_ n1_ n2_ n3_ n4_ n5_ n6_ n7_ n8_ n9_
       have hnb44 := NB131_109.out
       have hnc44 := NB109_131.out
       have hnb45 := NB131_110.out
       have hnc45 := NB110_131.out
       have hnb46 := NB131_111.out
       have hnc46 := NB111_131.out
       have hnb47 := NB131_118.out
       have hnc47 := NB118_131.out
       have hcz48_0 : w43.cell? ⟨gb131, 0, none⟩ = some (.slice Ao38 y122.length co38) := (qd BK131.out 0).trans rfl
       have hcz48_1 : w43.cell? ⟨gb131, 1, none⟩ = some (.slice Ao37 y128.length co37) := (qd BK131.out 1).trans rfl
       have hcz48_2 : w43.cell? ⟨gb131, 2, none⟩ = some (.slice none 0 0) := (qd BK131.out 2).trans rfl
       have hcz48_3 : w43.cell? ⟨gb131, 3, none⟩ = some (.slice none 0 0) := (qd BK131.out 3).trans rfl
       have hfz48_0 := blk_frozen BK131.out 0
       have hfz48_1 := blk_frozen BK131.out 1
       have hfz48_2 := blk_frozen BK131.out 2
       have hfz48_3 := blk_frozen BK131.out 3
       have hcz49_0 : w43.cell? ⟨gb109, 0, none⟩ = some (.slice A0_0 l0_0.length c0_0) := (qd BK109.out 0).trans rfl
       have hcz49_1 : w43.cell? ⟨gb109, 1, none⟩ = some (.slice A0_1 l0_1.length c0_1) := (qd BK109.out 1).trans rfl
       have hfz49_0 := blk_frozen BK109.out 0
       have hfz49_1 := blk_frozen BK109.out 1
       have q50 : ((l0_0.length : Int) : Int) ≤ ((y122.length : Int) : Int) := of_decide_eq_true (by first | (with_reducible assumption) | assumption)
       obtain ⟨i050, hi050, _, hsz50, _⟩ := info_parts info42
       have hroom50 : y122.length ≤ co38 := (Kd.R_reads' HO124.out).2.1
       have hC50 : Kd.F k42 _ _ Ao38 y122.length y122 := (Kd.V_at (base := w.heap.size) (Kd.R_V (qr (qr (qr (qr (qr (Kd.R_apart' (Kd.R_apart' (HO124.out) (Kd.R_typed HO127.out) (by decide)) (Kd.R_typed HO130.out) (by decide)) BK109.out (by decide)) BK110.out (by decide)) BK111.out (by decide)) BK118.out (by decide)) BK131.out (by decide)))).2.2
       have hcut50 := cut_to (P := Tryd.prog) 22 42 .i64 Tryd.underlying22 hi050 Ao38 y122.length co38 (l0_0.length : Int) (of_decide_eq_true (by first | (with_reducible assumption) | assumption)) q50 hroom50
       have hr50 := Kd.F_take (m := ((l0_0.length : Int) : Int).toNat) hC50 (by omega)
       have hy50 : y132.length = ((l0_0.length : Int) : Int).toNat := (by rw [Ny132.out, List.length_take]; omega)
       rw [← Ny132.out] at hr50
       rw [← hy50] at hcut50
       have HO136 := qA (show Kd.V k42 42 _ w.heap.size _ (.slice Ao38 y132.length co38) y132 from Kd.V_mk (by omega) hr50)
       have HC136 := qA (show y132.length ≤ co38 from by omega)
       clear hr50 hC50 hroom50 hi050 hsz50
       have KY50 := qA hy50
       clear hy50
       replace q50 := eq_true q50
       have hcz51_0 : w43.cell? ⟨gb118, 0, none⟩ = some (.slice Ao17 t112.length co17) := (qd BK118.out 0).trans rfl
       have hcz51_1 : w43.cell? ⟨gb118, 1, none⟩ = some (.slice Ao22 t115.length co22) := (qd BK118.out 1).trans rfl
       have hfz51_0 := blk_frozen BK118.out 0
       have hfz51_1 := blk_frozen BK118.out 1
       try go_wp2_with (first | ((with_reducible refine gate_store (t := 22) (p := 27) rfl ?_); refine store_event (t := 22) (p := 27) (v := ?vo_w52) (w1 := (w43.setCell ⟨gb118, 0, none⟩ (.slice Ao38 y132.length co38))) ?hg ?ho ?hn ?hr ?_; (case ho => rfl); (case hg => rfl); (case hn => rfl); (case hr => first | (go_simp; done) | (go_simp; rfl)); intro w52 hw; have n0_ : Aside0 (Kd.R k42 42 w52 w.heap.size (fun k_ => (w.heap.size ≤ k_) ∧ some k_ ≠ (.slice Ao38 y122.length co38 : Value).ownBlock) v120 y119) := ⟨(by rw [hw]; exact (by (with_reducible repeat (first | apply qm | apply qn | apply qo)); exact qp (qs (p := ⟨gb118, 0, none⟩) (qr HO121.out BK118.out (by decide)) (fun _ hk => hk.2) (.slice Ao38 y132.length co38)) (fun _ hk => ⟨hk.1.1, hk.1.2⟩)))⟩; have n1_ : Aside0 (Kd.R k42 42 w52 w.heap.size (fun k_ => (w.heap.size ≤ k_) ∧ some k_ ≠ (v120 : Value).ownBlock) (.slice Ao38 y122.length co38) y122) := ⟨(by rw [hw]; exact (by (with_reducible repeat (first | apply qm | apply qn | apply qo)); exact qp (qs (p := ⟨gb118, 0, none⟩) (qr HO124.out BK118.out (by decide)) (fun _ hk => hk.2) (.slice Ao38 y132.length co38)) (fun _ hk => ⟨hk.1.1, hk.1.2⟩)))⟩; have n2_ : Aside0 (Kd.R k47 47 w52 w.heap.size (fun k_ => (w.heap.size ≤ k_) ∧ some k_ ≠ (.slice Ao37 y128.length co37 : Value).ownBlock) v126 y125) := ⟨(by rw [hw]; exact (by (with_reducible repeat (first | apply qm | apply qn | apply qo)); exact qp (qs (p := ⟨gb118, 0, none⟩) (qr HO127.out BK118.out (by decide)) (fun _ hk => hk.2) (.slice Ao38 y132.length co38)) (fun _ hk => ⟨hk.1.1, hk.1.2⟩)))⟩; have n3_ : Aside0 (Kd.R k47 47 w52 w.heap.size (fun k_ => (w.heap.size ≤ k_) ∧ some k_ ≠ (v126 : Value).ownBlock) (.slice Ao37 y128.length co37) y128) := ⟨(by rw [hw]; exact (by (with_reducible repeat (first | apply qm | apply qn | apply qo)); exact qp (qs (p := ⟨gb118, 0, none⟩) (qr HO130.out BK118.out (by decide)) (fun _ hk => hk.2) (.slice Ao38 y132.length co38)) (fun _ hk => ⟨hk.1.1, hk.1.2⟩)))⟩; have n4_ : Aside0 (Kd.V k42 42 w52 w.heap.size (fun k_ => (w.heap.size ≤ k_) ∧ some k_ ≠ (v120 : Value).ownBlock ∧ some k_ ≠ (v126 : Value).ownBlock ∧ some k_ ≠ (.slice Ao37 y128.length co37 : Value).ownBlock ∧ k_ ≠ gb109 ∧ k_ ≠ gb110 ∧ k_ ≠ gb111 ∧ k_ ≠ gb118 ∧ k_ ≠ gb131) (.slice Ao38 y132.length co38) y132) := ⟨(by rw [hw]; exact (by (with_reducible repeat (first | apply Kd.V_alloc | apply Kd.V_drewN | apply Kd.V_drew)); exact Kd.V_mono (Kd.V_far (p := ⟨gb118, 0, none⟩) (Kd.V_mono HO136.out (fun k_ hk => (⟨hk, hk.1.2⟩ : _ ∧ k_ ≠ gb118))) (fun _ hk => hk.2) (.slice Ao38 y132.length co38)) (fun _ hk => ⟨hk.1.1.1.1.1.1.1.1.1, ⟨hk.1.1.1.1.1.1.1.1.2, ⟨hk.1.1.1.1.1.1.1.2, ⟨hk.1.1.1.1.1.1.2, ⟨hk.1.1.1.1.1.2, ⟨hk.1.1.1.1.2, ⟨hk.1.1.1.2, ⟨hk.1.1.2, hk.1.2⟩⟩⟩⟩⟩⟩⟩⟩)))⟩; have n5_ : Aside0 (w52.heap[gb109]? = some (.cells #[.slice A0_0 l0_0.length c0_0, .slice A0_1 l0_1.length c0_1] 25 (0, 0))) := ⟨(by rw [hw]; exact (by (with_reducible repeat (first | refine qa ?_ _ | refine qb ?_ | refine qc ?_ _)); refine blk_far ?_ NB109_118.out _; (with_reducible repeat (first | refine qa ?_ _ | refine qb ?_ | refine qc ?_ _)); exact BK109.out))⟩; have n6_ : Aside0 (w52.heap[gb110]? = some (.cells #[.slice none 0 0, .slice none 0 0] 25 (0, 0))) := ⟨(by rw [hw]; exact (by (with_reducible repeat (first | refine qa ?_ _ | refine qb ?_ | refine qc ?_ _)); refine blk_far ?_ NB110_118.out _; (with_reducible repeat (first | refine qa ?_ _ | refine qb ?_ | refine qc ?_ _)); exact BK110.out))⟩; have n7_ : Aside0 (w52.heap[gb111]? = some (.cells #[.slice none 0 0, .slice none 0 0, .slice none 0 0, .slice none 0 0] 30 (0, 0))) := ⟨(by rw [hw]; exact (by (with_reducible repeat (first | refine qa ?_ _ | refine qb ?_ | refine qc ?_ _)); refine blk_far ?_ NB111_118.out _; (with_reducible repeat (first | refine qa ?_ _ | refine qb ?_ | refine qc ?_ _)); exact BK111.out))⟩; have n8_ : Aside0 (w52.heap[gb118]? = some (.cells #[.slice Ao38 y132.length co38, .slice Ao22 t115.length co22] 25 (0, 0))) := ⟨(by rw [hw]; exact (by (with_reducible repeat (first | refine qa ?_ _ | refine qb ?_ | refine qc ?_ _)); refine blk_put (cs := #[.slice Ao17 t112.length co17, .slice Ao22 t115.length co22]) ?_ 0 _ rfl; (with_reducible repeat (first | refine qa ?_ _ | refine qb ?_ | refine qc ?_ _)); exact BK118.out))⟩; have n9_ : Aside0 (w52.heap[gb131]? = some (.cells #[.slice Ao38 y122.length co38, .slice Ao37 y128.length co37, .slice none 0 0, .slice none 0 0] 30 (0, 0))) := ⟨(by rw [hw]; exact (by (with_reducible repeat (first | refine qa ?_ _ | refine qb ?_ | refine qc ?_ _)); refine blk_far ?_ NB131_118.out _; (with_reducible repeat (first | refine qa ?_ _ | refine qb ?_ | refine qc ?_ _)); exact BK131.out))⟩; have n10_ : Aside0 (Below w.heap.size w w52) := ⟨(by rw [hw]; exact (by repeat (first | (with_reducible first | exact HB.out | apply qh | apply qj | apply qi | refine qg ?_ GE109.out | refine qg ?_ GE110.out | refine qg ?_ GE111.out | refine qg ?_ GE118.out | refine qg ?_ GE131.out) | exact HB.out)))⟩; clear hw; clear HO121; clear HO124; clear HO127; clear HO130; clear HO136; clear BK109; clear BK110; clear BK111; clear BK118; clear BK131; clear HB; have HO121 := n0_; have HO124 := n1_; have HO127 := n2_; have HO130 := n3_; have HO136 := n4_; have BK109 := n5_; have BK110 := n6_; have BK111 := n7_; have BK118 := n8_; have BK131 := n9_; have HB := n10_; clear n0_ n1_ n2_ n3_ n4_ n5_ n6_ n7_ n8_ n9_ n10_; have hcz53_0 : w52.cell? ⟨gb131, 0, none⟩ = some (.slice Ao38 y122.length co38) := (qd BK131.out 0).trans rfl; have hcz53_1 : w52.cell? ⟨gb131, 1, none⟩ = some (.slice Ao37 y128.length co37) := (qd BK131.out 1).trans rfl; have hcz53_2 : w52.cell? ⟨gb131, 2, none⟩ = some (.slice none 0 0) := (qd BK131.out 2).trans rfl; have hcz53_3 : w52.cell? ⟨gb131, 3, none⟩ = some (.slice none 0 0) := (qd BK131.out 3).trans rfl; have hfz53_0 := blk_frozen BK131.out 0; have hfz53_1 := blk_frozen BK131.out 1; have hfz53_2 := blk_frozen BK131.out 2; have hfz53_3 := blk_frozen BK131.out 3; have hcz54_0 : w52.cell? ⟨gb109, 0, none⟩ = some (.slice A0_0 l0_0.length c0_0) := (qd BK109.out 0).trans rfl; have hcz54_1 : w52.cell? ⟨gb109, 1, none⟩ = some (.slice A0_1 l0_1.length c0_1) := (qd BK109.out 1).trans rfl; have hfz54_0 := blk_frozen BK109.out 0; have hfz54_1 := blk_frozen BK109.out 1; have q55 : ((l0_1.length : Int) : Int) ≤ ((y128.length : Int) : Int) := of_decide_eq_true (by first | (with_reducible assumption) | assumption); obtain ⟨i055, hi055, _, hsz55, _⟩ := info_parts info47; have hroom55 : y128.length ≤ co37 := (Kd.R_reads' HO130.out).2.1; have hC55 : Kd.F k47 _ _ Ao37 y128.length y128 := (Kd.V_at (base := w.heap.size) (Kd.R_V (qr (qr (qr (qr (qr (Kd.R_apart' (Kd.R_apart' (HO130.out) (Kd.R_typed HO121.out) (by decide)) (Kd.R_typed HO124.out) (by decide)) BK109.out (by decide)) BK110.out (by decide)) BK111.out (by decide)) BK118.out (by decide)) BK131.out (by decide)))).2.2; have hcut55 := cut_to (P := Tryd.prog) 23 47 .i64 Tryd.underlying23 hi055 Ao37 y128.length co37 (l0_1.length : Int) (of_decide_eq_true (by first | (with_reducible assumption) | assumption)) q55 hroom55; have hr55 := Kd.F_take (m := ((l0_1.length : Int) : Int).toNat) hC55 (by omega); have hy55 : y137.length = ((l0_1.length : Int) : Int).toNat := (by rw [Ny137.out, List.length_take]; omega); rw [← Ny137.out] at hr55; rw [← hy55] at hcut55; have HO141 := qA (show Kd.V k47 47 _ w.heap.size _ (.slice Ao37 y137.length co37) y137 from Kd.V_mk (by omega) hr55); have HC141 := qA (show y137.length ≤ co37 from by omega); clear hr55 hC55 hroom55 hi055 hsz55; have KY55 := qA hy55; clear hy55; replace q55 := eq_true q55; have hcz56_0 : w52.cell? ⟨gb118, 0, none⟩ = some (.slice Ao38 y132.length co38) := (qd BK118.out 0).trans rfl; have hcz56_1 : w52.cell? ⟨gb118, 1, none⟩ = some (.slice Ao22 t115.length co22) := (qd BK118.out 1).trans rfl; have hfz56_0 := blk_frozen BK118.out 0; have hfz56_1 := blk_frozen BK118.out 1))
       have n0_ : Aside0 (Kd.R k42 42 (w52.setCell ⟨gb118, 1, none⟩ (.slice Ao37 y137.length co37)) w.heap.size (fun k_ => (w.heap.size ≤ k_) ∧ some k_ ≠ (.slice Ao38 y122.length co38 : Value).ownBlock) v120 y119) := ⟨by (with_reducible repeat (first | apply qm | apply qn | apply qo)); exact qp (qs (p := ⟨gb118, 1, none⟩) (qr HO121.out BK118.out (by decide)) (fun _ hk => hk.2) (.slice Ao37 y137.length co37)) (fun _ hk => ⟨hk.1.1, hk.1.2⟩)⟩
       have n1_ : Aside0 (Kd.R k42 42 (w52.setCell ⟨gb118, 1, none⟩ (.slice Ao37 y137.length co37)) w.heap.size (fun k_ => (w.heap.size ≤ k_) ∧ some k_ ≠ (v120 : Value).ownBlock) (.slice Ao38 y122.length co38) y122) := ⟨by (with_reducible repeat (first | apply qm | apply qn | apply qo)); exact qp (qs (p := ⟨gb118, 1, none⟩) (qr HO124.out BK118.out (by decide)) (fun _ hk => hk.2) (.slice Ao37 y137.length co37)) (fun _ hk => ⟨hk.1.1, hk.1.2⟩)⟩
       have n2_ : Aside0 (Kd.R k47 47 (w52.setCell ⟨gb118, 1, none⟩ (.slice Ao37 y137.length co37)) w.heap.size (fun k_ => (w.heap.size ≤ k_) ∧ some k_ ≠ (.slice Ao37 y128.length co37 : Value).ownBlock) v126 y125) := ⟨by (with_reducible repeat (first | apply qm | apply qn | apply qo)); exact qp (qs (p := ⟨gb118, 1, none⟩) (qr HO127.out BK118.out (by decide)) (fun _ hk => hk.2) (.slice Ao37 y137.length co37)) (fun _ hk => ⟨hk.1.1, hk.1.2⟩)⟩
       have n3_ : Aside0 (Kd.R k47 47 (w52.setCell ⟨gb118, 1, none⟩ (.slice Ao37 y137.length co37)) w.heap.size (fun k_ => (w.heap.size ≤ k_) ∧ some k_ ≠ (v126 : Value).ownBlock) (.slice Ao37 y128.length co37) y128) := ⟨by (with_reducible repeat (first | apply qm | apply qn | apply qo)); exact qp (qs (p := ⟨gb118, 1, none⟩) (qr HO130.out BK118.out (by decide)) (fun _ hk => hk.2) (.slice Ao37 y137.length co37)) (fun _ hk => ⟨hk.1.1, hk.1.2⟩)⟩
       have n4_ : Aside0 (Kd.V k42 42 (w52.setCell ⟨gb118, 1, none⟩ (.slice Ao37 y137.length co37)) w.heap.size (fun k_ => (w.heap.size ≤ k_) ∧ some k_ ≠ (v120 : Value).ownBlock ∧ some k_ ≠ (v126 : Value).ownBlock ∧ some k_ ≠ (.slice Ao37 y128.length co37 : Value).ownBlock ∧ k_ ≠ gb109 ∧ k_ ≠ gb110 ∧ k_ ≠ gb111 ∧ k_ ≠ gb118 ∧ k_ ≠ gb131) (.slice Ao38 y132.length co38) y132) := ⟨by (with_reducible repeat (first | apply Kd.V_alloc | apply Kd.V_drewN | apply Kd.V_drew)); exact Kd.V_mono (Kd.V_far (p := ⟨gb118, 1, none⟩) (Kd.V_mono HO136.out (fun k_ hk => (⟨hk, hk.2.2.2.2.2.2.2.1⟩ : _ ∧ k_ ≠ gb118))) (fun _ hk => hk.2) (.slice Ao37 y137.length co37)) (fun _ hk => ⟨hk.1.1, ⟨hk.1.2.1, ⟨hk.1.2.2.1, ⟨hk.1.2.2.2.1, ⟨hk.1.2.2.2.2.1, ⟨hk.1.2.2.2.2.2.1, ⟨hk.1.2.2.2.2.2.2.1, ⟨hk.1.2.2.2.2.2.2.2.1, hk.1.2.2.2.2.2.2.2.2⟩⟩⟩⟩⟩⟩⟩⟩)⟩
       have n5_ : Aside0 (Kd.V k47 47 (w52.setCell ⟨gb118, 1, none⟩ (.slice Ao37 y137.length co37)) w.heap.size (fun k_ => (w.heap.size ≤ k_) ∧ some k_ ≠ (v120 : Value).ownBlock ∧ some k_ ≠ (.slice Ao38 y122.length co38 : Value).ownBlock ∧ some k_ ≠ (v126 : Value).ownBlock ∧ k_ ≠ gb109 ∧ k_ ≠ gb110 ∧ k_ ≠ gb111 ∧ k_ ≠ gb118 ∧ k_ ≠ gb131) (.slice Ao37 y137.length co37) y137) := ⟨by (with_reducible repeat (first | apply Kd.V_alloc | apply Kd.V_drewN | apply Kd.V_drew)); exact Kd.V_mono (Kd.V_far (p := ⟨gb118, 1, none⟩) (Kd.V_mono HO141.out (fun k_ hk => (⟨hk, hk.1.2⟩ : _ ∧ k_ ≠ gb118))) (fun _ hk => hk.2) (.slice Ao37 y137.length co37)) (fun _ hk => ⟨hk.1.1.1.1.1.1.1.1.1, ⟨hk.1.1.1.1.1.1.1.2, ⟨hk.1.1.1.1.1.1.2, ⟨hk.1.1.1.1.1.1.1.1.2, ⟨hk.1.1.1.1.1.2, ⟨hk.1.1.1.1.2, ⟨hk.1.1.1.2, ⟨hk.1.1.2, hk.1.2⟩⟩⟩⟩⟩⟩⟩⟩)⟩
       have n6_ : Aside0 ((w52.setCell ⟨gb118, 1, none⟩ (.slice Ao37 y137.length co37)).heap[gb109]? = some (.cells #[.slice A0_0 l0_0.length c0_0, .slice A0_1 l0_1.length c0_1] 25 (0, 0))) := ⟨by (with_reducible repeat (first | refine qa ?_ _ | refine qb ?_ | refine qc ?_ _)); refine blk_far ?_ NB109_118.out _; (with_reducible repeat (first | refine qa ?_ _ | refine qb ?_ | refine qc ?_ _)); exact BK109.out⟩
       have n7_ : Aside0 ((w52.setCell ⟨gb118, 1, none⟩ (.slice Ao37 y137.length co37)).heap[gb110]? = some (.cells #[.slice none 0 0, .slice none 0 0] 25 (0, 0))) := ⟨by (with_reducible repeat (first | refine qa ?_ _ | refine qb ?_ | refine qc ?_ _)); refine blk_far ?_ NB110_118.out _; (with_reducible repeat (first | refine qa ?_ _ | refine qb ?_ | refine qc ?_ _)); exact BK110.out⟩
       have n8_ : Aside0 ((w52.setCell ⟨gb118, 1, none⟩ (.slice Ao37 y137.length co37)).heap[gb111]? = some (.cells #[.slice none 0 0, .slice none 0 0, .slice none 0 0, .slice none 0 0] 30 (0, 0))) := ⟨by (with_reducible repeat (first | refine qa ?_ _ | refine qb ?_ | refine qc ?_ _)); refine blk_far ?_ NB111_118.out _; (with_reducible repeat (first | refine qa ?_ _ | refine qb ?_ | refine qc ?_ _)); exact BK111.out⟩
       have n9_ : Aside0 ((w52.setCell ⟨gb118, 1, none⟩ (.slice Ao37 y137.length co37)).heap[gb118]? = some (.cells #[.slice Ao38 y132.length co38, .slice Ao37 y137.length co37] 25 (0, 0))) := ⟨by (with_reducible repeat (first | refine qa ?_ _ | refine qb ?_ | refine qc ?_ _)); refine blk_put (cs := #[.slice Ao38 y132.length co38, .slice Ao22 t115.length co22]) ?_ 1 _ rfl; (with_reducible repeat (first | refine qa ?_ _ | refine qb ?_ | refine qc ?_ _)); exact BK118.out⟩
       have n10_ : Aside0 ((w52.setCell ⟨gb118, 1, none⟩ (.slice Ao37 y137.length co37)).heap[gb131]? = some (.cells #[.slice Ao38 y122.length co38, .slice Ao37 y128.length co37, .slice none 0 0, .slice none 0 0] 30 (0, 0))) := ⟨by (with_reducible repeat (first | refine qa ?_ _ | refine qb ?_ | refine qc ?_ _)); refine blk_far ?_ NB131_118.out _; (with_reducible repeat (first | refine qa ?_ _ | refine qb ?_ | refine qc ?_ _)); exact BK131.out⟩
       have n11_ : Aside0 (Below w.heap.size w (w52.setCell ⟨gb118, 1, none⟩ (.slice Ao37 y137.length co37))) := ⟨by repeat (first | (with_reducible first | exact HB.out | apply qh | apply qj | apply qi | refine qg ?_ GE109.out | refine qg ?_ GE110.out | refine qg ?_ GE111.out | refine qg ?_ GE118.out | refine qg ?_ GE131.out) | exact HB.out)⟩
       (try clear HO121)
       (try clear HO124)
       (try clear HO127)
       (try clear HO130)
       (try clear HO136)
       (try clear HO141)
       (try clear BK109)
       (try clear BK110)
       (try clear BK111)
       (try clear BK118)
       (try clear BK131)
       (try clear HB)
       generalize (w52.setCell ⟨gb118, 1, none⟩ (.slice Ao37 y137.length co37)) = w57 at n0_ n1_ n2_ n3_ n4_ n5_ n6_ n7_ n8_ n9_ n10_ n11_ ⊢
       have HO121 := n0_
       have HO124 := n1_
       have HO127 := n2_
       have HO130 := n3_
       have HO136 := n4_
       have HO141 := n5_
       have BK109 := n6_
       have BK110 := n7_
       have BK111 := n8_
       have BK118 := n9_
       have BK131 := n10_
       have HB := n11_
       clear n0_ n1_ n2_ n3_ n4_ n5_ n6_ n7_ n8_ n9_ n10_ n11_
       have n0_ := qA (qo HO121.out)
       have n1_ := qA (qo HO124.out)
       have n2_ := qA (qo HO127.out)
       have n3_ := qA (qo HO130.out)
       have n4_ := qA (Kd.V_drew HO136.out)
       have n5_ := qA (Kd.V_drew HO141.out)
       have n6_ := qA (qb BK109.out)
       have n7_ := qA (qb BK110.out)
       have n8_ := qA (qb BK111.out)
       have n9_ := qA (qb BK118.out)
       have n10_ := qA (qb BK131.out)
       have n11_ := qA (qi HB.out)
       clear HO121
       clear HO124
       clear HO127
       clear HO130
       clear HO136
       clear HO141
       clear BK109
       clear BK110
       clear BK111
       clear BK118
       clear BK131
       clear HB
       have HO121 := n0_
       have HO124 := n1_
       have HO127 := n2_
       have HO130 := n3_
       have HO136 := n4_
       have HO141 := n5_
       have BK109 := n6_
       have BK110 := n7_
       have BK111 := n8_
       have BK118 := n9_
       have BK131 := n10_
       have HB := n11_
       clear n0_ n1_ n2_ n3_ n4_ n5_ n6_ n7_ n8_ n9_ n10_ n11_
       refine start_ (n := 4) (S := fun w' => w'.cell? ⟨gb118, 0, none⟩ = some (.slice Ao38 y132.length co38) ∧ w'.cell? ⟨gb118, 1, none⟩ = some (.slice Ao37 y137.length co37) ∧ w'.cell? ⟨gb131, 0, none⟩ = some (.slice Ao38 y122.length co38) ∧ w'.cell? ⟨gb131, 1, none⟩ = some (.slice Ao37 y128.length co37) ∧ w'.cell? ⟨gb131, 2, none⟩ = some (.slice none 0 0) ∧ w'.cell? ⟨gb131, 3, none⟩ = some (.slice none 0 0)) (ds := []) #[false, false, false, false] (by kernel_rfl) rfl rfl ⟨(qd BK118.out 0).trans rfl, (qd BK118.out 1).trans rfl, (qd BK131.out 0).trans rfl, (qd BK131.out 1).trans rfl, (qd BK131.out 2).trans rfl, (qd BK131.out 3).trans rfl⟩ (fun hHeld => ?_)
       generalize w57.drew = w58 at HO121 HO124 HO127 HO130 HO136 HO141 BK109 BK110 BK111 BK118 BK131 HB hHeld ⊢
       refine take_ (i := 0) (N := some 35) (v := ?_) (a' := ?_) #[true, false, false, false] rfl rfl (by kernel_rfl) (fun _ _ _ h => h) (Or.inl ⟨by rfl, ?_⟩) hHeld ?_ ?_
       rotate_left
       ·rintro w' ⟨s0, s1, s2, s3, s4, s5⟩
        go_simp
        with_reducible rfl
       rotate_left
       ·simp only [Act.put, qx, qy, qz, i64_w, i32_w]
        rfl
       refine take_ (i := 1) (N := some 36) (v := ?_) (a' := ?_) #[true, true, false, false] rfl rfl (by kernel_rfl) (fun _ _ _ h => h) (Or.inl ⟨by rfl, ?_⟩) hHeld ?_ ?_
       rotate_left
       ·rintro w' ⟨s0, s1, s2, s3, s4, s5⟩
        go_simp
        with_reducible rfl
       rotate_left
       ·simp only [Act.put, qx, qy, qz, i64_w, i32_w]
        rfl
       refine one_ (i := 2) (N := none) #[true, true, true, false] rfl rfl (by kernel_rfl) (by decide) (fun K hK => ?_)
       have hs59 : w58.cell? ⟨gb110, 0, none⟩ = some (.slice none 0 0) := (qd BK110.out 0).trans rfl
       have hfs59 := blk_frozen BK110.out 0
       have hns59_0 := NB109_110.out
       have hns59_2 := NB111_110.out
       have hns59_3 := NB118_110.out
       have hns59_4 := NB131_110.out
       have hms59_0 := NB110_109.out
       have hms59_2 := NB110_111.out
       have hms59_3 := NB110_118.out
       have hms59_4 := NB110_131.out
       have hs60 : w58.cell? ⟨gb110, 1, none⟩ = some (.slice none 0 0) := (qd BK110.out 1).trans rfl
       have hfs60 := blk_frozen BK110.out 1
       have hns60_0 := NB109_110.out
       have hns60_2 := NB111_110.out
       have hns60_3 := NB118_110.out
       have hns60_4 := NB131_110.out
       have hms60_0 := NB110_109.out
       have hms60_2 := NB110_111.out
       have hms60_3 := NB110_118.out
       have hms60_4 := NB110_131.out
       refine skip_ (w1 := ?_) (by rfl) rfl ?_ ?_
       rotate_left
       ·go_simp
        rfl
       refine hK.out _ _ ⟨((cell_far (p := ⟨gb110, _, none⟩) NB118_110.out _).trans (((cell_far (p := ⟨gb110, _, none⟩) NB118_110.out _).trans (hHeld.1)))), ((cell_far (p := ⟨gb110, _, none⟩) NB118_110.out _).trans (((cell_far (p := ⟨gb110, _, none⟩) NB118_110.out _).trans (hHeld.2.1)))), ((cell_far (p := ⟨gb110, _, none⟩) NB131_110.out _).trans (((cell_far (p := ⟨gb110, _, none⟩) NB131_110.out _).trans (hHeld.2.2.1)))), ((cell_far (p := ⟨gb110, _, none⟩) NB131_110.out _).trans (((cell_far (p := ⟨gb110, _, none⟩) NB131_110.out _).trans (hHeld.2.2.2.1)))), ((cell_far (p := ⟨gb110, _, none⟩) NB131_110.out _).trans (((cell_far (p := ⟨gb110, _, none⟩) NB131_110.out _).trans (hHeld.2.2.2.2.1)))), ((cell_far (p := ⟨gb110, _, none⟩) NB131_110.out _).trans (((cell_far (p := ⟨gb110, _, none⟩) NB131_110.out _).trans (hHeld.2.2.2.2.2))))⟩ (fun hHeld => ?_)
       clear hK K
       refine one_ (i := 3) (N := none) #[true, true, true, true] rfl rfl (by kernel_rfl) (by decide) (fun K hK => ?_)
       have hs61 : w58.cell? ⟨gb111, 0, none⟩ = some (.slice none 0 0) := (qd BK111.out 0).trans rfl
       have hfs61 := blk_frozen BK111.out 0
       have hns61_0 := NB109_111.out
       have hns61_1 := NB110_111.out
       have hns61_3 := NB118_111.out
       have hns61_4 := NB131_111.out
       have hms61_0 := NB111_109.out
       have hms61_1 := NB111_110.out
       have hms61_3 := NB111_118.out
       have hms61_4 := NB111_131.out
       have hs62 : w58.cell? ⟨gb111, 1, none⟩ = some (.slice none 0 0) := (qd BK111.out 1).trans rfl
       have hfs62 := blk_frozen BK111.out 1
       have hns62_0 := NB109_111.out
       have hns62_1 := NB110_111.out
       have hns62_3 := NB118_111.out
       have hns62_4 := NB131_111.out
       have hms62_0 := NB111_109.out
       have hms62_1 := NB111_110.out
       have hms62_3 := NB111_118.out
       have hms62_4 := NB111_131.out
       have hs63 : w58.cell? ⟨gb111, 2, none⟩ = some (.slice none 0 0) := (qd BK111.out 2).trans rfl
       have hfs63 := blk_frozen BK111.out 2
       have hns63_0 := NB109_111.out
       have hns63_1 := NB110_111.out
       have hns63_3 := NB118_111.out
       have hns63_4 := NB131_111.out
       have hms63_0 := NB111_109.out
       have hms63_1 := NB111_110.out
       have hms63_3 := NB111_118.out
       have hms63_4 := NB111_131.out
       have hs64 : w58.cell? ⟨gb111, 3, none⟩ = some (.slice none 0 0) := (qd BK111.out 3).trans rfl
       have hfs64 := blk_frozen BK111.out 3
       have hns64_0 := NB109_111.out
       have hns64_1 := NB110_111.out
       have hns64_3 := NB118_111.out
       have hns64_4 := NB131_111.out
       have hms64_0 := NB111_109.out
       have hms64_1 := NB111_110.out
       have hms64_3 := NB111_118.out
       have hms64_4 := NB111_131.out
       refine skip_ (w1 := ?_) (by rfl) rfl ?_ ?_
       rotate_left
       ·go_simp
        rfl
       refine hK.out _ _ ⟨((cell_far (p := ⟨gb111, _, none⟩) NB118_111.out _).trans (((cell_far (p := ⟨gb111, _, none⟩) NB118_111.out _).trans (((cell_far (p := ⟨gb111, _, none⟩) NB118_111.out _).trans (((cell_far (p := ⟨gb111, _, none⟩) NB118_111.out _).trans (hHeld.1)))))))), ((cell_far (p := ⟨gb111, _, none⟩) NB118_111.out _).trans (((cell_far (p := ⟨gb111, _, none⟩) NB118_111.out _).trans (((cell_far (p := ⟨gb111, _, none⟩) NB118_111.out _).trans (((cell_far (p := ⟨gb111, _, none⟩) NB118_111.out _).trans (hHeld.2.1)))))))), ((cell_far (p := ⟨gb111, _, none⟩) NB131_111.out _).trans (((cell_far (p := ⟨gb111, _, none⟩) NB131_111.out _).trans (((cell_far (p := ⟨gb111, _, none⟩) NB131_111.out _).trans (((cell_far (p := ⟨gb111, _, none⟩) NB131_111.out _).trans (hHeld.2.2.1)))))))), ((cell_far (p := ⟨gb111, _, none⟩) NB131_111.out _).trans (((cell_far (p := ⟨gb111, _, none⟩) NB131_111.out _).trans (((cell_far (p := ⟨gb111, _, none⟩) NB131_111.out _).trans (((cell_far (p := ⟨gb111, _, none⟩) NB131_111.out _).trans (hHeld.2.2.2.1)))))))), ((cell_far (p := ⟨gb111, _, none⟩) NB131_111.out _).trans (((cell_far (p := ⟨gb111, _, none⟩) NB131_111.out _).trans (((cell_far (p := ⟨gb111, _, none⟩) NB131_111.out _).trans (((cell_far (p := ⟨gb111, _, none⟩) NB131_111.out _).trans (hHeld.2.2.2.2.1)))))))), ((cell_far (p := ⟨gb111, _, none⟩) NB131_111.out _).trans (((cell_far (p := ⟨gb111, _, none⟩) NB131_111.out _).trans (((cell_far (p := ⟨gb111, _, none⟩) NB131_111.out _).trans (((cell_far (p := ⟨gb111, _, none⟩) NB131_111.out _).trans (hHeld.2.2.2.2.2))))))))⟩ (fun hHeld => ?_)
       clear hK K
       refine done_ (by kernel_rfl) ?_
       try go_wp2
       refine bodyPost_ret (results_cc rfl _ _ gb110 gb111 25 30 #[.slice Ao38 y132.length co38, .slice Ao37 y137.length co37] #[.slice Ao38 y122.length co38, .slice Ao37 y128.length co37, .slice none 0 0, .slice none 0 0] (0, 0) (0, 0) _ _ rfl (by (with_reducible repeat (first | refine qa ?_ _ | refine qb ?_ | refine qc ?_ _)); refine blk_far ?_ NB110_111.out _; (with_reducible repeat (first | refine qa ?_ _ | refine qb ?_ | refine qc ?_ _)); refine blk_far ?_ NB110_111.out _; (with_reducible repeat (first | refine qa ?_ _ | refine qb ?_ | refine qc ?_ _)); refine blk_far ?_ NB110_111.out _; (with_reducible repeat (first | refine qa ?_ _ | refine qb ?_ | refine qc ?_ _)); refine blk_far ?_ NB110_111.out _; (with_reducible repeat (first | refine qa ?_ _ | refine qb ?_ | refine qc ?_ _)); refine blk_put (cs := #[.slice Ao38 y132.length co38, .slice none 0 0]) ?_ 1 _ rfl; (with_reducible repeat (first | refine qa ?_ _ | refine qb ?_ | refine qc ?_ _)); refine blk_put (cs := #[.slice none 0 0, .slice none 0 0]) ?_ 0 _ rfl; (with_reducible repeat (first | refine qa ?_ _ | refine qb ?_ | refine qc ?_ _)); exact BK110.out) Tryd.underlying25 rfl (by kernel_rfl) rfl (by (with_reducible repeat (first | refine qa ?_ _ | refine qb ?_ | refine qc ?_ _)); refine blk_put (cs := #[.slice Ao38 y122.length co38, .slice Ao37 y128.length co37, .slice none 0 0, .slice none 0 0]) ?_ 3 _ rfl; (with_reducible repeat (first | refine qa ?_ _ | refine qb ?_ | refine qc ?_ _)); refine blk_put (cs := #[.slice Ao38 y122.length co38, .slice Ao37 y128.length co37, .slice none 0 0, .slice none 0 0]) ?_ 2 _ rfl; (with_reducible repeat (first | refine qa ?_ _ | refine qb ?_ | refine qc ?_ _)); refine blk_put (cs := #[.slice Ao38 y122.length co38, .slice none 0 0, .slice none 0 0, .slice none 0 0]) ?_ 1 _ rfl; (with_reducible repeat (first | refine qa ?_ _ | refine qb ?_ | refine qc ?_ _)); refine blk_put (cs := #[.slice none 0 0, .slice none 0 0, .slice none 0 0, .slice none 0 0]) ?_ 0 _ rfl; (with_reducible repeat (first | refine qa ?_ _ | refine qb ?_ | refine qc ?_ _)); refine blk_far ?_ NB111_110.out _; (with_reducible repeat (first | refine qa ?_ _ | refine qb ?_ | refine qc ?_ _)); refine blk_far ?_ NB111_110.out _; (with_reducible repeat (first | refine qa ?_ _ | refine qb ?_ | refine qc ?_ _)); exact BK111.out) Tryd.underlying30 rfl (by kernel_rfl)) rfl ?_
       exact ⟨_, _, _, _, _, _, by first | rfl | (simp [errW_none, errW_some] <;> rfl) | (simp [*, errW_none, errW_some] <;> rfl), by (with_reducible repeat (first | apply Kd.V_alloc | apply Kd.V_drewN | apply Kd.V_drew)); exact Kd.V_mono (Kd.V_far (p := ⟨gb111, 3, none⟩) (Kd.V_far (p := ⟨gb111, 2, none⟩) (Kd.V_far (p := ⟨gb111, 1, none⟩) (Kd.V_far (p := ⟨gb111, 0, none⟩) (Kd.V_far (p := ⟨gb110, 1, none⟩) (Kd.V_far (p := ⟨gb110, 0, none⟩) (Kd.V_mono (Kd.V_mono HO136.out (fun k_ hk => (⟨hk, hk.2.2.2.2.2.1⟩ : _ ∧ k_ ≠ gb110))) (fun k_ hk => (⟨hk, hk.1.2.2.2.2.2.2.1⟩ : _ ∧ k_ ≠ gb111))) (fun _ hk => hk.1.2) (.slice Ao38 y132.length co38)) (fun _ hk => hk.1.2) (.slice Ao37 y137.length co37)) (fun _ hk => hk.2) (.slice Ao38 y122.length co38)) (fun _ hk => hk.2) (.slice Ao37 y128.length co37)) (fun _ hk => hk.2) (.slice none 0 0)) (fun _ hk => hk.2) (.slice none 0 0)) (fun _ hk => ⟨hk.1.1.1, ⟨(by simp [Value.ownBlock]), (by simp [Value.ownBlock])⟩⟩), by (with_reducible repeat (first | apply Kd.V_alloc | apply Kd.V_drewN | apply Kd.V_drew)); exact Kd.V_mono (Kd.V_far (p := ⟨gb111, 3, none⟩) (Kd.V_far (p := ⟨gb111, 2, none⟩) (Kd.V_far (p := ⟨gb111, 1, none⟩) (Kd.V_far (p := ⟨gb111, 0, none⟩) (Kd.V_far (p := ⟨gb110, 1, none⟩) (Kd.V_far (p := ⟨gb110, 0, none⟩) (Kd.V_mono (Kd.V_mono HO141.out (fun k_ hk => (⟨hk, hk.2.2.2.2.2.1⟩ : _ ∧ k_ ≠ gb110))) (fun k_ hk => (⟨hk, hk.1.2.2.2.2.2.2.1⟩ : _ ∧ k_ ≠ gb111))) (fun _ hk => hk.1.2) (.slice Ao38 y132.length co38)) (fun _ hk => hk.1.2) (.slice Ao37 y137.length co37)) (fun _ hk => hk.2) (.slice Ao38 y122.length co38)) (fun _ hk => hk.2) (.slice Ao37 y128.length co37)) (fun _ hk => hk.2) (.slice none 0 0)) (fun _ hk => hk.2) (.slice none 0 0)) (fun _ hk => ⟨hk.1.1.1, ⟨(by simp [Value.ownBlock]), (by simp [Value.ownBlock])⟩⟩), Kd.R_V (by (with_reducible repeat (first | apply qm | apply qn | apply qo)); exact qp (qs (p := ⟨gb111, 3, none⟩) (qs (p := ⟨gb111, 2, none⟩) (qs (p := ⟨gb111, 1, none⟩) (qs (p := ⟨gb111, 0, none⟩) (qs (p := ⟨gb110, 1, none⟩) (qs (p := ⟨gb110, 0, none⟩) (qr (qr HO124.out BK110.out (by decide)) BK111.out (by decide)) (fun _ hk => hk.1.2) (.slice Ao38 y132.length co38)) (fun _ hk => hk.1.2) (.slice Ao37 y137.length co37)) (fun _ hk => hk.2) (.slice Ao38 y122.length co38)) (fun _ hk => hk.2) (.slice Ao37 y128.length co37)) (fun _ hk => hk.2) (.slice none 0 0)) (fun _ hk => hk.2) (.slice none 0 0)) (fun _ hk => ⟨hk.1.1.1, ⟨(by simp [Value.ownBlock]), (by simp [Value.ownBlock])⟩⟩)), Kd.R_V (by (with_reducible repeat (first | apply qm | apply qn | apply qo)); exact qp (qs (p := ⟨gb111, 3, none⟩) (qs (p := ⟨gb111, 2, none⟩) (qs (p := ⟨gb111, 1, none⟩) (qs (p := ⟨gb111, 0, none⟩) (qs (p := ⟨gb110, 1, none⟩) (qs (p := ⟨gb110, 0, none⟩) (qr (qr HO130.out BK110.out (by decide)) BK111.out (by decide)) (fun _ hk => hk.1.2) (.slice Ao38 y132.length co38)) (fun _ hk => hk.1.2) (.slice Ao37 y137.length co37)) (fun _ hk => hk.2) (.slice Ao38 y122.length co38)) (fun _ hk => hk.2) (.slice Ao37 y128.length co37)) (fun _ hk => hk.2) (.slice none 0 0)) (fun _ hk => hk.2) (.slice none 0 0)) (fun _ hk => ⟨hk.1.1.1, ⟨(by simp [Value.ownBlock]), (by simp [Value.ownBlock])⟩⟩)), by first | exact Kd.R_nil _ _ _ _ _ | exact Kd.N_nil _ _ _ _ _ | exact Kd.V_nil _ _ _ _ _ | exact Kd.Q_nil _ _ _ _ _ | exact Kd.S_nil _ _ _ _ _, by first | exact Kd.R_nil _ _ _ _ _ | exact Kd.N_nil _ _ _ _ _ | exact Kd.V_nil _ _ _ _ _ | exact Kd.Q_nil _ _ _ _ _ | exact Kd.S_nil _ _ _ _ _, by repeat (first | (with_reducible first | exact HB.out | apply qh | apply qj | apply qi | refine qg ?_ GE109.out | refine qg ?_ GE110.out | refine qg ?_ GE111.out | refine qg ?_ GE118.out | refine qg ?_ GE131.out) | exact HB.out)⟩
      ·rw [if_neg c8] at H
       exact absurd H (by simp)
     ·rw [if_neg c7] at H
      exact absurd H (by simp)
    ·rw [if_neg c6] at H
     exact absurd H (by simp)
   ·rw [if_neg c5] at H
    exact absurd H (by simp)
  ·rw [if_neg c4] at H
   exact absurd H (by simp)
 ·rw [if_neg c3] at H
  exact absurd H (by simp)

end Go.Proofs.YtdgempbldhdihaaDoor.P
