/- The trailing zeros of a mask; a pair's key, read back. waits: over the map of intergreens, in whatever order it comes. members: a call for each group of a mask; the greatest of what they ask. through, Hold: the two closures over captured numbers; the greatest of what the groups of two masks ask. through, Hold: the two closures over captured numbers; the greatest of what the groups of two masks ask. through and Hold as a whole. refused, Span, Longest and Hold, in the printed form. Span, Longest and Hold: what they answer, in plain Lean, and that they do. -/
import Derived.Test.YtdgempbldhdihaaDoorPairs
import Derived.Shelf.Spec.TrailingZeros
import Derived.Maps.RangeWalk
import Derived.Test.YtdgempbldhdihaaDoorP5
import Derived.Deep.RegionWith
import Derived.Deep.RegionHeld3
import Derived.DataShut
import Derived.Test.YtdgempbldhdihaaDoorP8
import Derived.Test.YtdgempbldhdihaaDoorP6
namespace Go.Proofs.YtdgempbldhdihaaDoor.P
open Go.RowKit Go.Proofs.YtdgempbldhdihaaDoorW.PrintWords Go.Proofs.YtdgempbldhdihaaDoorW.PrintLast Go.Proofs.YtdgempbldhdihaaDoorW.PrintMore

namespace Pr
theorem lits_inv {P : Program} {e : TypeId} (he : P.underlying e = some (.int .i64)) {d : Nat} {v : Value} {l : List Lit} (hv : P.keyLits d e [v] = some l) : ∃ q, v = .int .i64 q ∧ (Lit.int .i64 q).wf = true := by
  cases d with
  | zero => simp [Program.keyLits] at hv
  | succ d =>
    cases v <;> simp [Program.keyLits, he] at hv
    obtain ⟨⟨rfl, hw⟩, _⟩ := hv
    exact ⟨_, rfl, hw⟩
theorem pair_inv {P : Program} {k e : TypeId} (hk : P.underlying k = some (.array 2 e)) (he : P.underlying e = some (.int .i64)) (hc : P.cellsOf k = 2) (hce : P.cellsOf e = 1) {key : Value} {l : Lit} (h : keyOf P k key = some l) :
    ∃ p : Int × Int, key = .agg #[.int .i64 p.1, .int .i64 p.2] ∧ wf p.1 ∧ wf p.2 := by
  unfold keyOf at h
  rw [hk] at h
  simp only at h
  split at h
  · rename_i hs
    simp only [Bool.and_eq_true] at hs
    obtain ⟨ls, hls, _⟩ := Option.map_eq_some_iff.1 h
    have hs2 := hs.2
    have hag : ∃ cs, key = .agg cs := by
      cases key <;> first | exact ⟨_, rfl⟩ | (simp only [Value.formed, hk] at hs2; exact absurd hs2 (by decide))
    obtain ⟨⟨cl⟩, rfl⟩ := hag
    simp only [Value.formed, hk, hc] at hs2
    match cl, hs2 with
    | [x, y], _ =>
      have e2 : List.range 2 = [0, 1] := rfl
      simp only [Program.keyLits, hk, Value.cells, hc, hce, e2] at hls
      simp [Option.bind_eq_some_iff] at hls
      obtain ⟨lx, hx, _, ⟨ly, hy, _⟩, _⟩ := hls
      obtain ⟨q, rfl, hq⟩ := lits_inv he hx
      obtain ⟨q', rfl, hq'⟩ := lits_inv he hy
      exact ⟨(q, q'), rfl, hq, hq'⟩
  · simp at h
theorem key_inv {key : Value} {l : Lit} (h : keyOf Tryd.prog 103 key = some l) : ∃ p : Int × Int, key = .agg #[.int .i64 p.1, .int .i64 p.2] ∧ wf p.1 ∧ wf p.2 :=
  pair_inv Tryd.underlying103 Tryd.underlying3 cellsK cellsE h
theorem kl_of {a b : Int} {l : Lit} (wa : wf a) (wb : wf b) (h : keyOf Tryd.prog 103 (.agg #[.int .i64 a, .int .i64 b]) = some l) : l = kl a b := by
  have := hkey wa wb
  rw [h] at this
  exact Option.some.inj this
end Pr

/-- The library's table in its variable. -/
abbrev Tab (w : World) : Prop := TabAt 1 Lib.deBruijn64tab w
theorem Tab.below {B : Nat} {w w' : World} (h : Tab w) (hb : Below B w w') (hB : 1 < B) : Tab w' := fun j hj => (hb.cell (by exact hB)).trans (h j hj)

set_option maxHeartbeats 1000000 in
theorem tz64_core (x k idx : Nat) (w : World) (hx0 : ((x : Int) == 0) = false)
    (key : IntKind.u64.wrap (bits BinOp.and IntKind.u64 (x : Int) (IntKind.u64.wrap (-(x : Int))) * 285870213051353865) / 288230376151711744 = (idx : Int))
    (hi : idx < 64) (hk : k < 64) (hcell : w.cell? ⟨1, idx, none⟩ = some (.int .u8 k)) :
    Calls Tryd.prog 76 #[.int .u64 x] w fun e w' => e = .returned (.int .i64 k) ∧ w' = w := by
  go_enter Tryd.func76, Tryd.ntmps76
  go_wp2_with (simp only [key])
  go_ret
  exact ⟨rfl, rfl⟩
theorem tz64_zero (w : World) : Calls Tryd.prog 76 #[.int .u64 0] w fun e w' => e = .returned (.int .i64 64) ∧ w' = w := by
  go_enter Tryd.func76, Tryd.ntmps76
  go_wp2
  go_ret
  exact ⟨rfl, rfl⟩
theorem tz64_calls (x : Nat) (hx : x < 18446744073709551616) (w : World) (hT : Tab w) :
    Calls Tryd.prog 76 #[.int .u64 x] w fun e w' => e = .returned (.int .i64 (Lib.ctz 64 x)) ∧ w' = w := by
  by_cases hx0 : x = 0
  · subst hx0
    exact tz64_zero w
  · obtain ⟨hlow, hk⟩ := Lib.lowest_bit 64 x hx0 hx
    obtain ⟨hi, htab⟩ := Lib.deBruijn64_at _ hk
    have hcell := hT _ hi
    rw [htab] at hcell
    exact tz64_core x _ _ w (by simp; omega) (tz64_key x _ hx hx0 hlow) hi hk hcell

end Go.Proofs.YtdgempbldhdihaaDoor.P

namespace Go.Proofs.YtdgempbldhdihaaDoor.P
open Go.RowKit Go.Proofs.YtdgempbldhdihaaDoorW.PrintWords Go.Proofs.YtdgempbldhdihaaDoorW.PrintLast Go.Proofs.YtdgempbldhdihaaDoorW.PrintMore
open Go.Maps (Keyed)
attribute [local go_sem] max2_int min2_int max_two min_two max_three min_three max_four min_four

/-- Is group g in mask o? -/
def hasB (o g : Int) : Bool := decide (0 ≤ g) && (decide (g < 64) && (Go.bits .and .u64 (shr .u64 o g) 1 == 1))
theorem has_f (o g : Int) : safety_has.f o g = some (hasB o g) := by
  unfold safety_has.f hasB
  by_cases h0 : 0 ≤ g
  · by_cases h1 : g < 64
    · have e : IntKind.u64.wrap g = g := by rw [IntKind.wrap_u64]; omega
      rw [if_pos h0, if_pos h1, e, if_pos h0]
      simp [h0, h1]
    · rw [if_pos h0, if_neg h1]
      simp [h1]
  · rw [if_neg h0]
    simp [h0]
theorem hasB_range {o g : Int} (h : hasB o g = true) : 0 ≤ g ∧ g < 64 := by
  unfold hasB at h
  simp only [Bool.and_eq_true, decide_eq_true_eq] at h
  exact ⟨h.1, h.2.1⟩

/-- What the pair (a, b) asks of group g, if the groups of o may have been green. -/
def wval (l0 : List S42) (f : Int → Int → Option Int) (o g a b : Int) : Option Int :=
  match f a b with
  | some v => if (b == g && hasB o a) = true then some (max v (rd_T42 l0 a).f3) else none
  | none => none
/-- s is the greatest of them, and no less than 0. -/
def IsWait (l0 : List S42) (f : Int → Int → Option Int) (o g s : Int) : Prop :=
  0 ≤ s ∧ (∀ a b v, Pr.wf a → Pr.wf b → wval l0 f o g a b = some v → v ≤ s) ∧ (s = 0 ∨ ∃ a b, Pr.wf a ∧ Pr.wf b ∧ wval l0 f o g a b = some s)

theorem grown_drewN (w : World) (n : Nat) (row : Option Nat) : w.grownBy (w.drewN n) row := ⟨rfl, rfl, rfl, Nat.le_refl _, fun _ _ _ => rfl⟩

theorem next_val {l0 : List S42} {f : Int → Int → Option Int} {o g a b c c' : Int} {left : Lit → Bool} (wa : Pr.wf a) (wb : Pr.wf b) (hV : ∀ a b v, Pr.wf a → Pr.wf b → wval l0 f o g a b = some v → left (Pr.kl a b) = false → v ≤ c) (hc : c ≤ c')
    (hnew : ∀ v, wval l0 f o g a b = some v → v ≤ c') : ∀ a' b' v, Pr.wf a' → Pr.wf b' → wval l0 f o g a' b' = some v → (left (Pr.kl a' b') && !(Pr.kl a' b').sameKey (Pr.kl a b)) = false → v ≤ c' := by
  intro a' b' v wa' wb' hv hl
  by_cases h : a' = a ∧ b' = b
  · obtain ⟨rfl, rfl⟩ := h
    exact hnew v hv
  · have hne := Pr.kl_ne wa' wb' wa wb h
    have hs : (Pr.kl a' b').sameKey (Pr.kl a b) = false := Maps.sameKey_ne hne
    rw [hs] at hl
    simp at hl
    have := hV a' b' v wa' wb' hv hl
    omega

def WRel (B n : Nat) (D : DataW Unit) (l0 : List S42) (f : Int → Int → Option Int) (o g s : Int) (w : World) (box : Value) (v : Value) (wr : World) : Prop :=
  ∃ (left : Lit → Bool) (cnt : Nat) (c : Int), v = .int .i64 c ∧ wr.ranges Tryd.prog 103 (plainElem Tryd.prog 3) B (w.heap.size + 1) n D left cnt ∧ (0 ≤ c ∧ c ≤ s) ∧
      (∀ a b v, Pr.wf a → Pr.wf b → wval l0 f o g a b = some v → left (Pr.kl a b) = false → v ≤ c) ∧
      (∃ v1, box = v1 ∧ wr.heap[w.heap.size]? = some (.cells #[v1.cells.getD 0 .nilFunc, v1.cells.getD 1 .nilFunc] 25 (0, 0))) ∧ Below w.heap.size w wr

theorem wrel_step {B n : Nat} {D : DataW Unit} {l0 : List S42} {f : Int → Int → Option Int} {o g s a b c c' : Int} {w w1 W2 : World} {box : Value} {left : Lit → Bool} {cnt1 : Nat} (wa : Pr.wf a) (wb : Pr.wf b)
    (hrg : w1.ranges Tryd.prog 103 (plainElem Tryd.prog 3) B (w.heap.size + 1) n D (fun z => left z && !z.sameKey (Pr.kl a b)) cnt1) (hg : w1.grownBy W2 none) (hc : 0 ≤ c ∧ c ≤ s) (h1 : c ≤ c') (h2 : c' ≤ s)
    (hV : ∀ a b v, Pr.wf a → Pr.wf b → wval l0 f o g a b = some v → left (Pr.kl a b) = false → v ≤ c) (hnew : ∀ v, wval l0 f o g a b = some v → v ≤ c')
    (hb : w1.heap[w.heap.size]? = some (.cells #[box.cells.getD 0 .nilFunc, box.cells.getD 1 .nilFunc] 25 (0, 0))) (hB : Below w.heap.size w w1) : WRel B n D l0 f o g s w box (.int .i64 c') W2 ∧ W2.rangeLeft B (w.heap.size + 1) = cnt1 := by
  have hr2 := hrg.kept hg (by simp) (by simp)
  have hz : w.heap.size < w1.heap.size := blk_lt hb
  refine ⟨⟨_, cnt1, c', rfl, hr2, ⟨by omega, h2⟩, next_val wa wb hV h1 hnew, ⟨box, rfl, (hg.block _ hz (by simp)).trans hb⟩, hB.trans ⟨hg.os, hg.tape, hg.output, hg.size, fun k hk => hg.block k (by omega) (by simp)⟩⟩, hr2.left_eq⟩

set_option maxHeartbeats 2000000 in
set_option maxRecDepth 100000 in
theorem waits_calls (B n : Nat) (f : Int → Int → Option Int) (A0 : Option Addr) (c0 : Nat) (l0 : List S42) (v1 : Value) (o g s : Int) (w : World) (hP : Pr.Pairs w B n f) (hr : Kd.C k42 w A0 l0.length l0)
    (hdom : ∀ a b v, f a b = some v → 0 ≤ a ∧ a < l0.length) (hs : IsWait l0 f o g s) (hs1 : s ≤ 1000000) :
    Calls Tryd.prog 72 #[.map (some B), .agg #[.slice A0 l0.length c0, v1], .int .u64 o, .int .i64 g] w fun e w' => e = .returned (.int .i64 (1 + s)) ∧ Below w.heap.size w w' := by
  obtain ⟨D, hown, hD⟩ := hP
  have HR := Aside0.mk hr
  have HS := Aside0.mk hs
  have HM := Aside0.mk hdom
  have HD := Aside0.mk hD
  have HX := Aside0.mk hown
  clear hr hs hdom hD
  go_enter Tryd.func72, Tryd.ntmps72
  go_wp2_with (first
    | (at_range; refine wpList_range_own _ rfl _ 101 rfl 103 3 Pr.law Tryd.underlying101 _ B n D rfl (by first | exact HX.out | exact HX.out.kept (World.grownBy_alloc _ _ none) (by simp)) ?_; intro w0 hrg0 hg0 hs0)
    | go_in)
  go_frame
  simp only [Pr.alloc_size] at hrg0 hs0 ⊢
  go_loopw [9] (WRel B n D l0 f o g s w (.agg #[.slice A0 l0.length c0, v1])) (fun _ wr => wr.rangeLeft B (w.heap.size + 1))
  case atStart =>
    refine ⟨_, _, 0, rfl, hrg0, ⟨by omega, HS.out.1⟩, ?_, ⟨_, rfl, ?_⟩, ?_⟩
    · intro a b v wa wb hv hl
      rw [(HD.out a b wa wb).1] at hl
      unfold wval at hv
      cases hf : f a b with
      | some x => rw [hf] at hl; simp at hl
      | none => rw [hf] at hv; simp at hv
    · exact (hg0.block _ (by rw [Pr.alloc_size]; omega) (by simp)).trans (Pr.alloc_self _ _)
    · exact below_step (below_alloc (Below.refl _ _) _) ⟨hg0.os, hg0.tape, hg0.output, hg0.size, fun k hk => hg0.block k hk (by simp)⟩
  case round =>
    obtain ⟨left, cnt, c, rfl, hrg, hc, hv, ⟨_, rfl, hg⟩, hb⟩ := hrel
    have HC := Aside0.mk hc
    have HV := Aside0.mk hv
    have HG : Aside0 (wr.heap[w.heap.size]? = some (.cells #[.slice A0 l0.length c0, v1] 25 (0, 0))) := ⟨hg⟩
    have HB := Aside0.mk hb
    clear hc hv hg hb
    have hs2 := HB.out.size
    go_wp2_with (first
      | (at_next; refine wpList_next_ranges _ rfl _ rfl 103 Pr.law (plainElem Tryd.prog 3) (fun p : Int × Int => .agg #[.int .i64 p.1, .int .i64 p.2]) (Value.int .i64) (fun key kl h => by obtain ⟨p, hp, _⟩ := Pr.key_inv h; exact ⟨p, hp⟩) (fun v y hv => by obtain ⟨c, hc, _⟩ := plainElem_int_inv Tryd.underlying3 hv; exact ⟨c, hc⟩) B (w.heap.size + 1) n _ _ _ rfl hrg ?_ ?_)
      | go_in)
    · intro hc0 hl0
      have he : c = s := by
        have h1 := HC.out
        rcases HS.out.2.2 with h | ⟨a, b, wa, wb, h⟩
        · omega
        · have := HV.out a b s wa wb h (hl0 _)
          omega
      subst he
      have hw : IntKind.i64.wrap (1 + c) = 1 + c := by
        have h1 := HC.out
        rw [IntKind.wrap_i64]
        omega
      go_wp2
      go_ret
      exact ⟨rfl, HB.out⟩
    · intro a b t klv y1 y2 w1 cnt1 hkey hlk hv hat hrg1 hlt hg1 hs1' hen

      obtain ⟨⟨a', b'⟩, hp, wa, wb⟩ := Pr.key_inv hkey
      simp only [Value.agg.injEq, Array.mk.injEq, List.cons.injEq, Value.int.injEq, true_and, and_true] at hp
      obtain ⟨rfl, rfl⟩ := hp
      obtain rfl := Pr.kl_of wa wb hkey
      have hf : f a b = some t := by
        obtain ⟨t', ht', hy, _⟩ := plainElem_int_inv Tryd.underlying3 hv
        simp only [Value.int.injEq, true_and] at ht'
        subst ht'
        obtain rfl := (Prod.mk.inj hy).1
        have h1 := HD.out a b wa wb
        rw [Maps.has_true_of_atKey hat] at h1
        obtain ⟨x, hx⟩ := Option.isSome_iff_exists.1 h1.1.symm
        have h2 := h1.2.symm.trans (hat (Pr.i64 0))
        rw [hx] at h2
        simp [Pr.i64] at h2
        rw [hx, h2]
      obtain ⟨ha0, ha1⟩ := HM.out a b t hf
      obtain ⟨ad, rfl, _, _, _, y3, _⟩ := at_T42 HR.out a ha0 ha1
      have hm0 : wr.rangeLeft B (w.heap.size + 1) = cnt := hrg.left_eq
      have hm1 : w1.rangeLeft B (w.heap.size + 1) = cnt1 := hrg1.left_eq
      have hB1 : Below w.heap.size w w1 := HB.out.trans ⟨hg1.os, hg1.tape, hg1.output, hg1.size, fun k hk => hg1.block k (by omega) (by simp; omega)⟩
      have gb : w1.heap[w.heap.size]? = some (.cells #[.slice (some ad) l0.length c0, v1] 25 (0, 0)) := (hg1.block _ (by have := hrg.lt; omega) (by simp)).trans HG.out
      have g0 : w1.cell? ⟨w.heap.size, 0, none⟩ = some (.slice (some ad) l0.length c0) := (blk_cell gb 0).trans rfl
      have hz : w.heap.size < w1.heap.size := blk_lt gb
      have GB := Aside0.mk gb
      have HB1 := Aside0.mk hB1
      have HRG := Aside0.mk hrg1
      have HW0 := Aside0.mk (show wval l0 f o g a b = if (b == g && hasB o a) = true then some (max t (rd_T42 l0 a).f3) else none by unfold wval; rw [hf])
      replace y3 := (hB1.cell (World.block_lt_of_cell? w _ y3)).trans y3
      have hh := has_f o a
      have y3b := World.block_lt_of_cell? w1 _ y3
      have HS1 := Aside0.mk hs1'
      clear gb hB1 hg1 hrg1 hrg HX hown hs1'
      by_cases hbg : b = g
      · subst hbg
        cases hho : hasB o a with
        | true =>
          rw [hho] at hh
          have hnew : wval l0 f o b a b = some (max t (rd_T42 l0 a).f3) := by rw [HW0.out, hho]; simp
          have hle := HS.out.2.1 a b _ wa wb hnew
          have hcc := HC.out
          have hstep := fun c' (W2 : World) (hg : w1.grownBy W2 none) (h1 : c ≤ c') (h2 : c' ≤ s) (h3 : max t (rd_T42 l0 a).f3 ≤ c') => wrel_step (box := .agg #[.slice (some ad) l0.length c0, v1]) wa wb HRG.out hg HC.out h1 h2 HV.out (fun v hv => by rw [hnew] at hv; obtain rfl := Option.some.inj hv; exact h3) GB.out HB1.out
          have HST := Aside0.mk hstep
          clear hstep
          go_wp2_with (go_at_call 53; refine (safety_has.calls o a true _ hh).mono ?_; rintro e w' ⟨rfl, ⟨nd, rfl⟩⟩)
          refine (fun h => ⟨h.1, by rw [h.2]; first | exact hlt | (rw [hm0]; exact hlt)⟩) (HST.out _ _ ((World.grownBy_alloc w1 _ none).andThen (grown_drewN _ nd none) (by simp)) ?_ ?_ ?_) <;> (by_cases hct : c < t <;> simp only [hct, if_true, if_false] <;> (try split) <;> omega)
        | false =>
          rw [hho] at hh
          have hnew : wval l0 f o b a b = none := by rw [HW0.out, hho]; simp
          have HST := Aside0.mk (fun (W2 : World) (hg : w1.grownBy W2 none) => wrel_step (box := .agg #[.slice (some ad) l0.length c0, v1]) wa wb HRG.out hg HC.out (Int.le_refl _) HC.out.2 HV.out (fun v hv => by rw [hnew] at hv; cases hv) GB.out HB1.out)
          go_wp2_with (go_at_call 53; refine (safety_has.calls o a false _ hh).mono ?_; rintro e w' ⟨rfl, ⟨nd, rfl⟩⟩)
          exact (fun h => ⟨h.1, by rw [h.2]; first | exact hlt | (rw [hm0]; exact hlt)⟩) (HST.out _ ((World.grownBy_alloc w1 _ none).andThen (grown_drewN _ nd none) (by simp)))
      · have hbg' : (b == g) = false := beq_eq_false_iff_ne.2 hbg
        have hnew : wval l0 f o g a b = none := by rw [HW0.out, hbg']; simp
        have HST := Aside0.mk (fun (W2 : World) (hg : w1.grownBy W2 none) => wrel_step (box := .agg #[.slice (some ad) l0.length c0, v1]) wa wb HRG.out hg HC.out (Int.le_refl _) HC.out.2 HV.out (fun v hv => by rw [hnew] at hv; cases hv) GB.out HB1.out)
        go_wp2
        exact (fun h => ⟨h.1, by rw [h.2]; first | exact hlt | (rw [hm0]; exact hlt)⟩) (HST.out _ (World.grownBy_alloc w1 _ none))

end Go.Proofs.YtdgempbldhdihaaDoor.P

namespace Go.Proofs.YtdgempbldhdihaaDoor.P
open Go.RowKit Go.Proofs.YtdgempbldhdihaaDoorW.PrintWords Go.Proofs.YtdgempbldhdihaaDoorW.PrintLast Go.Proofs.YtdgempbldhdihaaDoorW.PrintMore
attribute [local go_sem] max2_int min2_int max_two min_two max_three min_three max_four min_four

def IsMaxB (n : Nat) (h : Nat → Int) (m : Nat) (c r : Int) : Prop := c ≤ r ∧ (∀ i, i < n → m.testBit i = true → h i ≤ r) ∧ (r = c ∨ ∃ i, i < n ∧ m.testBit i = true ∧ r = h i)

theorem lowbit (x : Nat) (hx : x < 18446744073709551616) (h0 : x ≠ 0) : x.testBit (Lib.ctz 64 x) = true ∧ Lib.ctz 64 x < 64 ∧ ∀ i, (x &&& (x - 1)).testBit i = (x.testBit i && decide (i ≠ Lib.ctz 64 x)) := by
  obtain ⟨m, hm, hk⟩ := Lib.ctzFrom_spec 64 x (by omega) hx
  have e : Lib.ctz 64 x = Lib.ctzFrom 64 x := by unfold Lib.ctz; rw [if_neg h0]
  rw [e]
  generalize Lib.ctzFrom 64 x = k at *
  have hp : 0 < 2 ^ k := Nat.two_pow_pos k
  have e1 : x - 1 = 2 ^ k * (2 * m) + (2 ^ k - 1) := by
    rw [hm, Nat.mul_add]; omega
  have tx : ∀ i, x.testBit i = (decide (k ≤ i) && (2 * m + 1).testBit (i - k)) := by
    intro i
    rw [hm, Nat.mul_comm, Nat.testBit_mul_two_pow]
  have t1 : ∀ i, (x - 1).testBit i = if i < k then true else (2 * m).testBit (i - k) := by
    intro i
    rw [e1, Nat.testBit_two_pow_mul_add _ (by omega)]
    split
    · rename_i hi
      rw [Nat.testBit_two_pow_sub_one]
      simp [hi]
    · rfl
  refine ⟨by rw [tx]; simp, hk, fun i => ?_⟩
  rw [Nat.testBit_and, tx, t1]
  by_cases hi : i < k
  · have : ¬ k ≤ i := by omega
    simp [this]
  · rw [if_neg hi]
    by_cases he : i = k
    · subst he
      simp
    · obtain ⟨d, hd⟩ : ∃ d, i - k = d + 1 := ⟨i - k - 1, by omega⟩
      rw [hd, Nat.testBit_succ, Nat.testBit_succ]
      have : (2 * m + 1) / 2 = m := by omega
      rw [this, Nat.mul_div_cancel_left _ (by omega)]
      simp [he]

theorem IsMaxB.step {n : Nat} {h : Nat → Int} {m : Nat} {c r : Int} (hr : IsMaxB n h m c r) (hm : m < 18446744073709551616) (h0 : m ≠ 0) :
    IsMaxB n h (m &&& (m - 1)) (if Lib.ctz 64 m < n then max c (h (Lib.ctz 64 m)) else c) r := by
  obtain ⟨hb, _, ht⟩ := lowbit m hm h0
  obtain ⟨h1, h2, h3⟩ := hr
  refine ⟨?_, fun i hi hbi => h2 i hi (by rw [ht] at hbi; simp at hbi; exact hbi.1), ?_⟩
  · split
    · rename_i hc
      have := h2 _ hc hb
      omega
    · exact h1
  · rcases h3 with h3 | ⟨i, hi, hbi, h3⟩
    · subst h3
      split
      · rename_i hc
        have := h2 _ hc hb
        left; omega
      · left; rfl
    · by_cases he : i = Lib.ctz 64 m
      · subst he
        rw [if_pos hi]
        left; omega
      · exact Or.inr ⟨i, hi, by rw [ht, hbi]; simp [he], h3⟩
theorem IsMaxB.done {n : Nat} {h : Nat → Int} {c r : Int} (hr : IsMaxB n h 0 c r) : c = r := by
  obtain ⟨h1, _, h3⟩ := hr
  rcases h3 with h3 | ⟨i, _, hb, _⟩
  · exact h3.symm
  · simp at hb

def MRel (n : Nat) (I : Int → World → Prop) (h : Nat → Int) (m : Nat) (r : Int) (w : World) (box : Obj) (v : Value) (wr : World) : Prop :=
  ∃ (m' : Nat) (c : Int), v = .int .u64 m' ∧ m' < 18446744073709551616 ∧ I c wr ∧ IsMaxB n h m' c r ∧ (∀ i, m'.testBit i = true → m.testBit i = true) ∧ wr.heap[w.heap.size]? = some box
def natOf : Value → Nat
  | .int _ x => x.toNat
  | _ => 0
theorem and_lt (x : Nat) (h0 : x ≠ 0) : x &&& (x - 1) < x := by
  have : x &&& (x - 1) ≤ x - 1 := Nat.and_le_right
  omega

set_option maxHeartbeats 2000000 in
set_option maxRecDepth 100000 in
theorem members_calls (fid : Nat) (cap : Array Value) (he : ∀ args w, (callFunc fid args).run Tryd.prog w = .ok (.enter fid args) w) (A0 : Option Addr) (c0 : Nat) (n : Nat) (v1 : Value) (be : Nat) (I : Int → World → Prop) (h : Nat → Int) (m : Nat) (c r : Int) (w : World)
    (hm : m < 18446744073709551616) (hI : I c w) (hT : ∀ c w, I c w → Tab w ∧ be < w.heap.size) (hA : ∀ c w o, I c w → I c (w.alloc o))
    (hS : ∀ c w (i : Nat), I c w → i < n → m.testBit i = true → Calls Tryd.prog fid (#[.int .i64 i] ++ cap) w fun e w' => e = .returned (.tuple #[]) ∧ I (max c (h i)) w' ∧ w.grownBy w' (some be)) (hr : IsMaxB n h m c r) :
    Calls Tryd.prog 48 #[.agg #[.slice A0 n c0, v1], .int .u64 m, .func (.func fid) #[] cap] w fun e w' => e = .returned (.tuple #[]) ∧ I r w' := by
  have HI := Aside0.mk hI
  have HT := Aside0.mk hT
  have HA := Aside0.mk hA
  have HS := Aside0.mk hS
  have HR := Aside0.mk hr
  clear hI hT hA hS hr
  go_enter Tryd.func48, Tryd.ntmps48
  go_wp2
  go_loopw [1] (MRel n I h m r w (.cells #[.slice A0 n c0, v1] 25 (0, 0))) (fun v _ => natOf v)
  case atStart => exact ⟨m, c, rfl, hm, HA.out _ _ _ HI.out, HR.out, fun _ hi => hi, Pr.alloc_self _ _⟩
  case round =>
    obtain ⟨m', c', rfl, hm', hi', hr', hsub, hbox⟩ := hrel
    have HI' := Aside0.mk hi'
    have HR' := Aside0.mk hr'
    have HSUB := Aside0.mk hsub
    have HBOX := Aside0.mk hbox
    clear hi' hr' hsub
    by_cases h0 : m' = 0
    · subst h0
      obtain rfl := HR'.out.done
      go_wp2
      go_end0
      exact ⟨rfl, HI'.out⟩
    · have hne : ((m' : Int) != 0) = true := by simp; omega
      have hne2 : ((m' : Int) == 0) = false := by simp; omega
      have hz := tz64_calls m' hm' wr (HT.out _ _ HI'.out).1
      have hbx : wr.cell? ⟨w.heap.size, 0, none⟩ = some (.slice A0 n c0) := (blk_cell hbox 0).trans rfl
      have hand : bits .and .u64 (m' : Int) ((m' : Int) - 1) = ((m' &&& (m' - 1) : Nat) : Int) := by
        have e : (m' : Int) - 1 = ((m' - 1 : Nat) : Int) := by omega
        rw [e]
        exact bits_and_u64_nat m' (m' - 1) hm' (by omega)
      have hnext := and_lt m' h0
      have HAND := Aside0.mk hand
      have HBIT := Aside0.mk (lowbit m' hm' h0)
      have HBX := Aside0.mk hbox
      clear hbox hand
      by_cases hlt : Lib.ctz 64 m' < n
      · have hd : decide (((Lib.ctz 64 m' : Nat) : Int) < (n : Int)) = true := decide_eq_true (by omega)
        obtain ⟨hb1, hb2, hb3⟩ := lowbit m' hm' h0
        have hcall := HS.out c' wr _ HI'.out hlt (HSUB.out _ hb1)
        go_wp2_with (first | (go_at_call 76; refine hz.mono ?_; rintro e w' ⟨rfl, hw'⟩; rw [hw']) | (go_at_fn fid; refine hcall.mono ?_; rintro e w' ⟨rfl, hi2, hg2⟩))
        rw [HAND.out]
        refine ⟨⟨_, _, rfl, by omega, hi2, ?_, fun i hi => HSUB.out i (by rw [HBIT.out.2.2] at hi; simp at hi; exact hi.1), ?_⟩, by simp only [natOf]; omega⟩
        · have := HR'.out.step hm' h0
          rw [if_pos hlt] at this
          exact this
        · exact (hg2.block _ (blk_lt HBX.out) (by have := (HT.out _ _ HI.out).2; simp; omega)).trans HBX.out
      · have hd : decide (((Lib.ctz 64 m' : Nat) : Int) < (n : Int)) = false := decide_eq_false (by omega)
        go_wp2_with (first | (go_at_call 76; refine hz.mono ?_; rintro e w' ⟨rfl, hw'⟩; rw [hw']) )
        rw [HAND.out]
        refine ⟨⟨_, _, rfl, by omega, HI'.out, ?_, fun i hi => HSUB.out i (by rw [HBIT.out.2.2] at hi; simp at hi; exact hi.1), HBX.out⟩, by simp only [natOf]; omega⟩
        have := HR'.out.step hm' h0
        rw [if_neg hlt] at this
        exact this
end Go.Proofs.YtdgempbldhdihaaDoor.P

namespace Go.Proofs.YtdgempbldhdihaaDoor.P
open Go.RowKit Go.Proofs.YtdgempbldhdihaaDoorW.PrintWords Go.Proofs.YtdgempbldhdihaaDoorW.PrintLast Go.Proofs.YtdgempbldhdihaaDoorW.PrintMore

theorem max_pure (ats : Array TypeId) (ty : TypeId) (a b : Int) : Builtin.max_ ats ty #[.int .i64 a, .int .i64 b] = pure (.int .i64 (max a b)) := by
  rw [max_two, max2_int]
  have : (if a < b then b else a) = max a b := by split <;> omega
  rw [this]
  rfl
attribute [local go_sem] max_pure
theorem bcell {W w1 : World} (hb : Below W.heap.size W w1) : (∀ b o, b < W.heap.size → w1.cell? ⟨b, o, none⟩ = W.cell? ⟨b, o, none⟩) ∧ (∀ b o, b < W.heap.size → w1.frozen? ⟨b, o, none⟩ = W.frozen? ⟨b, o, none⟩) :=
  ⟨fun b o h => hb.cell (p := ⟨b, o, none⟩) h, fun b o h => hb.frozen (p := ⟨b, o, none⟩) h⟩
theorem frozen_one {w : World} {b : Nat} {v : Value} {t : TypeId} (h : w.heap[b]? = some (.cells #[v] t (0, 0))) : w.frozen? ⟨b, 0, none⟩ = false := by
  unfold World.frozen?
  rw [h]
  simp

theorem grown_setCell (w : World) (b o : Nat) (v : Value) : w.grownBy (w.setCell ⟨b, o, none⟩ v) (some b) :=
  ⟨rfl, rfl, rfl, by simp [World.setCell], fun k _ hne => heap_setCell_other w ⟨b, o, none⟩ k v (by intro e; exact hne (by rw [e]))⟩
theorem setCell_one {w : World} {b : Nat} {v u : Value} {t : TypeId} (h : w.heap[b]? = some (.cells #[v] t (0, 0))) : (w.setCell ⟨b, 0, none⟩ u).heap[b]? = some (.cells #[u] t (0, 0)) := by
  rw [heap_setCell_same w b 0 _ t u h]
  rfl

/-- What the closures see: the number, the tables, the map, the mask of foes. -/
structure Thr (w0 : World) (b0 be bt bp bf B N : Nat) (f : Int → Int → Option Int) (A0 : Option Addr) (c0 : Nat) (l0 : List S42) (v1 : Value) (foes : Int) (c : Int) (W : World) : Prop where
  hE : W.heap[be]? = some (.cells #[.int .i64 c] 3 (0, 0))
  hT : W.heap[bt]? = some (.cells #[.slice A0 l0.length c0, v1] 25 (0, 0))
  hp : W.heap[bp]? = some (.cells #[.map (some B)] 101 (0, 0))
  hF : W.heap[bf]? = some (.cells #[.int .u64 foes] 26 (0, 0))
  hP : Pr.Pairs W B N f
  hB : Below b0 w0 W
/-- What holds all the while. -/
structure Sur (w0 : World) (b0 be bt bp bf B : Nat) (A0 : Option Addr) (l0 : List S42) : Prop where
  h0 : b0 = w0.heap.size
  h1 : b0 ≤ be
  ht : be ≠ bt
  hp : be ≠ bp
  hf : be ≠ bf
  hB : be ≠ B
  hR : Kd.C k42 w0 A0 l0.length l0
  hT : Tab w0
  h2 : 1 < b0

section
variable {w0 : World} {b0 be bt bp bf B N : Nat} {f : Int → Int → Option Int} {A0 : Option Addr} {c0 : Nat} {l0 : List S42} {v1 : Value} {foes c c' : Int} {W W' : World}
theorem Thr.turn (h : Thr w0 b0 be bt bp bf B N f A0 c0 l0 v1 foes c W) (s : Sur w0 b0 be bt bp bf B A0 l0) (hg : W.grownBy W' (some be)) (hE : W'.heap[be]? = some (.cells #[.int .i64 c'] 3 (0, 0))) : Thr w0 b0 be bt bp bf B N f A0 c0 l0 v1 foes c' W' :=
  ⟨hE, (hg.block _ (blk_lt h.hT) (by simp; exact fun e => s.ht e.symm)).trans h.hT, (hg.block _ (blk_lt h.hp) (by simp; exact fun e => s.hp e.symm)).trans h.hp, (hg.block _ (blk_lt h.hF) (by simp; exact fun e => s.hf e.symm)).trans h.hF,
    h.hP.same (hg.block _ h.hP.lt (by simp; exact fun e => s.hB e.symm)), h.hB.trans ⟨hg.os, hg.tape, hg.output, hg.size, fun k hk => hg.block k (by have := h.hB.size; have := s.h0; omega) (by simp; have := s.h1; omega)⟩⟩
theorem Thr.alloc (h : Thr w0 b0 be bt bp bf B N f A0 c0 l0 v1 foes c W) (s : Sur w0 b0 be bt bp bf B A0 l0) (o : Obj) : Thr w0 b0 be bt bp bf B N f A0 c0 l0 v1 foes c (W.alloc o) :=
  h.turn s (World.grownBy_alloc W o _) ((Pr.alloc_old (blk_lt h.hE)).trans h.hE)
theorem Thr.put (h : Thr w0 b0 be bt bp bf B N f A0 c0 l0 v1 foes c W) (s : Sur w0 b0 be bt bp bf B A0 l0) (c' : Int) : Thr w0 b0 be bt bp bf B N f A0 c0 l0 v1 foes c' (W.setCell ⟨be, 0, none⟩ (.int .i64 c')).drew ∧ W.grownBy (W.setCell ⟨be, 0, none⟩ (.int .i64 c')).drew (some be) :=
  have g := grown_setCell W be 0 (.int .i64 c')
  have g' : W.grownBy (W.setCell ⟨be, 0, none⟩ (.int .i64 c')).drew (some be) := ⟨g.os, g.tape, g.output, g.size, g.block⟩
  ⟨h.turn s g' (setCell_one (u := .int .i64 c') h.hE), g'⟩
theorem Thr.cells (h : Thr w0 b0 be bt bp bf B N f A0 c0 l0 v1 foes c W) : W.cell? ⟨be, 0, none⟩ = some (.int .i64 c) ∧ W.cell? ⟨bt, 0, none⟩ = some (.slice A0 l0.length c0) ∧ W.cell? ⟨bt, 1, none⟩ = some v1 ∧ W.cell? ⟨bp, 0, none⟩ = some (.map (some B)) ∧ W.cell? ⟨bf, 0, none⟩ = some (.int .u64 foes) :=
  ⟨(blk_cell h.hE 0).trans rfl, (blk_cell h.hT 0).trans rfl, (blk_cell h.hT 1).trans rfl, (blk_cell h.hp 0).trans rfl, (blk_cell h.hF 0).trans rfl⟩
end

set_option maxHeartbeats 2000000 in
set_option maxRecDepth 100000 in
theorem clos70 {w0 : World} {b0 be bt bp bf B N : Nat} {f : Int → Int → Option Int} {A0 : Option Addr} {c0 : Nat} {l0 : List S42} {v1 : Value} {foes c : Int} {W : World} (i : Nat) (hi : i < l0.length) (ha : 0 ≤ (rd_T42 l0 i).f3 ∧ (rd_T42 l0 i).f3 ≤ 100000)
    (h : Thr w0 b0 be bt bp bf B N f A0 c0 l0 v1 foes c W) (s : Sur w0 b0 be bt bp bf B A0 l0) :
    Calls Tryd.prog 70 (#[.int .i64 i] ++ #[.pointer (some ⟨be, 0, none⟩), .pointer (some ⟨bt, 0, none⟩)]) W fun e W' => e = .returned (.tuple #[]) ∧ Thr w0 b0 be bt bp bf B N f A0 c0 l0 v1 foes (max c (1 + (rd_T42 l0 i).f3)) W' ∧ W.grownBy W' (some be) := by
  obtain ⟨ad, rfl, _, _, _, y3, _⟩ := at_T42 s.hR (i : Int) (by omega) (by omega)
  replace y3 := (h.hB.cell (by rw [s.h0]; exact World.block_lt_of_cell? w0 _ y3)).trans y3
  simp only [Int.toNat_natCast] at y3
  obtain ⟨e0, e1, _⟩ := h.cells
  have fz := frozen_one h.hE
  have HH := Aside0.mk h
  have SS := Aside0.mk s
  clear h s
  show Calls Tryd.prog 70 #[.int .i64 i, .pointer (some ⟨be, 0, none⟩), .pointer (some ⟨bt, 0, none⟩)] W _
  have d1 : decide ((i : Int) < (l0.length : Int)) = true := decide_eq_true (by omega)
  have hw : IntKind.i64.wrap (1 + (rd_T42 l0 i).f3) = 1 + (rd_T42 l0 i).f3 := by rw [IntKind.wrap_i64]; omega
  have HW := Aside0.mk hw
  clear hw
  go_enter Tryd.func70, Tryd.ntmps70
  go_wp2
  go_region_with fail
  all_goals (go_end0; rw [HW.out]; exact ⟨rfl, HH.out.put SS.out _⟩)

set_option maxHeartbeats 2000000 in
set_option maxRecDepth 100000 in
theorem clos49 {w0 : World} {b0 be bt bp bf B N : Nat} {f : Int → Int → Option Int} {A0 : Option Addr} {c0 : Nat} {l0 : List S42} {v1 : Value} {foes c : Int} {W : World} (i : Nat) (hi : i < l0.length) (ha : 0 ≤ (rd_T42 l0 i).f2 ∧ (rd_T42 l0 i).f2 ≤ 100000)
    (h : Thr w0 b0 be bt bp bf B N f A0 c0 l0 v1 foes c W) (s : Sur w0 b0 be bt bp bf B A0 l0) :
    Calls Tryd.prog 49 (#[.int .i64 i] ++ #[.pointer (some ⟨be, 0, none⟩), .pointer (some ⟨bt, 0, none⟩)]) W fun e W' => e = .returned (.tuple #[]) ∧ Thr w0 b0 be bt bp bf B N f A0 c0 l0 v1 foes (max c ((rd_T42 l0 i).f2 - 1)) W' ∧ W.grownBy W' (some be) := by
  obtain ⟨ad, rfl, _, _, y2, _⟩ := at_T42 s.hR (i : Int) (by omega) (by omega)
  replace y2 := (h.hB.cell (by rw [s.h0]; exact World.block_lt_of_cell? w0 _ y2)).trans y2
  simp only [Int.toNat_natCast] at y2
  obtain ⟨e0, e1, _⟩ := h.cells
  have fz := frozen_one h.hE
  have HH := Aside0.mk h
  have SS := Aside0.mk s
  clear h s
  show Calls Tryd.prog 49 #[.int .i64 i, .pointer (some ⟨be, 0, none⟩), .pointer (some ⟨bt, 0, none⟩)] W _
  have d1 : decide ((i : Int) < (l0.length : Int)) = true := decide_eq_true (by omega)
  have hw : IntKind.i64.wrap ((rd_T42 l0 i).f2 - 1) = (rd_T42 l0 i).f2 - 1 := by rw [IntKind.wrap_i64]; omega
  have HW := Aside0.mk hw
  clear hw
  go_enter Tryd.func49, Tryd.ntmps49
  go_wp2
  go_region_with fail
  all_goals (go_end0; rw [HW.out]; exact ⟨rfl, HH.out.put SS.out _⟩)

end Go.Proofs.YtdgempbldhdihaaDoor.P

namespace Go.Proofs.YtdgempbldhdihaaDoor.P
open Go.RowKit Go.Proofs.YtdgempbldhdihaaDoorW.PrintWords Go.Proofs.YtdgempbldhdihaaDoorW.PrintLast Go.Proofs.YtdgempbldhdihaaDoorW.PrintMore
attribute [local go_sem] max_pure
set_option linter.unusedSimpArgs false
set_option linter.unusedVariables false

theorem Thr.down {w0 : World} {b0 be bt bp bf B N : Nat} {f : Int → Int → Option Int} {A0 : Option Addr} {c0 : Nat} {l0 : List S42} {v1 : Value} {foes c c' : Int} {W W' : World} (h : Thr w0 b0 be bt bp bf B N f A0 c0 l0 v1 foes c W) (s : Sur w0 b0 be bt bp bf B A0 l0) (hb : Below W.heap.size W W') :
    Thr w0 b0 be bt bp bf B N f A0 c0 l0 v1 foes c' (W'.setCell ⟨be, 0, none⟩ (.int .i64 c')) ∧ W.grownBy (W'.setCell ⟨be, 0, none⟩ (.int .i64 c')) (some be) := by
  have g1 : W.grownBy W' (some be) := ⟨hb.os, hb.tape, hb.output, hb.size, fun k hk _ => hb.block k hk⟩
  have g2 := grown_setCell W' be 0 (.int .i64 c')
  have e : W'.heap[be]? = some (.cells #[.int .i64 c] 3 (0, 0)) := (hb.block be (blk_lt h.hE)).trans h.hE
  have g := g1.andThen g2 (fun j hj => Or.inr hj)
  exact ⟨h.turn s g (setCell_one e), g⟩

set_option maxHeartbeats 4000000 in
set_option maxRecDepth 100000 in
theorem clos71 {w0 : World} {b0 be bt bp bf B N : Nat} {f : Int → Int → Option Int} {A0 : Option Addr} {c0 : Nat} {l0 : List S42} {v1 : Value} {foes c wt : Int} {W : World} (i : Nat) (hi : i < l0.length) (ha : 0 ≤ (rd_T42 l0 i).f4 ∧ (rd_T42 l0 i).f4 ≤ 100000)
    (hdom : ∀ a b v, f a b = some v → 0 ≤ a ∧ a < l0.length) (hwt : IsWait l0 f foes i wt) (hw1 : wt ≤ 1000000)
    (h : Thr w0 b0 be bt bp bf B N f A0 c0 l0 v1 foes c W) (s : Sur w0 b0 be bt bp bf B A0 l0) :
    Calls Tryd.prog 71 (#[.int .i64 i] ++ #[.pointer (some ⟨be, 0, none⟩), .pointer (some ⟨bp, 0, none⟩), .pointer (some ⟨bt, 0, none⟩), .pointer (some ⟨bf, 0, none⟩)]) W fun e W' => e = .returned (.tuple #[]) ∧ Thr w0 b0 be bt bp bf B N f A0 c0 l0 v1 foes (max c (1 + wt + (rd_T42 l0 i).f4)) W' ∧ W.grownBy W' (some be) := by
  obtain ⟨ad, rfl, _, _, _, _, y4⟩ := at_T42 s.hR (i : Int) (by omega) (by omega)
  replace y4 := (h.hB.cell (by rw [s.h0]; exact World.block_lt_of_cell? w0 _ y4)).trans y4
  simp only [Int.toNat_natCast] at y4
  obtain ⟨e0, e1, e2, e3, e4⟩ := h.cells
  have fz := frozen_one h.hE
  have hcall := fun W' (hb : Below W.heap.size W W') => waits_calls B N f (some ad) c0 l0 v1 foes i wt W' (h.hP.below hb) (Kd.C_below s.hR (below_step (by rw [← s.h0]; exact h.hB) hb)) hdom hwt hw1
  have hz := And.intro (blk_lt h.hE) (And.intro (blk_lt h.hT) (And.intro (blk_lt h.hp) (blk_lt h.hF)))
  obtain ⟨z0, z1, z2, z3⟩ := hz
  have y4b := World.block_lt_of_cell? W _ y4
  have HH := Aside0.mk h
  have SS := Aside0.mk s
  have HC := Aside0.mk hcall
  clear h s hcall
  show Calls Tryd.prog 71 #[.int .i64 i, .pointer (some ⟨be, 0, none⟩), .pointer (some ⟨bp, 0, none⟩), .pointer (some ⟨bt, 0, none⟩), .pointer (some ⟨bf, 0, none⟩)] W _
  have d1 : decide ((i : Int) < (l0.length : Int)) = true := decide_eq_true (by omega)
  have hw0 := hwt.1
  have hw : IntKind.i64.wrap (1 + wt + (rd_T42 l0 i).f4) = 1 + wt + (rd_T42 l0 i).f4 := by rw [IntKind.wrap_i64]; omega
  have HW := Aside0.mk hw
  clear hw
  go_enter Tryd.func71, Tryd.ntmps71
  have K0 : Aside0 ((∀ w' : World, Below W.heap.size W w' → w'.cell? ⟨bt, 0, none⟩ = some (.slice (some ad) l0.length c0) ∧ w'.cell? ⟨bt, 1, none⟩ = some v1 ∧ w'.cell? ⟨bp, 0, none⟩ = some (.map (some B)) ∧ w'.cell? ⟨bf, 0, none⟩ = some (.int .u64 foes) ∧ w'.cell? ⟨(ad.add (i * 5)).block, (ad.add (i * 5)).off + 4, none⟩ = some (.int .i64 (rd_T42 l0 i).f4)) ∧ ∀ (w' : World) (v : Value), (w'.cell? ⟨bt, 0, none⟩ = some (.slice (some ad) l0.length c0) ∧ w'.cell? ⟨bt, 1, none⟩ = some v1 ∧ w'.cell? ⟨bp, 0, none⟩ = some (.map (some B)) ∧ w'.cell? ⟨bf, 0, none⟩ = some (.int .u64 foes) ∧ w'.cell? ⟨(ad.add (i * 5)).block, (ad.add (i * 5)).off + 4, none⟩ = some (.int .i64 (rd_T42 l0 i).f4)) → (fun w' : World => w'.cell? ⟨bt, 0, none⟩ = some (.slice (some ad) l0.length c0) ∧ w'.cell? ⟨bt, 1, none⟩ = some v1 ∧ w'.cell? ⟨bp, 0, none⟩ = some (.map (some B)) ∧ w'.cell? ⟨bf, 0, none⟩ = some (.int .u64 foes) ∧ w'.cell? ⟨(ad.add (i * 5)).block, (ad.add (i * 5)).off + 4, none⟩ = some (.int .i64 (rd_T42 l0 i).f4)) (w'.setCell ⟨be, 0, none⟩ v)) := by
    refine ⟨fun w' hb => ⟨(hb.cell (p := ⟨bt, 0, none⟩) z1).trans e1, (hb.cell (p := ⟨bt, 1, none⟩) z1).trans e2, (hb.cell (p := ⟨bp, 0, none⟩) z2).trans e3, (hb.cell (p := ⟨bf, 0, none⟩) z3).trans e4, (hb.cell (p := ⟨(ad.add (i * 5)).block, (ad.add (i * 5)).off + 4, none⟩) y4b).trans y4⟩, fun w' v ⟨s1, s2, s3, s4, s5⟩ => ?_⟩
    have s0 := SS.out
    have n1 := s0.ht
    have n2 := s0.hp
    have n3 := s0.hf
    have n4 := s0.h1
    have n5 := s0.h0
    refine ⟨?_, ?_, ?_, ?_, ?_⟩ <;> rw [World.cell?_setCell_other _ _ _ _ (by intro e; injection e; omega)] <;> assumption
  clear e1 e2 e3 e4 y4
  go_wp2
  refine wp_region_held_drew (S := (fun w' => w'.cell? ⟨bt, 0, none⟩ = some (.slice (some ad) l0.length c0) ∧ w'.cell? ⟨bt, 1, none⟩ = some v1 ∧ w'.cell? ⟨bp, 0, none⟩ = some (.map (some B)) ∧ w'.cell? ⟨bf, 0, none⟩ = some (.int .u64 foes) ∧ w'.cell? ⟨(ad.add (i * 5)).block, (ad.add (i * 5)).off + 4, none⟩ = some (.int .i64 (rd_T42 l0 i).f4))) (by kernel_rfl) ?_ (fun hHeld => ?_)
  · (first | exact K0.out.1 _ ⟨rfl, rfl, rfl, Nat.le_refl _, fun _ _ => rfl⟩ | exact K0.out.1 _ ⟨HB2.out.os, HB2.out.tape, HB2.out.output, HB2.out.size, HB2.out.block⟩ | exact K0.out.2 _ _ (by assumption))
  refine wpAnyH_take (i := 1) (v := ?_) rfl (by kernel_rfl) (by kernel_rfl) (by kernel_rfl) (fun _ _ _ h => h) (Or.inl ⟨by rfl, ?_⟩) (by assumption) ?_
  rotate_left
  · intro w hSw; (try dsimp only at hSw); go_simp; (try with_reducible rfl)
  try simp only [Act.put, List.setIfInBounds_toArray, List.set_cons_zero, List.set_cons_succ]
  refine wpAnyH_take (i := 2) (v := ?_) rfl (by kernel_rfl) (by kernel_rfl) (by kernel_rfl) (fun _ _ _ h => h) (Or.inl ⟨by rfl, ?_⟩) (by assumption) ?_
  rotate_left
  · intro w hSw; (try dsimp only at hSw); go_simp; (try with_reducible rfl)
  try simp only [Act.put, List.setIfInBounds_toArray, List.set_cons_zero, List.set_cons_succ]
  refine wpAnyH_take (i := 3) (v := ?_) rfl (by kernel_rfl) (by kernel_rfl) (by kernel_rfl) (fun _ _ _ h => h) (Or.inl ⟨by rfl, ?_⟩) (by assumption) ?_
  rotate_left
  · intro w hSw; (try dsimp only at hSw); go_simp; (try with_reducible rfl)
  try simp only [Act.put, List.setIfInBounds_toArray, List.set_cons_zero, List.set_cons_succ]
  refine wpAnyH_take (i := 4) (v := ?_) rfl (by kernel_rfl) (by kernel_rfl) (by kernel_rfl) (fun _ _ _ h => h) (Or.inl ⟨by rfl, ?_⟩) (by assumption) ?_
  rotate_left
  · intro w hSw; (try dsimp only at hSw); go_simp; (try with_reducible rfl)
  try simp only [Act.put, List.setIfInBounds_toArray, List.set_cons_zero, List.set_cons_succ]
  refine wpAnyH_take (i := 6) (v := ?_) rfl (by kernel_rfl) (by kernel_rfl) (by kernel_rfl) (fun _ _ _ h => h) (Or.inl ⟨by rfl, ?_⟩) (by assumption) ?_
  rotate_left
  · intro w hSw; (try dsimp only at hSw); go_simp; (try with_reducible rfl)
  try simp only [Act.put, List.setIfInBounds_toArray, List.set_cons_zero, List.set_cons_succ]
  refine wpAnyH_take (i := 7) (v := ?_) rfl (by kernel_rfl) (by kernel_rfl) (by kernel_rfl) (fun _ _ _ h => h) (Or.inl ⟨by rfl, ?_⟩) (by assumption) ?_
  rotate_left
  · intro w hSw; (try dsimp only at hSw); go_simp; (try with_reducible rfl)
  try simp only [Act.put, List.setIfInBounds_toArray, List.set_cons_zero, List.set_cons_succ]
  refine wpAnyH_take (i := 8) (v := ?_) rfl (by kernel_rfl) (by kernel_rfl) (by kernel_rfl) (fun _ _ _ h => h) (Or.inl ⟨by rfl, ?_⟩) (by assumption) ?_
  rotate_left
  · intro w hSw; (try dsimp only at hSw); go_simp; (try with_reducible rfl)
  try simp only [Act.put, List.setIfInBounds_toArray, List.set_cons_zero, List.set_cons_succ]
  refine wpAnyH_take (i := 9) (v := ?_) rfl (by kernel_rfl) (by kernel_rfl) (by kernel_rfl) (fun _ _ _ h => h) (Or.inl ⟨by rfl, ?_⟩) (by assumption) ?_
  rotate_left
  · intro w hSw; (try dsimp only at hSw); go_simp; (try with_reducible rfl)
  try simp only [Act.put, List.setIfInBounds_toArray, List.set_cons_zero, List.set_cons_succ]
  refine wpAnyH_take (i := 10) (v := ?_) rfl (by kernel_rfl) (by kernel_rfl) (by kernel_rfl) (fun _ _ _ h => h) (Or.inl ⟨by rfl, ?_⟩) (by assumption) ?_
  rotate_left
  · intro w hSw; (try dsimp only at hSw); go_simp; (try with_reducible rfl)
  try simp only [Act.put, List.setIfInBounds_toArray, List.set_cons_zero, List.set_cons_succ]
  refine wpAnyH_take (i := 11) (v := ?_) rfl (by kernel_rfl) (by kernel_rfl) (by kernel_rfl) (fun _ _ _ h => h) (Or.inl ⟨by rfl, ?_⟩) (by assumption) ?_
  rotate_left
  · intro w hSw; (try dsimp only at hSw); go_simp; (try with_reducible rfl)
  try simp only [Act.put, List.setIfInBounds_toArray, List.set_cons_zero, List.set_cons_succ]
  refine wpAnyH_ready (rs := [0, 5]) (by kernel_rfl) (by simp) ?_
  refine AllReadyH.cons rfl (fun K hK => ?_) ?_
  · go_simp
    refine hK.out _ _ ?_ (fun hHeld => ?_)
    · (try dsimp only); (first | exact K0.out.1 _ ⟨rfl, rfl, rfl, Nat.le_refl _, fun _ _ => rfl⟩ | exact K0.out.1 _ ⟨HB2.out.os, HB2.out.tape, HB2.out.output, HB2.out.size, HB2.out.block⟩ | exact K0.out.2 _ _ (by assumption))
    clear hK K
    try simp only [Act.put, List.setIfInBounds_toArray, List.set_cons_zero, List.set_cons_succ]
    refine wpAnyH_ready (rs := [5]) (by kernel_rfl) (by simp) ?_
    refine AllReadyH.cons rfl (fun K hK => ?_) AllReadyH.nil
    · (go_simp; (go_at_call 72; (with_reducible refine (HC.out _ (by repeat (first | (with_reducible first | exact Below.refl _ _ | apply below_alloc | apply pw_below_drewN | apply below_drew1) | exact Below.refl _ _))).mono ?_); rintro e w' ⟨rfl, hb⟩; have k0 := (hb.cell (p := ⟨be, 0, none⟩) z0).trans e0; have k3 := (hb.frozen (p := ⟨be, 0, none⟩) z0).trans fz; have HB2 := Aside0.mk hb; clear hb))
      refine hK.out _ _ ?_ (fun hHeld => ?_)
      · (try dsimp only); (first | exact K0.out.1 _ ⟨rfl, rfl, rfl, Nat.le_refl _, fun _ _ => rfl⟩ | exact K0.out.1 _ ⟨HB2.out.os, HB2.out.tape, HB2.out.output, HB2.out.size, HB2.out.block⟩ | exact K0.out.2 _ _ (by assumption))
      clear hK K
      try simp only [Act.put, List.setIfInBounds_toArray, List.set_cons_zero, List.set_cons_succ]
      refine wpAnyH_take (i := 12) (v := ?_) rfl (by kernel_rfl) (by kernel_rfl) (by kernel_rfl) (fun _ _ _ h => h) (Or.inl ⟨by rfl, ?_⟩) (by assumption) ?_
      rotate_left
      · intro w hSw; (try dsimp only at hSw); go_simp; (try with_reducible rfl)
      try simp only [Act.put, List.setIfInBounds_toArray, List.set_cons_zero, List.set_cons_succ]
      refine wpAnyH_ready (rs := [13]) (by kernel_rfl) (by simp) ?_
      refine AllReadyH.cons rfl (fun K hK => ?_) AllReadyH.nil
      · go_simp
        refine hK.out _ _ ?_ (fun hHeld => ?_)
        · (try dsimp only); (first | exact K0.out.1 _ ⟨rfl, rfl, rfl, Nat.le_refl _, fun _ _ => rfl⟩ | exact K0.out.1 _ ⟨HB2.out.os, HB2.out.tape, HB2.out.output, HB2.out.size, HB2.out.block⟩ | exact K0.out.2 _ _ (by assumption))
        clear hK K
        try simp only [Act.put, List.setIfInBounds_toArray, List.set_cons_zero, List.set_cons_succ]
        refine wpAnyH_ready (rs := [14]) (by kernel_rfl) (by simp) ?_
        refine AllReadyH.cons rfl (fun K hK => ?_) AllReadyH.nil
        · go_simp
          refine hK.out _ _ ?_ (fun hHeld => ?_)
          · (try dsimp only); (first | exact K0.out.1 _ ⟨rfl, rfl, rfl, Nat.le_refl _, fun _ _ => rfl⟩ | exact K0.out.1 _ ⟨HB2.out.os, HB2.out.tape, HB2.out.output, HB2.out.size, HB2.out.block⟩ | exact K0.out.2 _ _ (by assumption))
          clear hK K
          try simp only [Act.put, List.setIfInBounds_toArray, List.set_cons_zero, List.set_cons_succ]
          refine wpAnyH_done (by kernel_rfl) ?_ _
          (go_end0; rw [HW.out]; exact ⟨rfl, HH.out.down SS.out ⟨HB2.out.os, HB2.out.tape, HB2.out.output, HB2.out.size, HB2.out.block⟩⟩)
  refine AllReadyH.cons rfl (fun K hK => ?_) AllReadyH.nil
  · (go_simp; (go_at_call 72; (with_reducible refine (HC.out _ (by repeat (first | (with_reducible first | exact Below.refl _ _ | apply below_alloc | apply pw_below_drewN | apply below_drew1) | exact Below.refl _ _))).mono ?_); rintro e w' ⟨rfl, hb⟩; have k0 := (hb.cell (p := ⟨be, 0, none⟩) z0).trans e0; have k3 := (hb.frozen (p := ⟨be, 0, none⟩) z0).trans fz; have HB2 := Aside0.mk hb; clear hb))
    refine hK.out _ _ ?_ (fun hHeld => ?_)
    · (try dsimp only); (first | exact K0.out.1 _ ⟨rfl, rfl, rfl, Nat.le_refl _, fun _ _ => rfl⟩ | exact K0.out.1 _ ⟨HB2.out.os, HB2.out.tape, HB2.out.output, HB2.out.size, HB2.out.block⟩ | exact K0.out.2 _ _ (by assumption))
    clear hK K
    try simp only [Act.put, List.setIfInBounds_toArray, List.set_cons_zero, List.set_cons_succ]
    refine wpAnyH_take (i := 12) (v := ?_) rfl (by kernel_rfl) (by kernel_rfl) (by kernel_rfl) (fun _ _ _ h => h) (Or.inl ⟨by rfl, ?_⟩) (by assumption) ?_
    rotate_left
    · intro w hSw; (try dsimp only at hSw); go_simp; (try with_reducible rfl)
    try simp only [Act.put, List.setIfInBounds_toArray, List.set_cons_zero, List.set_cons_succ]
    refine wpAnyH_ready (rs := [0]) (by kernel_rfl) (by simp) ?_
    refine AllReadyH.cons rfl (fun K hK => ?_) AllReadyH.nil
    · go_simp
      refine hK.out _ _ ?_ (fun hHeld => ?_)
      · (try dsimp only); (first | exact K0.out.1 _ ⟨rfl, rfl, rfl, Nat.le_refl _, fun _ _ => rfl⟩ | exact K0.out.1 _ ⟨HB2.out.os, HB2.out.tape, HB2.out.output, HB2.out.size, HB2.out.block⟩ | exact K0.out.2 _ _ (by assumption))
      clear hK K
      try simp only [Act.put, List.setIfInBounds_toArray, List.set_cons_zero, List.set_cons_succ]
      refine wpAnyH_ready (rs := [13]) (by kernel_rfl) (by simp) ?_
      refine AllReadyH.cons rfl (fun K hK => ?_) AllReadyH.nil
      · go_simp
        refine hK.out _ _ ?_ (fun hHeld => ?_)
        · (try dsimp only); (first | exact K0.out.1 _ ⟨rfl, rfl, rfl, Nat.le_refl _, fun _ _ => rfl⟩ | exact K0.out.1 _ ⟨HB2.out.os, HB2.out.tape, HB2.out.output, HB2.out.size, HB2.out.block⟩ | exact K0.out.2 _ _ (by assumption))
        clear hK K
        try simp only [Act.put, List.setIfInBounds_toArray, List.set_cons_zero, List.set_cons_succ]
        refine wpAnyH_ready (rs := [14]) (by kernel_rfl) (by simp) ?_
        refine AllReadyH.cons rfl (fun K hK => ?_) AllReadyH.nil
        · go_simp
          refine hK.out _ _ ?_ (fun hHeld => ?_)
          · (try dsimp only); (first | exact K0.out.1 _ ⟨rfl, rfl, rfl, Nat.le_refl _, fun _ _ => rfl⟩ | exact K0.out.1 _ ⟨HB2.out.os, HB2.out.tape, HB2.out.output, HB2.out.size, HB2.out.block⟩ | exact K0.out.2 _ _ (by assumption))
          clear hK K
          try simp only [Act.put, List.setIfInBounds_toArray, List.set_cons_zero, List.set_cons_succ]
          refine wpAnyH_done (by kernel_rfl) ?_ _
          (go_end0; rw [HW.out]; exact ⟨rfl, HH.out.down SS.out ⟨HB2.out.os, HB2.out.tape, HB2.out.output, HB2.out.size, HB2.out.block⟩⟩)
end Go.Proofs.YtdgempbldhdihaaDoor.P

namespace Go.Proofs.YtdgempbldhdihaaDoor.P
open Go.RowKit Go.Proofs.YtdgempbldhdihaaDoorW.PrintWords Go.Proofs.YtdgempbldhdihaaDoorW.PrintLast Go.Proofs.YtdgempbldhdihaaDoorW.PrintMore

/-- What sound tables are. -/
structure Gr (l0 : List S42) (l1 : List S47) : Prop where
  n : l0.length ≤ 64
  g : ∀ i : Nat, i < l0.length → (0 ≤ (rd_T42 l0 i).f2 ∧ (rd_T42 l0 i).f2 ≤ 100000) ∧ (0 ≤ (rd_T42 l0 i).f3 ∧ (rd_T42 l0 i).f3 ≤ 100000) ∧ (0 ≤ (rd_T42 l0 i).f4 ∧ (rd_T42 l0 i).f4 ≤ 100000)
  c : ∀ c ∈ l1, (0 ≤ c.f0 ∧ c.f0 < l0.length) ∧ (0 ≤ c.f1 ∧ c.f1 < l0.length) ∧ (0 ≤ c.f2 ∧ c.f2 ≤ 100000) ∧ (0 ≤ c.f3 ∧ c.f3 ≤ 100000)
  k : l1.length ≤ 140737488351232

theorem interF_dom (n : Nat) (l : List S47) (h : ∀ c ∈ l, (0 ≤ c.f0 ∧ c.f0 < (n : Int)) ∧ (0 ≤ c.f1 ∧ c.f1 < (n : Int)) ∧ (0 ≤ c.f2 ∧ c.f2 ≤ 100000) ∧ (0 ≤ c.f3 ∧ c.f3 ≤ 100000)) :
    ∀ f : Int → Int → Option Int, (∀ a b v, f a b = some v → (0 ≤ a ∧ a < n) ∧ 0 ≤ v ∧ v ≤ 100000) → ∀ a b v, l.foldl Pr.stepF f a b = some v → (0 ≤ a ∧ a < (n : Int)) ∧ 0 ≤ v ∧ v ≤ 100000 := by
  induction l with
  | nil => intro f hf a b v hv; exact hf a b v hv
  | cons c r ih =>
    intro f hf
    have hc := h c (by simp)
    have put : ∀ (f : Int → Int → Option Int) (x y t : Int), (∀ a b v, f a b = some v → (0 ≤ a ∧ a < (n : Int)) ∧ 0 ≤ v ∧ v ≤ 100000) → (0 ≤ x ∧ x < (n : Int)) → (0 ≤ t ∧ t ≤ 100000) → ∀ a b v, Pr.putF f x y t a b = some v → (0 ≤ a ∧ a < (n : Int)) ∧ 0 ≤ v ∧ v ≤ 100000 := by
      intro f x y t hf hx ht a b v hv
      unfold Pr.putF at hv
      split at hv
      · exact hf a b v hv
      · unfold Pr.upd at hv
        split at hv
        · rename_i he
          obtain ⟨rfl, rfl⟩ := he
          obtain rfl := Option.some.inj hv
          exact ⟨hx, ht⟩
        · exact hf a b v hv
    exact ih (fun c hc => h c (by simp [hc])) _ (put _ _ _ _ (put _ _ _ _ hf hc.1 hc.2.2.1) hc.2.1 hc.2.2.2)
theorem Gr.inter {l0 : List S42} {l1 : List S47} (h : Gr l0 l1) {a b v : Int} (hv : Pr.interF l1 a b = some v) : (0 ≤ a ∧ a < (l0.length : Int)) ∧ 0 ≤ v ∧ v ≤ 100000 :=
  interF_dom l0.length l1 h.c _ (fun _ _ _ h => by simp at h) a b v hv
theorem Gr.okC {l0 : List S42} {l1 : List S47} (h : Gr l0 l1) : ∀ c ∈ l1, Pr.okC c := by
  intro c hc
  obtain ⟨h1, h2, h3, h4⟩ := h.c c hc
  have hn := h.n
  have wf : ∀ x : Int, 0 ≤ x → x ≤ 100000 → Pr.wf x := fun x h0 h1 => by
    show (Lit.int .i64 x).wf = true
    exact (Lit.wf_int_iff .i64 x).2 (by simp [IntKind.min, IntKind.max, IntKind.signed, IntKind.bits]; omega)
  exact ⟨wf _ (by omega) (by omega), wf _ (by omega) (by omega), wf _ h3.1 h3.2, wf _ h4.1 h4.2⟩

set_option maxHeartbeats 4000000 in
set_option maxRecDepth 100000 in
theorem through_calls (A0 A1 : Option Addr) (c0 c1 : Nat) (l0 : List S42) (l1 : List S47) (from_ to_ foes : Nat) (e1 e2 : Int) (wt : Nat → Int) (w : World) (hg : Gr l0 l1)
    (hr0 : Kd.C k42 w A0 l0.length l0) (hr1 : Kd.C k47 w A1 l1.length l1) (hT : Tab w) (hw : 1 < w.heap.size) (m1 m2 : Nat) (hm1 : bits .andNot .u64 (from_ : Int) (to_ : Int) = m1) (hm2 : bits .andNot .u64 (to_ : Int) (from_ : Int) = m2)
    (hm1' : m1 < 18446744073709551616) (hm2' : m2 < 18446744073709551616)
    (hwt : ∀ i : Nat, i < l0.length → m2.testBit i = true → IsWait l0 (Pr.interF l1) foes i (wt i) ∧ wt i ≤ 1000000) (h1 : IsMaxB l0.length (fun i => 1 + (rd_T42 l0 i).f3) m1 0 e1) (h2 : IsMaxB l0.length (fun i => 1 + wt i + (rd_T42 l0 i).f4) m2 e1 e2) :
    Calls Tryd.prog 44 #[.agg #[.slice A0 l0.length c0, .slice A1 l1.length c1], .int .u64 from_, .int .u64 to_, .int .u64 foes] w fun e w' => e = .returned (.int .i64 e2) ∧ Below w.heap.size w w' := by
  have HR0 := Aside0.mk hr0
  have HR1 := Aside0.mk hr1
  have HG := Aside0.mk hg
  have HT := Aside0.mk hT
  have HW := Aside0.mk hwt
  have H1 := Aside0.mk h1
  have H2 := Aside0.mk h2
  clear hr0 hr1 hT hwt h1 h2 hg
  go_enter Tryd.func44, Tryd.ntmps44
  go_wp2_with fail
  refine (Pr.pairsOf_calls A0 l0.length c0 A1 c1 l1 _ (Kd.C_below HR1.out (by repeat (first | (with_reducible first | exact Below.refl _ _ | apply below_alloc | apply pw_below_drewN | apply below_drew1) | exact Below.refl _ _))) HG.out.k HG.out.okC).mono ?_
  rintro e w1 ⟨B, N, rfl, _, hP, hb⟩
  have hP0 := hP.lt
  have hb1 : Below w.heap.size w w1 := below_step (by repeat (first | (with_reducible first | exact Below.refl _ _ | apply below_alloc | apply pw_below_drewN | apply below_drew1) | exact Below.refl _ _)) hb
  have t1 : w1.heap[w.heap.size]? = some (.cells #[.slice A0 l0.length c0, .slice A1 l1.length c1] 25 (0, 0)) := (hb.block _ (by simp; omega)).trans ((Pr.alloc_old (by simp)).trans (Pr.alloc_self _ _))
  have t2 : w1.heap[w.heap.size + 1]? = some (.cells #[.int .u64 foes] 26 (0, 0)) := (hb.block _ (by simp)).trans (by
    have := Pr.alloc_self (w.alloc (.cells #[.slice A0 l0.length c0, .slice A1 l1.length c1] 25)) (.cells #[.int .u64 foes] 26)
    rw [Pr.alloc_size] at this
    exact this)
  have hs1 : w.heap.size + 2 ≤ w1.heap.size := by have := hb.size; simp at this; omega
  have g1 : w1.cell? ⟨w.heap.size, 0, none⟩ = some (.slice A0 l0.length c0) := (blk_cell t1 0).trans rfl
  have g2 : w1.cell? ⟨w.heap.size, 1, none⟩ = some (.slice A1 l1.length c1) := (blk_cell t1 1).trans rfl
  have hz : w.heap.size < w1.heap.size := by omega
  have hz2 : w.heap.size + 1 < w1.heap.size := by omega
  have SS : Aside0 (Sur w w.heap.size (w1.heap.size + 1) w.heap.size w1.heap.size (w.heap.size + 1) B A0 l0) := ⟨⟨rfl, by omega, by omega, by omega, by omega, by omega, HR0.out, HT.out, hw⟩⟩
  have TH : Aside0 (∀ W, W = (w1.alloc (.cells #[.map (some B)] 101)).alloc (.cells #[.int .i64 0] 3) → Thr w w.heap.size (w1.heap.size + 1) w.heap.size w1.heap.size (w.heap.size + 1) B N (Pr.interF l1) A0 c0 l0 (.slice A1 l1.length c1) foes 0 W) := by
    refine ⟨fun W hW => ?_⟩
    subst hW
    have o1 : ∀ k, k < w1.heap.size → ((w1.alloc (.cells #[.map (some B)] 101)).alloc (.cells #[.int .i64 0] 3)).heap[k]? = w1.heap[k]? := fun k hk => (Pr.alloc_old (by rw [Pr.alloc_size]; omega)).trans (Pr.alloc_old hk)
    refine ⟨?_, (o1 _ hz).trans t1, (Pr.alloc_old (by simp)).trans (Pr.alloc_self _ _), (o1 _ hz2).trans t2, hP.same (o1 _ hP0), below_alloc (below_alloc hb1 _) _⟩
    have := Pr.alloc_self (w1.alloc (.cells #[.map (some B)] 101)) (.cells #[.int .i64 0] 3)
    rw [Pr.alloc_size] at this
    exact this
  clear hP hb hb1 t1 t2
  go_wp2_with fail
  refine (members_calls 70 _ (enters_of Tryd.func70 (by kernel_rfl) rfl) A0 c0 l0.length (.slice A1 l1.length c1) (w1.heap.size + 1) (fun c W => Thr w w.heap.size (w1.heap.size + 1) w.heap.size w1.heap.size (w.heap.size + 1) B N (Pr.interF l1) A0 c0 l0 (.slice A1 l1.length c1) foes c W) (fun i => 1 + (rd_T42 l0 i).f3) m1 0 e1 _ hm1' (TH.out _ rfl)
    (fun c W h => ⟨Tab.below HT.out h.hB hw, blk_lt h.hE⟩) (fun c W o h => h.alloc SS.out o) (fun c W i h hi hb => clos70 i hi (HG.out.g i hi).2.1 h SS.out) H1.out).mono ?_
  rintro e w2 ⟨rfl, h2⟩
  have x1 := h2.cells.1
  have x2 := h2.cells.2.1
  have x3 := h2.cells.2.2.1
  have H22 := Aside0.mk h2
  clear h2
  go_wp2_with fail
  refine (members_calls 71 _ (enters_of Tryd.func71 (by kernel_rfl) rfl) A0 c0 l0.length (.slice A1 l1.length c1) (w1.heap.size + 1) (fun c W => Thr w w.heap.size (w1.heap.size + 1) w.heap.size w1.heap.size (w.heap.size + 1) B N (Pr.interF l1) A0 c0 l0 (.slice A1 l1.length c1) foes c W) (fun i => 1 + wt i + (rd_T42 l0 i).f4) m2 e1 e2 _ hm2' H22.out
    (fun c W h => ⟨Tab.below HT.out h.hB hw, blk_lt h.hE⟩) (fun c W o h => h.alloc SS.out o) (fun c W i h hi hb => clos71 i hi (HG.out.g i hi).2.2 (fun a b v hv => (HG.out.inter hv).1) (HW.out i hi hb).1 (HW.out i hi hb).2 h SS.out) H2.out).mono ?_
  rintro e w3 ⟨rfl, h3⟩
  have x4 := h3.cells.1
  have H3 := Aside0.mk h3
  clear h3
  go_wp2
  go_ret
  exact ⟨rfl, H3.out.hB⟩

/-- The same for Hold, which has no map. -/
structure Hd (w0 : World) (b0 be bt : Nat) (A0 : Option Addr) (c0 : Nat) (l0 : List S42) (v1 : Value) (c : Int) (W : World) : Prop where
  hE : W.heap[be]? = some (.cells #[.int .i64 c] 3 (0, 0))
  hT : W.heap[bt]? = some (.cells #[.slice A0 l0.length c0, v1] 25 (0, 0))
  hB : Below b0 w0 W
structure Hs (w0 : World) (b0 be bt : Nat) (A0 : Option Addr) (l0 : List S42) : Prop where
  h0 : b0 = w0.heap.size
  h1 : b0 ≤ be
  ht : be ≠ bt
  hR : Kd.C k42 w0 A0 l0.length l0
section
variable {w0 : World} {b0 be bt : Nat} {A0 : Option Addr} {c0 : Nat} {l0 : List S42} {v1 : Value} {c c' : Int} {W W' : World}
theorem Hd.turn (h : Hd w0 b0 be bt A0 c0 l0 v1 c W) (s : Hs w0 b0 be bt A0 l0) (hg : W.grownBy W' (some be)) (hE : W'.heap[be]? = some (.cells #[.int .i64 c'] 3 (0, 0))) : Hd w0 b0 be bt A0 c0 l0 v1 c' W' :=
  ⟨hE, (hg.block _ (blk_lt h.hT) (by simp; exact fun e => s.ht e.symm)).trans h.hT, h.hB.trans ⟨hg.os, hg.tape, hg.output, hg.size, fun k hk => hg.block k (by have := h.hB.size; have := s.h0; omega) (by simp; have := s.h1; omega)⟩⟩
theorem Hd.alloc (h : Hd w0 b0 be bt A0 c0 l0 v1 c W) (s : Hs w0 b0 be bt A0 l0) (o : Obj) : Hd w0 b0 be bt A0 c0 l0 v1 c (W.alloc o) :=
  h.turn s (World.grownBy_alloc W o _) ((Pr.alloc_old (blk_lt h.hE)).trans h.hE)
theorem Hd.put (h : Hd w0 b0 be bt A0 c0 l0 v1 c W) (s : Hs w0 b0 be bt A0 l0) (c' : Int) : Hd w0 b0 be bt A0 c0 l0 v1 c' (W.setCell ⟨be, 0, none⟩ (.int .i64 c')).drew ∧ W.grownBy (W.setCell ⟨be, 0, none⟩ (.int .i64 c')).drew (some be) :=
  have g := grown_setCell W be 0 (.int .i64 c')
  have g' : W.grownBy (W.setCell ⟨be, 0, none⟩ (.int .i64 c')).drew (some be) := ⟨g.os, g.tape, g.output, g.size, g.block⟩
  ⟨h.turn s g' (setCell_one (u := .int .i64 c') h.hE), g'⟩
theorem Hd.cells (h : Hd w0 b0 be bt A0 c0 l0 v1 c W) : W.cell? ⟨be, 0, none⟩ = some (.int .i64 c) ∧ W.cell? ⟨bt, 0, none⟩ = some (.slice A0 l0.length c0) :=
  ⟨(blk_cell h.hE 0).trans rfl, (blk_cell h.hT 0).trans rfl⟩
end
attribute [local go_sem] max_pure

set_option maxHeartbeats 2000000 in
set_option maxRecDepth 100000 in
theorem hclos {w0 : World} {b0 be bt : Nat} {A0 : Option Addr} {c0 : Nat} {l0 : List S42} {v1 : Value} {c : Int} {W : World} (i : Nat) (hi : i < l0.length) (ha : 0 ≤ (rd_T42 l0 i).f2 ∧ (rd_T42 l0 i).f2 ≤ 100000)
    (h : Hd w0 b0 be bt A0 c0 l0 v1 c W) (s : Hs w0 b0 be bt A0 l0) :
    Calls Tryd.prog 49 (#[.int .i64 i] ++ #[.pointer (some ⟨be, 0, none⟩), .pointer (some ⟨bt, 0, none⟩)]) W fun e W' => e = .returned (.tuple #[]) ∧ Hd w0 b0 be bt A0 c0 l0 v1 (max c ((rd_T42 l0 i).f2 - 1)) W' ∧ W.grownBy W' (some be) := by
  obtain ⟨ad, rfl, _, _, y2, _⟩ := at_T42 s.hR (i : Int) (by omega) (by omega)
  replace y2 := (h.hB.cell (by rw [s.h0]; exact World.block_lt_of_cell? w0 _ y2)).trans y2
  simp only [Int.toNat_natCast] at y2
  obtain ⟨e0, e1⟩ := h.cells
  have fz := frozen_one h.hE
  have HH := Aside0.mk h
  have SS := Aside0.mk s
  clear h s
  show Calls Tryd.prog 49 #[.int .i64 i, .pointer (some ⟨be, 0, none⟩), .pointer (some ⟨bt, 0, none⟩)] W _
  have d1 : decide ((i : Int) < (l0.length : Int)) = true := decide_eq_true (by omega)
  have hw : IntKind.i64.wrap ((rd_T42 l0 i).f2 - 1) = (rd_T42 l0 i).f2 - 1 := by rw [IntKind.wrap_i64]; omega
  have HW := Aside0.mk hw
  clear hw
  go_enter Tryd.func49, Tryd.ntmps49
  go_wp2
  go_region_with fail
  all_goals (go_end0; rw [HW.out]; exact ⟨rfl, HH.out.put SS.out _⟩)

set_option maxHeartbeats 4000000 in
set_option maxRecDepth 100000 in
/-- The second half of Hold: what it does behind the test of the tables. -/
theorem hold_calls (k : Nat) (A0 A1 : Option Addr) (c0 c1 : Nat) (l0 : List S42) (l1 : List S47) (from_ to_ : Nat) (e1 : Int) (w : World) (hg : Gr l0 l1) (hgr : check_Grid.f k l0 l1 = some true)
    (hr0 : Kd.C k42 w A0 l0.length l0) (hr1 : Kd.C k47 w A1 l1.length l1) (hc0 : l0.length ≤ c0) (hc1 : l1.length ≤ c1) (hT : Tab w) (hw : 1 < w.heap.size) (m1 : Nat) (hm1 : bits .andNot .u64 (from_ : Int) (to_ : Int) = m1)
    (hm1' : m1 < 18446744073709551616) (h1 : IsMaxB l0.length (fun i => (rd_T42 l0 i).f2 - 1) m1 0 e1) :
    Calls Tryd.prog 15 #[.agg #[.slice A0 l0.length c0, .slice A1 l1.length c1], .int .u64 from_, .int .u64 to_] w fun e w' => e = .returned (.tuple #[.int .i64 e1, .int .i64 0]) ∧ Below w.heap.size w w' := by
  have HR0 := Aside0.mk hr0
  have HR1 := Aside0.mk hr1
  have HG := Aside0.mk hg
  have HT := Aside0.mk hT
  have H1 := Aside0.mk h1
  have HGR := Aside0.mk hgr
  clear hr0 hr1 hT h1 hg hgr
  go_enter Tryd.func15, Tryd.ntmps15
  go_wp2_with fail
  refine (check_Grid.calls k A0 c0 l0 A1 c1 l1 true _ (Kd.C_below HR0.out (by repeat (first | (with_reducible first | exact Below.refl _ _ | apply below_alloc | apply pw_below_drewN | apply below_drew1) | exact Below.refl _ _))) hc0 (Kd.C_below HR1.out (by repeat (first | (with_reducible first | exact Below.refl _ _ | apply below_alloc | apply pw_below_drewN | apply below_drew1) | exact Below.refl _ _))) hc1 HGR.out).mono ?_
  rintro e w1 ⟨rfl, hb⟩
  have hb1 : Below w.heap.size w w1 := below_step (by repeat (first | (with_reducible first | exact Below.refl _ _ | apply below_alloc | apply pw_below_drewN | apply below_drew1) | exact Below.refl _ _)) hb
  have t1 : w1.heap[w.heap.size]? = some (.cells #[.slice A0 l0.length c0, .slice A1 l1.length c1] 25 (0, 0)) := (hb.block _ (by simp)).trans (Pr.alloc_self _ _)
  have hs1 : w.heap.size + 1 ≤ w1.heap.size := by have := hb.size; simp at this; omega
  have g1 : w1.cell? ⟨w.heap.size, 0, none⟩ = some (.slice A0 l0.length c0) := (blk_cell t1 0).trans rfl
  have g2 : w1.cell? ⟨w.heap.size, 1, none⟩ = some (.slice A1 l1.length c1) := (blk_cell t1 1).trans rfl
  have hz : w.heap.size < w1.heap.size := by omega
  have SS : Aside0 (Hs w w.heap.size w1.heap.size w.heap.size A0 l0) := ⟨⟨rfl, by omega, by omega, HR0.out⟩⟩
  have TH : Aside0 (Hd w w.heap.size w1.heap.size w.heap.size A0 c0 l0 (.slice A1 l1.length c1) 0 (w1.alloc (.cells #[.int .i64 0] 3))) :=
    ⟨⟨Pr.alloc_self _ _, (Pr.alloc_old hz).trans t1, below_alloc hb1 _⟩⟩
  clear hb hb1 t1
  go_wp2_with fail
  refine (members_calls 49 _ (enters_of Tryd.func49 (by kernel_rfl) rfl) A0 c0 l0.length (.slice A1 l1.length c1) w1.heap.size (fun c W => Hd w w.heap.size w1.heap.size w.heap.size A0 c0 l0 (.slice A1 l1.length c1) c W) (fun i => (rd_T42 l0 i).f2 - 1) m1 0 e1 _ hm1' TH.out
    (fun c W h => ⟨Tab.below HT.out h.hB hw, blk_lt h.hE⟩) (fun c W o h => h.alloc SS.out o) (fun c W i h hi hb => hclos i hi (HG.out.g i hi).1 h SS.out) H1.out).mono ?_
  rintro e w3 ⟨rfl, h3⟩
  have x4 := h3.cells.1
  have H3 := Aside0.mk h3
  clear h3
  go_wp2
  go_ret2
  exact ⟨rfl, H3.out.hB⟩
end Go.Proofs.YtdgempbldhdihaaDoor.P

namespace Go.Proofs.YtdgempbldhdihaaDoor.P
open Go.RowKit Go.Proofs.YtdgempbldhdihaaDoorW.PrintWords Go.Proofs.YtdgempbldhdihaaDoorW.PrintLast Go.Proofs.YtdgempbldhdihaaDoorW.PrintMore

theorem refused_grid (k : Nat) (A0 A1 : Option Addr) (c0 c1 : Nat) (l0 : List S42) (l1 : List S47) (a b : Int) (w : World) (hgr : check_Grid.f k l0 l1 = some false)
    (hr0 : Kd.C k42 w A0 l0.length l0) (hr1 : Kd.C k47 w A1 l1.length l1) (hc0 : l0.length ≤ c0) (hc1 : l1.length ≤ c1) :
    Calls Tryd.prog 43 #[.agg #[.slice A0 l0.length c0, .slice A1 l1.length c1], .int .u64 a, .int .u64 b] w fun e w' => e = .returned (.int .i64 70) ∧ Below w.heap.size w w' := by
  have HR0 := Aside0.mk hr0
  have HR1 := Aside0.mk hr1
  have HGR := Aside0.mk hgr
  clear hr0 hr1 hgr
  go_enter Tryd.func43, Tryd.ntmps43
  go_wp2_with fail
  refine (check_Grid.calls k A0 c0 l0 A1 c1 l1 false _ (Kd.C_below HR0.out (by repeat (first | (with_reducible first | exact Below.refl _ _ | apply below_alloc | apply pw_below_drewN | apply below_drew1) | exact Below.refl _ _))) hc0 (Kd.C_below HR1.out (by repeat (first | (with_reducible first | exact Below.refl _ _ | apply below_alloc | apply pw_below_drewN | apply below_drew1) | exact Below.refl _ _))) hc1 HGR.out).mono ?_
  rintro e w1 ⟨rfl, hb⟩
  have hb1 := Aside0.mk (show Below w.heap.size w w1 from below_step (by repeat (first | (with_reducible first | exact Below.refl _ _ | apply below_alloc | apply pw_below_drewN | apply below_drew1) | exact Below.refl _ _)) hb)
  clear hb
  go_wp2
  go_ret
  exact ⟨rfl, hb1.out⟩

set_option maxHeartbeats 2000000 in
set_option maxRecDepth 100000 in
theorem refused_clash (k : Nat) (A0 A1 : Option Addr) (c0 c1 : Nat) (l0 : List S42) (l1 : List S47) (a b : Int) (x1 y1 x2 y2 : Int) (b1 b2 : Bool) (w : World) (hgr : check_Grid.f k l0 l1 = some true)
    (h1 : safety_Clash.f k l0 l1 a = some (x1, y1, b1)) (h2 : safety_Clash.f k l0 l1 b = some (x2, y2, b2))
    (hr0 : Kd.C k42 w A0 l0.length l0) (hr1 : Kd.C k47 w A1 l1.length l1) (hc0 : l0.length ≤ c0) (hc1 : l1.length ≤ c1) :
    Calls Tryd.prog 43 #[.agg #[.slice A0 l0.length c0, .slice A1 l1.length c1], .int .u64 a, .int .u64 b] w fun e w' => e = .returned (.int .i64 (if (b1 || b2) = true then 60 else 0)) ∧ Below w.heap.size w w' := by
  have HR0 := Aside0.mk hr0
  have HR1 := Aside0.mk hr1
  have HGR := Aside0.mk hgr
  have H1 := Aside0.mk h1
  have H2 := Aside0.mk h2
  clear hr0 hr1 hgr h1 h2
  go_enter Tryd.func43, Tryd.ntmps43
  go_wp2_with fail
  refine (check_Grid.calls k A0 c0 l0 A1 c1 l1 true _ (Kd.C_below HR0.out (by repeat (first | (with_reducible first | exact Below.refl _ _ | apply below_alloc | apply pw_below_drewN | apply below_drew1) | exact Below.refl _ _))) hc0 (Kd.C_below HR1.out (by repeat (first | (with_reducible first | exact Below.refl _ _ | apply below_alloc | apply pw_below_drewN | apply below_drew1) | exact Below.refl _ _))) hc1 HGR.out).mono ?_
  rintro e w1 ⟨rfl, hb⟩
  have hb1 := Aside0.mk (show Below w.heap.size w w1 from below_step (by repeat (first | (with_reducible first | exact Below.refl _ _ | apply below_alloc | apply pw_below_drewN | apply below_drew1) | exact Below.refl _ _)) hb)
  have t1 : w1.heap[w.heap.size]? = some (.cells #[.slice A0 l0.length c0, .slice A1 l1.length c1] 25 (0, 0)) := (hb.block _ (by simp)).trans (Pr.alloc_self _ _)
  have HT1 := Aside0.mk t1
  have ix0 : ∀ w : World, (Instr.index 130 (.agg #[.int .u64 a, .int .u64 b]) (.int .i64 0)).run Tryd.prog w = .ok (.int .u64 a) w := fun _ => by kernel_rfl
  have ix1 : ∀ w : World, (Instr.index 130 (.agg #[.int .u64 a, .int .u64 b]) (.int .i64 1)).run Tryd.prog w = .ok (.int .u64 b) w := fun _ => by kernel_rfl
  clear hb t1
  go_wp2
  go_loopw [18] (fun i wr => ∃ j : Nat, i = .int .i64 j ∧ (j = 0 ∨ (j = 1 ∧ b1 = false) ∨ (j = 2 ∧ b1 = false ∧ b2 = false)) ∧ Aside0 (wr.heap[w.heap.size]? = some (.cells #[.slice A0 l0.length c0, .slice A1 l1.length c1] 25 (0, 0))) ∧ Aside0 (Below w.heap.size w wr)) (fun i _ => 2 - (intOf i).toNat)
  case atStart => exact ⟨0, rfl, Or.inl rfl, HT1, hb1⟩
  case round =>
    obtain ⟨j, rfl, hj, HT, HB⟩ := hrel
    have hk : wr.cell? ⟨w.heap.size, 0, none⟩ = some (.slice A0 l0.length c0) := (blk_cell HT.out 0).trans rfl
    have hk1 : wr.cell? ⟨w.heap.size, 1, none⟩ = some (.slice A1 l1.length c1) := (blk_cell HT.out 1).trans rfl
    have hlt := blk_lt HT.out
    rcases hj with rfl | ⟨rfl, rfl⟩ | ⟨rfl, rfl, rfl⟩
    · go_wp2_with fail
      refine (safety_Clash.calls k A0 c0 l0 A1 c1 l1 a x1 y1 b1 _ (Kd.C_below HR0.out HB.out) hc0 (Kd.C_below HR1.out HB.out) hc1 H1.out).mono ?_
      rintro e w2 ⟨rfl, hb2⟩
      have HB2 := Aside0.mk (show Below w.heap.size w w2 from below_step HB.out hb2)
      have HT2 := Aside0.mk ((hb2.block _ hlt).trans HT.out)
      cases b1 with
      | true =>
        clear hb2
        go_wp2
        go_ret
        exact ⟨rfl, HB2.out⟩
      | false =>
        clear hb2
        go_wp2
        go_roundw
        case rel => exact ⟨1, by simp, by simp, HT2, HB2⟩
        case measure => simp [intOf]
    · go_wp2_with fail
      refine (safety_Clash.calls k A0 c0 l0 A1 c1 l1 b x2 y2 b2 _ (Kd.C_below HR0.out HB.out) hc0 (Kd.C_below HR1.out HB.out) hc1 H2.out).mono ?_
      rintro e w2 ⟨rfl, hb2⟩
      have HB2 := Aside0.mk (show Below w.heap.size w w2 from below_step HB.out hb2)
      have HT2 := Aside0.mk ((hb2.block _ hlt).trans HT.out)
      cases b2 with
      | true =>
        clear hb2
        go_wp2
        go_ret
        exact ⟨rfl, HB2.out⟩
      | false =>
        clear hb2
        go_wp2
        go_roundw
        case rel => exact ⟨2, by simp, by simp, HT2, HB2⟩
        case measure => simp [intOf]
    · go_wp2
      go_ret
      exact ⟨rfl, HB.out⟩

def grB (l0 : List S42) (l1 : List S47) : Bool :=
  decide (l0.length ≤ 64) && (l0.all (fun g => decide (0 ≤ g.f2 ∧ g.f2 ≤ 100000 ∧ 0 ≤ g.f3 ∧ g.f3 ≤ 100000 ∧ 0 ≤ g.f4 ∧ g.f4 ≤ 100000)) && (l1.all (fun c => decide ((0 ≤ c.f0 ∧ c.f0 < l0.length) ∧ (0 ≤ c.f1 ∧ c.f1 < l0.length) ∧ (0 ≤ c.f2 ∧ c.f2 ≤ 100000) ∧ (0 ≤ c.f3 ∧ c.f3 ≤ 100000))) && decide (l1.length ≤ 140737488351232)))
theorem gr_of {l0 : List S42} {l1 : List S47} (h : grB l0 l1 = true) : Gr l0 l1 := by
  simp only [grB, Bool.and_eq_true, decide_eq_true_eq, List.all_eq_true] at h
  obtain ⟨h1, h2, h3, h4⟩ := h
  refine ⟨h1, fun i hi => ?_, h3, h4⟩
  have hm : rd_T42 l0 i ∈ l0 := by
    unfold rd_T42
    rw [List.getD_eq_getElem?_getD, List.getElem?_eq_getElem (by omega)]
    exact List.getElem_mem _
  have := h2 _ hm
  omega

/-- The greatest of what the groups of a mask ask, and no less than c. -/
def maxB (n : Nat) (h : Nat → Int) (m : Nat) (c : Int) : Int := (List.range n).foldl (fun s i => if m.testBit i then max s (h i) else s) c
theorem maxB_succ (n : Nat) (h : Nat → Int) (m : Nat) (c : Int) : maxB (n + 1) h m c = if m.testBit n then max (maxB n h m c) (h n) else maxB n h m c := by
  unfold maxB
  rw [List.range_succ, List.foldl_append]
  rfl
theorem maxB_is (h : Nat → Int) (m : Nat) (c : Int) : ∀ n, IsMaxB n h m c (maxB n h m c)
  | 0 => ⟨Int.le_refl _, fun i hi => absurd hi (by omega), Or.inl rfl⟩
  | n + 1 => by
    obtain ⟨h1, h2, h3⟩ := maxB_is h m c n
    rw [maxB_succ]
    by_cases hb : m.testBit n = true
    · rw [if_pos hb]
      refine ⟨by omega, fun i hi hbi => ?_, ?_⟩
      · by_cases e : i = n
        · subst e; omega
        · have := h2 i (by omega) hbi
          omega
      · by_cases hc : maxB n h m c ≤ h n
        · exact Or.inr ⟨n, by omega, hb, by omega⟩
        · rcases h3 with h3 | ⟨i, hi, hbi, h3⟩
          · exact Or.inl (by omega)
          · exact Or.inr ⟨i, by omega, hbi, by omega⟩
    · rw [if_neg hb]
      refine ⟨h1, fun i hi hbi => ?_, ?_⟩
      · by_cases e : i = n
        · subst e; exact absurd hbi hb
        · exact h2 i (by omega) hbi
      · rcases h3 with h3 | ⟨i, hi, hbi, h3⟩
        · exact Or.inl h3
        · exact Or.inr ⟨i, by omega, hbi, h3⟩

/-- When group g leaves red: what the pairs (a, g) ask. -/
def waitF (l0 : List S42) (f : Int → Int → Option Int) (o g : Int) : Nat → Int
  | 0 => 0
  | a + 1 => match wval l0 f o g a g with
    | some v => max (waitF l0 f o g a) v
    | none => waitF l0 f o g a
theorem wval_pair {l0 : List S42} {f : Int → Int → Option Int} {o g a b v : Int} (h : wval l0 f o g a b = some v) : b = g ∧ ∃ x, f a b = some x := by
  unfold wval at h
  cases hf : f a b with
  | none => rw [hf] at h; simp at h
  | some x =>
    rw [hf] at h
    simp only at h
    split at h
    · rename_i hh
      simp only [Bool.and_eq_true, beq_iff_eq] at hh
      exact ⟨hh.1, x, rfl⟩
    · cases h
theorem waitF_is (l0 : List S42) (f : Int → Int → Option Int) (o g : Int) (wfa : ∀ a : Nat, a < l0.length → Pr.wf a) (wfg : Pr.wf g) (hdom : ∀ a b v, f a b = some v → 0 ≤ a ∧ a < l0.length) : IsWait l0 f o g (waitF l0 f o g l0.length) := by
  have main : ∀ n, n ≤ l0.length → 0 ≤ waitF l0 f o g n ∧ (∀ a : Nat, a < n → ∀ v, wval l0 f o g a g = some v → v ≤ waitF l0 f o g n) ∧ (waitF l0 f o g n = 0 ∨ ∃ a : Nat, a < n ∧ wval l0 f o g a g = some (waitF l0 f o g n)) := by
    intro n
    induction n with
    | zero => intro _; exact ⟨Int.le_refl _, fun a ha => absurd ha (by omega), Or.inl rfl⟩
    | succ n ih =>
      intro hn
      obtain ⟨h1, h2, h3⟩ := ih (by omega)
      simp only [waitF]
      cases hv : wval l0 f o g n g with
      | none =>
        refine ⟨h1, fun a ha v hva => ?_, ?_⟩
        · by_cases e : a = n
          · subst e; rw [hv] at hva; cases hva
          · exact h2 a (by omega) v hva
        · rcases h3 with h3 | ⟨a, ha, h3⟩
          · exact Or.inl h3
          · exact Or.inr ⟨a, by omega, h3⟩
      | some x =>
        simp only
        refine ⟨by omega, fun a ha v hva => ?_, ?_⟩
        · by_cases e : a = n
          · subst e; rw [hv] at hva; obtain rfl := Option.some.inj hva; omega
          · have := h2 a (by omega) v hva
            omega
        · by_cases hx : waitF l0 f o g n ≤ x
          · exact Or.inr ⟨n, by omega, by rw [hv]; congr 1; omega⟩
          · rcases h3 with h3 | ⟨a, ha, h3⟩
            · exact Or.inl (by omega)
            · exact Or.inr ⟨a, by omega, by rw [h3]; congr 1; omega⟩
  obtain ⟨h1, h2, h3⟩ := main l0.length (Nat.le_refl _)
  refine ⟨h1, fun a b v _ _ hv => ?_, ?_⟩
  · obtain ⟨rfl, x, hx⟩ := wval_pair hv
    obtain ⟨ha0, ha1⟩ := hdom _ _ _ hx
    obtain ⟨n, rfl⟩ := Int.eq_ofNat_of_zero_le ha0
    exact h2 n (by omega) v hv
  · rcases h3 with h3 | ⟨a, ha, h3⟩
    · exact Or.inl h3
    · exact Or.inr ⟨a, g, wfa a ha, wfg, h3⟩
end Go.Proofs.YtdgempbldhdihaaDoor.P

namespace Go.Proofs.YtdgempbldhdihaaDoor.P
open Go.RowKit Go.Proofs.YtdgempbldhdihaaDoorW.PrintWords Go.Proofs.YtdgempbldhdihaaDoorW.PrintLast Go.Proofs.YtdgempbldhdihaaDoorW.PrintMore

theorem lt_size {w W : World} {n : Nat} (hb : Below w.heap.size w W) (h : n < w.heap.size) : n < W.heap.size := Nat.lt_of_lt_of_le h hb.size
theorem andNot_nat (a b : Int) : ∃ m : Nat, m < 18446744073709551616 ∧ bits .andNot .u64 a b = m := by
  have e : ∃ x : Int, bits .andNot .u64 a b = IntKind.u64.wrap x := ⟨_, rfl⟩
  obtain ⟨x, e⟩ := e
  rw [e, IntKind.wrap_u64]
  exact ⟨(x % 18446744073709551616).toNat, by omega, by omega⟩
theorem wf_small {x : Int} (h0 : 0 ≤ x) (h1 : x ≤ 100000) : Pr.wf x := by
  exact (Lit.wf_int_iff .i64 x).2 (by simp [IntKind.min, IntKind.max, IntKind.signed, IntKind.bits]; omega)

def lostF (a b : Int) : Nat := (bits .andNot .u64 a b).toNat
theorem lostF_eq (a b : Int) : bits .andNot .u64 a b = (lostF a b : Int) ∧ lostF a b < 18446744073709551616 := by
  obtain ⟨m, h1, h2⟩ := andNot_nat a b
  unfold lostF
  rw [h2]
  exact ⟨rfl, h1⟩
def wtF (l0 : List S42) (l1 : List S47) (foes : Int) (i : Nat) : Int := waitF l0 (Pr.interF l1) foes i l0.length
def throughF (l0 : List S42) (l1 : List S47) (a b foes : Int) : Int :=
  maxB l0.length (fun i => 1 + wtF l0 l1 foes i + (rd_T42 l0 i).f4) (lostF b a) (maxB l0.length (fun i => 1 + (rd_T42 l0 i).f3) (lostF a b) 0)
def holdF (l0 : List S42) (a b : Int) : Int := maxB l0.length (fun i => (rd_T42 l0 i).f2 - 1) (lostF a b) 0
def u64B (a : Int) : Bool := decide (0 ≤ a ∧ a < 18446744073709551616)

theorem wtF_is {l0 : List S42} {l1 : List S47} (h : Gr l0 l1) (foes : Int) (i : Nat) (hi : i < l0.length) : IsWait l0 (Pr.interF l1) foes i (wtF l0 l1 foes i) ∧ wtF l0 l1 foes i ≤ 1000000 := by
  have hn := h.n
  have hw := waitF_is l0 (Pr.interF l1) foes i (fun a ha => wf_small (by omega) (by omega)) (wf_small (by omega) (by omega)) (fun a b v hv => (h.inter hv).1)
  refine ⟨hw, ?_⟩
  show waitF l0 (Pr.interF l1) foes i l0.length ≤ 1000000
  rcases hw.2.2 with h0 | ⟨a, b, _, _, h0⟩
  · omega
  · unfold wval at h0
    cases hf : Pr.interF l1 a b with
    | none => rw [hf] at h0; simp at h0
    | some x =>
      rw [hf] at h0
      simp only at h0
      split at h0
      · obtain ⟨⟨ha0, ha1⟩, hx0, hx1⟩ := h.inter hf
        obtain ⟨n, rfl⟩ := Int.eq_ofNat_of_zero_le ha0
        have := (h.g n (by omega)).2.1
        have h1 := Option.some.inj h0
        omega
      · cases h0

theorem through_f (A0 A1 : Option Addr) (c0 c1 : Nat) (l0 : List S42) (l1 : List S47) (a b foes : Int) (w : World) (hg : Gr l0 l1) (ha : u64B a = true) (hb : u64B b = true) (hf : u64B foes = true)
    (hr0 : Kd.C k42 w A0 l0.length l0) (hr1 : Kd.C k47 w A1 l1.length l1) (hT : Tab w) (hw : 1 < w.heap.size) :
    Calls Tryd.prog 44 #[.agg #[.slice A0 l0.length c0, .slice A1 l1.length c1], .int .u64 a, .int .u64 b, .int .u64 foes] w fun e w' => e = .returned (.int .i64 (throughF l0 l1 a b foes)) ∧ Below w.heap.size w w' := by
  simp only [u64B, decide_eq_true_eq] at ha hb hf
  obtain ⟨x, rfl⟩ := Int.eq_ofNat_of_zero_le ha.1
  obtain ⟨y, rfl⟩ := Int.eq_ofNat_of_zero_le hb.1
  obtain ⟨z, rfl⟩ := Int.eq_ofNat_of_zero_le hf.1
  have e1 := lostF_eq x y
  have e2 := lostF_eq y x
  exact through_calls A0 A1 c0 c1 l0 l1 x y z _ _ (fun i => wtF l0 l1 z i) w hg hr0 hr1 hT hw _ _ e1.1 e2.1 e1.2 e2.2 (fun i hi _ => wtF_is hg z i hi) (maxB_is _ _ _ _) (maxB_is _ _ _ _)

def refF (k : Nat) (l0 : List S42) (l1 : List S47) (a b : Int) (n : Int) : Option (Int × Int) :=
  (check_Grid.f k l0 l1).bind fun g => if g = true then (if (grB l0 l1 && (u64B a && u64B b)) = true then (safety_Clash.f k l0 l1 a).bind fun c => (safety_Clash.f k l0 l1 b).bind fun d => if (c.2.2 || d.2.2) = true then some (0, 60) else some (n, 0) else none) else some (0, 70)
def safety_Span.f (k : Nat) (l0 : List S42) (l1 : List S47) (a b : Int) : Option (Int × Int) := refF k l0 l1 a b (throughF l0 l1 a b (bits .andNot .u64 a b))
def safety_Longest.f (k : Nat) (l0 : List S42) (l1 : List S47) (a b : Int) : Option (Int × Int) := refF k l0 l1 a b (throughF l0 l1 a b 18446744073709551615)
def safety_Hold.f (k : Nat) (l0 : List S42) (l1 : List S47) (a b : Int) : Option (Int × Int) :=
  (check_Grid.f k l0 l1).bind fun g => if g = true then (if (grB l0 l1 && (u64B a && u64B b)) = true then some (holdF l0 a b, 0) else none) else some (0, 70)

theorem refF_mono (k : Nat) (l0 : List S42) (l1 : List S47) (a b n : Int) : LeO (refF k l0 l1 a b n) (refF (k + 1) l0 l1 a b n) := by
  unfold refF
  repeat' first
    | (with_reducible exact check_Grid.mono _ _ _)
    | (with_reducible exact safety_Clash.mono _ _ _ _)
    | (with_reducible exact LeO.refl _)
    | (with_reducible refine LeO.ite ?_ ?_)
    | (with_reducible refine LeO.bind ?_ (fun _ => ?_))
theorem safety_Span.mono : ∀ a0 a1 a2 a3 k, LeO (safety_Span.f k a0 a1 a2 a3) (safety_Span.f (k + 1) a0 a1 a2 a3) := fun _ _ _ _ _ => refF_mono _ _ _ _ _ _
theorem safety_Longest.mono : ∀ a0 a1 a2 a3 k, LeO (safety_Longest.f k a0 a1 a2 a3) (safety_Longest.f (k + 1) a0 a1 a2 a3) := fun _ _ _ _ _ => refF_mono _ _ _ _ _ _
theorem safety_Hold.mono : ∀ a0 a1 a2 a3 k, LeO (safety_Hold.f k a0 a1 a2 a3) (safety_Hold.f (k + 1) a0 a1 a2 a3) := by
  intro l0 l1 a b k
  unfold safety_Hold.f
  repeat' first
    | (with_reducible exact check_Grid.mono _ _ _)
    | (with_reducible exact LeO.refl _)
    | (with_reducible refine LeO.ite ?_ ?_)
    | (with_reducible refine LeO.bind ?_ (fun _ => ?_))

theorem refF_ways {k : Nat} {l0 : List S42} {l1 : List S47} {a b n : Int} {r : Int × Int} (h : refF k l0 l1 a b n = some r) :
    (check_Grid.f k l0 l1 = some false ∧ r = (0, 70)) ∨ (check_Grid.f k l0 l1 = some true ∧ Gr l0 l1 ∧ u64B a = true ∧ u64B b = true ∧ ∃ x1 y1 b1 x2 y2 b2, safety_Clash.f k l0 l1 a = some (x1, y1, b1) ∧ safety_Clash.f k l0 l1 b = some (x2, y2, b2) ∧ r = if (b1 || b2) = true then (0, 60) else (n, 0)) := by
  unfold refF at h
  obtain ⟨g, hg, h⟩ := Option.bind_eq_some_iff.1 h
  cases g with
  | false => exact Or.inl ⟨hg, (Option.some.inj h).symm⟩
  | true =>
    simp only [if_true] at h
    split at h
    · rename_i hok
      simp only [Bool.and_eq_true] at hok
      obtain ⟨⟨x1, y1, b1⟩, h1, h⟩ := Option.bind_eq_some_iff.1 h
      obtain ⟨⟨x2, y2, b2⟩, h2, h⟩ := Option.bind_eq_some_iff.1 h
      refine Or.inr ⟨hg, gr_of hok.1, hok.2.1, hok.2.2, x1, y1, b1, x2, y2, b2, h1, h2, ?_⟩
      simp only at h ⊢
      split at h <;> rename_i hb
      · rw [if_pos hb]; exact (Option.some.inj h).symm
      · rw [if_neg hb]; exact (Option.some.inj h).symm
    · cases h

set_option maxHeartbeats 1000000 in
set_option maxRecDepth 100000 in
theorem safety_Span.calls (k : Nat) (A0_0 : Option Addr) (c0_0 : Nat) (l0_0 : List (S42)) (A0_1 : Option Addr) (c0_1 : Nat) (l0_1 : List (S47)) (a1 : Int) (a2 : Int) (r1 : Int) (r2 : Int) (w : World) (hr0_0 : Kd.C k42 w A0_0 l0_0.length l0_0) (hc0_0 : l0_0.length ≤ c0_0) (hr0_1 : Kd.C k47 w A0_1 l0_1.length l0_1) (hc0_1 : l0_1.length ≤ c0_1) (h : safety_Span.f k l0_0 l0_1 a1 a2 = some (r1, r2)) (hT : Tab w) (hw : 1 < w.heap.size) :
    Calls Tryd.prog 11 #[.agg #[.slice A0_0 l0_0.length c0_0, .slice A0_1 l0_1.length c0_1], .int .u64 a1, .int .u64 a2] w fun e w' => e = .returned (.tuple #[.int .i64 r1, .int .i64 r2]) ∧ Below w.heap.size w w' := by
  have HR0 := Aside0.mk hr0_0
  have HR1 := Aside0.mk hr0_1
  have HT := Aside0.mk hT
  rcases refF_ways h with ⟨hg, hr⟩ | ⟨hg, hG, ha, hb, x1, y1, b1, x2, y2, b2, hc1, hc2, hr⟩
  · obtain ⟨rfl, rfl⟩ := Prod.mk.inj hr
    have HG := Aside0.mk hg
    clear hr hr0_0 hr0_1 hT h hg
    go_enter Tryd.func11, Tryd.ntmps11
    go_wp2_with fail
    refine (refused_grid k A0_0 A0_1 c0_0 c0_1 l0_0 l0_1 a1 a2 _ HG.out (Kd.C_below HR0.out (by repeat (first | (with_reducible first | exact Below.refl _ _ | apply below_alloc | apply pw_below_drewN | apply below_drew1) | exact Below.refl _ _))) (Kd.C_below HR1.out (by repeat (first | (with_reducible first | exact Below.refl _ _ | apply below_alloc | apply pw_below_drewN | apply below_drew1) | exact Below.refl _ _))) hc0_0 hc0_1).mono ?_
    rintro e w1 ⟨rfl, hb⟩
    have HB := Aside0.mk (show Below w.heap.size w w1 from below_step (by repeat (first | (with_reducible first | exact Below.refl _ _ | apply below_alloc | apply pw_below_drewN | apply below_drew1) | exact Below.refl _ _)) hb)
    clear hb
    go_wp2
    go_ret2
    exact ⟨rfl, HB.out⟩
  · have HG := Aside0.mk hg
    have HGG := Aside0.mk hG
    have HA := Aside0.mk ha
    have HA2 := Aside0.mk hb
    have H1 := Aside0.mk hc1
    have H2 := Aside0.mk hc2
    clear hr0_0 hr0_1 hT h hg hG ha hb hc1 hc2
    cases hbb : (b1 || b2) with
    | true =>
      rw [if_pos hbb] at hr
      obtain ⟨rfl, rfl⟩ := Prod.mk.inj hr
      have HBB := Aside0.mk hbb
      clear hr hbb
      go_enter Tryd.func11, Tryd.ntmps11
      go_wp2_with fail
      refine (refused_clash k A0_0 A0_1 c0_0 c0_1 l0_0 l0_1 a1 a2 x1 y1 x2 y2 b1 b2 _ HG.out H1.out H2.out (Kd.C_below HR0.out (by repeat (first | (with_reducible first | exact Below.refl _ _ | apply below_alloc | apply pw_below_drewN | apply below_drew1) | exact Below.refl _ _))) (Kd.C_below HR1.out (by repeat (first | (with_reducible first | exact Below.refl _ _ | apply below_alloc | apply pw_below_drewN | apply below_drew1) | exact Below.refl _ _))) hc0_0 hc0_1).mono ?_
      rw [HBB.out]
      rintro e w1 ⟨rfl, hb⟩
      have HB := Aside0.mk (show Below w.heap.size w w1 from below_step (by repeat (first | (with_reducible first | exact Below.refl _ _ | apply below_alloc | apply pw_below_drewN | apply below_drew1) | exact Below.refl _ _)) hb)
      clear hb
      go_wp2
      go_ret2
      exact ⟨rfl, HB.out⟩
    | false =>
      rw [if_neg (by rw [hbb]; decide)] at hr
      obtain ⟨rfl, rfl⟩ := Prod.mk.inj hr
      have HBB := Aside0.mk hbb
      clear hr hbb
      go_enter Tryd.func11, Tryd.ntmps11
      go_wp2_with fail
      refine (refused_clash k A0_0 A0_1 c0_0 c0_1 l0_0 l0_1 a1 a2 x1 y1 x2 y2 b1 b2 _ HG.out H1.out H2.out (Kd.C_below HR0.out (by repeat (first | (with_reducible first | exact Below.refl _ _ | apply below_alloc | apply pw_below_drewN | apply below_drew1) | exact Below.refl _ _))) (Kd.C_below HR1.out (by repeat (first | (with_reducible first | exact Below.refl _ _ | apply below_alloc | apply pw_below_drewN | apply below_drew1) | exact Below.refl _ _))) hc0_0 hc0_1).mono ?_
      rw [HBB.out]
      rintro e w1 ⟨rfl, hb⟩
      have HB := Aside0.mk (show Below w.heap.size w w1 from below_step (by repeat (first | (with_reducible first | exact Below.refl _ _ | apply below_alloc | apply pw_below_drewN | apply below_drew1) | exact Below.refl _ _)) hb)
      have t1 : w1.heap[w.heap.size]? = some (.cells #[.slice A0_0 l0_0.length c0_0, .slice A0_1 l0_1.length c0_1] 25 (0, 0)) := (hb.block _ (by simp)).trans (Pr.alloc_self _ _)
      have g1 : w1.cell? ⟨w.heap.size, 0, none⟩ = some (.slice A0_0 l0_0.length c0_0) := (blk_cell t1 0).trans rfl
      have g2 : w1.cell? ⟨w.heap.size, 1, none⟩ = some (.slice A0_1 l0_1.length c0_1) := (blk_cell t1 1).trans rfl
      have hw1 : 1 < w1.heap.size := by have := blk_lt t1; omega
      clear hb t1
      go_wp2_with fail
      refine (through_f A0_0 A0_1 c0_0 c0_1 l0_0 l0_1 a1 a2 (bits .andNot .u64 a1 a2) w1 HGG.out HA.out HA2.out (by have := lostF_eq a1 a2; simp only [u64B, decide_eq_true_eq]; omega) (Kd.C_below HR0.out HB.out) (Kd.C_below HR1.out HB.out) (Tab.below HT.out HB.out hw) hw1).mono ?_
      rintro e w2 ⟨rfl, hb2⟩
      have HB2 := Aside0.mk (show Below w.heap.size w w2 from below_step HB.out hb2)
      clear hb2
      go_wp2
      go_ret2
      exact ⟨rfl, HB2.out⟩

set_option maxHeartbeats 1000000 in
set_option maxRecDepth 100000 in
theorem safety_Longest.calls (k : Nat) (A0_0 : Option Addr) (c0_0 : Nat) (l0_0 : List (S42)) (A0_1 : Option Addr) (c0_1 : Nat) (l0_1 : List (S47)) (a1 : Int) (a2 : Int) (r1 : Int) (r2 : Int) (w : World) (hr0_0 : Kd.C k42 w A0_0 l0_0.length l0_0) (hc0_0 : l0_0.length ≤ c0_0) (hr0_1 : Kd.C k47 w A0_1 l0_1.length l0_1) (hc0_1 : l0_1.length ≤ c0_1) (h : safety_Longest.f k l0_0 l0_1 a1 a2 = some (r1, r2)) (hT : Tab w) (hw : 1 < w.heap.size) :
    Calls Tryd.prog 13 #[.agg #[.slice A0_0 l0_0.length c0_0, .slice A0_1 l0_1.length c0_1], .int .u64 a1, .int .u64 a2] w fun e w' => e = .returned (.tuple #[.int .i64 r1, .int .i64 r2]) ∧ Below w.heap.size w w' := by
  have HR0 := Aside0.mk hr0_0
  have HR1 := Aside0.mk hr0_1
  have HT := Aside0.mk hT
  rcases refF_ways h with ⟨hg, hr⟩ | ⟨hg, hG, ha, hb, x1, y1, b1, x2, y2, b2, hc1, hc2, hr⟩
  · obtain ⟨rfl, rfl⟩ := Prod.mk.inj hr
    have HG := Aside0.mk hg
    clear hr hr0_0 hr0_1 hT h hg
    go_enter Tryd.func13, Tryd.ntmps13
    go_wp2_with fail
    refine (refused_grid k A0_0 A0_1 c0_0 c0_1 l0_0 l0_1 a1 a2 _ HG.out (Kd.C_below HR0.out (by repeat (first | (with_reducible first | exact Below.refl _ _ | apply below_alloc | apply pw_below_drewN | apply below_drew1) | exact Below.refl _ _))) (Kd.C_below HR1.out (by repeat (first | (with_reducible first | exact Below.refl _ _ | apply below_alloc | apply pw_below_drewN | apply below_drew1) | exact Below.refl _ _))) hc0_0 hc0_1).mono ?_
    rintro e w1 ⟨rfl, hb⟩
    have HB := Aside0.mk (show Below w.heap.size w w1 from below_step (by repeat (first | (with_reducible first | exact Below.refl _ _ | apply below_alloc | apply pw_below_drewN | apply below_drew1) | exact Below.refl _ _)) hb)
    clear hb
    go_wp2
    go_ret2
    exact ⟨rfl, HB.out⟩
  · have HG := Aside0.mk hg
    have HGG := Aside0.mk hG
    have HA := Aside0.mk ha
    have HA2 := Aside0.mk hb
    have H1 := Aside0.mk hc1
    have H2 := Aside0.mk hc2
    clear hr0_0 hr0_1 hT h hg hG ha hb hc1 hc2
    cases hbb : (b1 || b2) with
    | true =>
      rw [if_pos hbb] at hr
      obtain ⟨rfl, rfl⟩ := Prod.mk.inj hr
      have HBB := Aside0.mk hbb
      clear hr hbb
      go_enter Tryd.func13, Tryd.ntmps13
      go_wp2_with fail
      refine (refused_clash k A0_0 A0_1 c0_0 c0_1 l0_0 l0_1 a1 a2 x1 y1 x2 y2 b1 b2 _ HG.out H1.out H2.out (Kd.C_below HR0.out (by repeat (first | (with_reducible first | exact Below.refl _ _ | apply below_alloc | apply pw_below_drewN | apply below_drew1) | exact Below.refl _ _))) (Kd.C_below HR1.out (by repeat (first | (with_reducible first | exact Below.refl _ _ | apply below_alloc | apply pw_below_drewN | apply below_drew1) | exact Below.refl _ _))) hc0_0 hc0_1).mono ?_
      rw [HBB.out]
      rintro e w1 ⟨rfl, hb⟩
      have HB := Aside0.mk (show Below w.heap.size w w1 from below_step (by repeat (first | (with_reducible first | exact Below.refl _ _ | apply below_alloc | apply pw_below_drewN | apply below_drew1) | exact Below.refl _ _)) hb)
      clear hb
      go_wp2
      go_ret2
      exact ⟨rfl, HB.out⟩
    | false =>
      rw [if_neg (by rw [hbb]; decide)] at hr
      obtain ⟨rfl, rfl⟩ := Prod.mk.inj hr
      have HBB := Aside0.mk hbb
      clear hr hbb
      go_enter Tryd.func13, Tryd.ntmps13
      go_wp2_with fail
      refine (refused_clash k A0_0 A0_1 c0_0 c0_1 l0_0 l0_1 a1 a2 x1 y1 x2 y2 b1 b2 _ HG.out H1.out H2.out (Kd.C_below HR0.out (by repeat (first | (with_reducible first | exact Below.refl _ _ | apply below_alloc | apply pw_below_drewN | apply below_drew1) | exact Below.refl _ _))) (Kd.C_below HR1.out (by repeat (first | (with_reducible first | exact Below.refl _ _ | apply below_alloc | apply pw_below_drewN | apply below_drew1) | exact Below.refl _ _))) hc0_0 hc0_1).mono ?_
      rw [HBB.out]
      rintro e w1 ⟨rfl, hb⟩
      have HB := Aside0.mk (show Below w.heap.size w w1 from below_step (by repeat (first | (with_reducible first | exact Below.refl _ _ | apply below_alloc | apply pw_below_drewN | apply below_drew1) | exact Below.refl _ _)) hb)
      have t1 : w1.heap[w.heap.size]? = some (.cells #[.slice A0_0 l0_0.length c0_0, .slice A0_1 l0_1.length c0_1] 25 (0, 0)) := (hb.block _ (by simp)).trans (Pr.alloc_self _ _)
      have g1 : w1.cell? ⟨w.heap.size, 0, none⟩ = some (.slice A0_0 l0_0.length c0_0) := (blk_cell t1 0).trans rfl
      have g2 : w1.cell? ⟨w.heap.size, 1, none⟩ = some (.slice A0_1 l0_1.length c0_1) := (blk_cell t1 1).trans rfl
      have hw1 : 1 < w1.heap.size := by have := blk_lt t1; omega
      clear hb t1
      go_wp2_with fail
      refine (through_f A0_0 A0_1 c0_0 c0_1 l0_0 l0_1 a1 a2 18446744073709551615 w1 HGG.out HA.out HA2.out (by decide) (Kd.C_below HR0.out HB.out) (Kd.C_below HR1.out HB.out) (Tab.below HT.out HB.out hw) hw1).mono ?_
      rintro e w2 ⟨rfl, hb2⟩
      have HB2 := Aside0.mk (show Below w.heap.size w w2 from below_step HB.out hb2)
      clear hb2
      go_wp2
      go_ret2
      exact ⟨rfl, HB2.out⟩

set_option maxHeartbeats 1000000 in
set_option maxRecDepth 100000 in
theorem safety_Hold.calls (k : Nat) (A0_0 : Option Addr) (c0_0 : Nat) (l0_0 : List (S42)) (A0_1 : Option Addr) (c0_1 : Nat) (l0_1 : List (S47)) (a1 : Int) (a2 : Int) (r1 : Int) (r2 : Int) (w : World) (hr0_0 : Kd.C k42 w A0_0 l0_0.length l0_0) (hc0_0 : l0_0.length ≤ c0_0) (hr0_1 : Kd.C k47 w A0_1 l0_1.length l0_1) (hc0_1 : l0_1.length ≤ c0_1) (h : safety_Hold.f k l0_0 l0_1 a1 a2 = some (r1, r2)) (hT : Tab w) (hw : 1 < w.heap.size) :
    Calls Tryd.prog 15 #[.agg #[.slice A0_0 l0_0.length c0_0, .slice A0_1 l0_1.length c0_1], .int .u64 a1, .int .u64 a2] w fun e w' => e = .returned (.tuple #[.int .i64 r1, .int .i64 r2]) ∧ Below w.heap.size w w' := by
  unfold safety_Hold.f at h
  obtain ⟨g, hg, h⟩ := Option.bind_eq_some_iff.1 h
  cases g with
  | false =>
    simp only [Bool.false_eq_true, if_false, Option.some.injEq, Prod.mk.injEq] at h
    obtain ⟨rfl, rfl⟩ := h
    have HR0 := Aside0.mk hr0_0
    have HR1 := Aside0.mk hr0_1
    have HG := Aside0.mk hg
    clear hr0_0 hr0_1 hT hg
    go_enter Tryd.func15, Tryd.ntmps15
    go_wp2_with fail
    refine (check_Grid.calls k A0_0 c0_0 l0_0 A0_1 c0_1 l0_1 false _ (Kd.C_below HR0.out (by repeat (first | (with_reducible first | exact Below.refl _ _ | apply below_alloc | apply pw_below_drewN | apply below_drew1) | exact Below.refl _ _))) hc0_0 (Kd.C_below HR1.out (by repeat (first | (with_reducible first | exact Below.refl _ _ | apply below_alloc | apply pw_below_drewN | apply below_drew1) | exact Below.refl _ _))) hc0_1 HG.out).mono ?_
    rintro e w1 ⟨rfl, hb⟩
    have HB := Aside0.mk (show Below w.heap.size w w1 from below_step (by repeat (first | (with_reducible first | exact Below.refl _ _ | apply below_alloc | apply pw_below_drewN | apply below_drew1) | exact Below.refl _ _)) hb)
    clear hb
    go_wp2
    go_ret2
    exact ⟨rfl, HB.out⟩
  | true =>
    simp only [if_true] at h
    split at h
    · rename_i hok
      simp only [Bool.and_eq_true] at hok
      obtain ⟨hG, ha, hb⟩ := hok
      obtain ⟨rfl, rfl⟩ := Prod.mk.inj (Option.some.inj h)
      simp only [u64B, decide_eq_true_eq] at ha hb
      obtain ⟨x, rfl⟩ := Int.eq_ofNat_of_zero_le ha.1
      obtain ⟨y, rfl⟩ := Int.eq_ofNat_of_zero_le hb.1
      have e1 := lostF_eq x y
      exact hold_calls k A0_0 A0_1 c0_0 c0_1 l0_0 l0_1 x y _ w (gr_of hG) hg hr0_0 hr0_1 hc0_0 hc0_1 hT hw _ e1.1 e1.2 (maxB_is _ _ _ _)
    · cases h
end Go.Proofs.YtdgempbldhdihaaDoor.P
