/- What the driver's Retrace does: it answers a list whose text it was given, or refuses; each list that can be told is answered. -/
import Derived.Test.YtebbipofemjnmaaDoorTNum14
namespace Go.Am.Tryd
open Go.Proofs Go.Am Go.RowKit
set_option maxRecDepth 100000
set_option linter.unusedVariables false

def stN (l : List UInt8) (from_ : Nat) : Int := if (cutB (cutB l 32).1 45).2.2 = true then num (cutB (cutB l 32).1 45).2.1 - from_ + 1 else 1
def stH (l : List UInt8) : ByteArray := if (cutB (cutB l 32).2.1 32).1 = [46] then ByteArray.mk #[] else S (cutB (cutB l 32).2.1 32).1
def stW (l : List UInt8) : List UInt8 := (cutB (cutB l 32).2.1 32).2.1
def stG (l : List UInt8) : Int := if stW l = [45] then -1 else num (stW l)
def stE (l : List UInt8) : S38 := ⟨stH l, stG l⟩
def stOk (l : List UInt8) (from_ : Nat) : Bool := (decide (stW l = [45]) || decide (0 ≤ num (stW l))) && ((cutB l 32).2.2 && ((cutB (cutB l 32).2.1 32).2.2 && (decide (num (cutB (cutB l 32).1 45).1 = (from_ : Int)) && (decide (1 ≤ stN l from_) && (decide ((from_ : Int) + stN l from_ ≤ 65536) && ((!(cutB (cutB l 32).1 45).2.2 || decide (1 < stN l from_)) && tellB (stE l)))))))
theorem isS (l c : List UInt8) : ((S l).toList == (S c).toList) = decide (l = c) := by
  rw [S_toList, S_toList, Bool.eq_iff_iff]
  simp
theorem stN_bound (l : List UInt8) (f : Nat) (hf : f ≤ 65536) : -70000 ≤ stN l f ∧ stN l f ≤ 1000001 := by
  unfold stN
  split
  · have := num_bound (cutB (cutB l 32).1 45).2.1; omega
  · omega
theorem stretch_l3 (K : Nat) (l : List UInt8) (f : Nat) (b0 : ByteArray) (b0_1 : Int) (hK : 100 ≤ K) (hf : f ≤ 65536) (hw : stW l = [45] ∨ 0 ≤ num (stW l)) :
    ∃ b : ByteArray × Int × Unit, driver_stretch.l3 K (f : Int) (cutB l 32).2.2 (cutB (cutB l 32).2.1 32).2.2 (S (cutB (cutB l 32).1 45).1) (cutB (cutB l 32).1 45).2.2 (stN l f) b0 b0_1 (stH l) (stG l) =
      some ((stN l f, (), stOk l f, ()), (stH l, stG l, ()), b, ()) := by
  have hb := stN_bound l f hf
  have ht := tellable_ok K (stE l) hK
  unfold stE at ht
  simp only at ht
  have hw' : (decide (stW l = [45]) || decide (0 ≤ num (stW l))) = true := by simpa using hw
  unfold driver_stretch.l3 stOk stE
  rw [hw', Bool.true_and]
  cases (cutB l 32).2.2
  · exact ⟨_, rfl⟩
  cases (cutB (cutB l 32).2.1 32).2.2
  · exact ⟨_, rfl⟩
  rw [if_pos rfl, if_pos rfl, number_ok K _ (by omega), Option.bind_some]
  simp only [Bool.true_and]
  by_cases h1 : num (cutB (cutB l 32).1 45).1 = (f : Int)
  · rw [if_pos (by simpa using h1), IntWalk.i64_in _ (by omega)]
    by_cases h2 : 1 ≤ stN l f
    · rw [if_pos (by simpa using h2)]
      by_cases h3 : (f : Int) + stN l f ≤ 65536
      · rw [if_pos (by simpa using h3)]
        simp only [h1, h2, h3, decide_true, Bool.true_and]
        cases (cutB (cutB l 32).1 45).2.2
        · rw [if_neg (by simp), ht]
          exact ⟨_, rfl⟩
        · rw [if_pos (by simp)]
          by_cases h4 : 1 < stN l f
          · rw [if_pos (by simpa using h4), ht]
            simp only [h4, decide_true]
            exact ⟨_, rfl⟩
          · rw [if_neg (by simpa using h4)]
            simp only [h4, decide_false]
            exact ⟨_, rfl⟩
      · rw [if_neg (by simpa using h3)]
        simp only [h3, decide_false, Bool.false_and, Bool.and_false]
        exact ⟨_, rfl⟩
    · rw [if_neg (by simpa using h2)]
      simp only [h2, decide_false, Bool.false_and, Bool.and_false]
      exact ⟨_, rfl⟩
  · rw [if_neg (by simpa using h1)]
    simp only [h1, decide_false, Bool.false_and]
    exact ⟨_, rfl⟩
theorem stretch_ok (K : Nat) (l : List UInt8) (f : Nat) (hK : 100 ≤ K) (hf : f ≤ 65536) (hl : l.length ≤ 1000000000000000) :
    ∃ (n : Int) (e : ByteArray × Int × Unit), driver_stretch K (S l) (f : Int) = some ((n, e, stOk l f, ()), ()) ∧ (stOk l f = true → n = stN l f ∧ e = (stH l, stG l, ())) := by
  have hb := stN_bound l f hf
  have l1 := cut_len 32 l
  have l2 := cut_len 32 (cutB l 32).2.1
  unfold driver_stretch
  rw [show (ByteArray.mk #[(32 : UInt8)]) = S [32] from rfl, show (ByteArray.mk #[(45 : UInt8)]) = S [45] from rfl, cut_ok K l 32 hl, Option.bind_some]
  simp only
  rw [cut_ok K _ 32 (by omega), Option.bind_some, cut_ok K _ 45 (by omega), Option.bind_some]
  simp only
  have e0 : driver_stretch.l0 K (f : Int) (S (cutB (cutB l 32).1 45).2.1) (cutB (cutB l 32).1 45).2.2 (1 : Int) = some ((stN l f, ()), ()) := by
    unfold driver_stretch.l0 stN
    have hn := num_bound (cutB (cutB l 32).1 45).2.1
    cases (cutB (cutB l 32).1 45).2.2
    · rfl
    · rw [if_pos rfl, if_pos rfl, number_ok K _ (by omega), Option.bind_some, IntWalk.i64_in (num (cutB (cutB l 32).1 45).2.1 - (f : Int)) (by omega), IntWalk.i64_in _ (by omega)]
  have e1 : driver_stretch.l1 K (S (cutB (cutB l 32).2.1 32).1) (S (cutB (cutB l 32).2.1 32).1) (-1 : Int) = some (((), ()), (stH l, -1, ()), ()) := by
    unfold driver_stretch.l1 stH
    rw [show (ByteArray.mk #[(46 : UInt8)]) = S [46] from rfl, isS]
    by_cases h : (cutB (cutB l 32).2.1 32).1 = [46]
    · rw [if_pos (by simpa using h), if_pos h]
    · rw [if_neg (by simpa using h), if_neg h]
  rw [e0, Option.bind_some, e1, Option.bind_some]
  simp only
  have e2 : driver_stretch.l2 K (S (stW l)) (ByteArray.mk #[]) 0 (stH l) (-1) = some (if (decide (stW l = [45]) || decide (0 ≤ num (stW l))) = true then .inr (((), (), ()), (ByteArray.mk #[], 0, ()), (stH l, stG l, ()), ()) else .inl ((0, (), false, ()), (stH l, num (stW l), ()), (stH l, num (stW l), ()), ())) := by
    unfold driver_stretch.l2 stG
    rw [show (ByteArray.mk #[(45 : UInt8)]) = S [45] from rfl, isS]
    by_cases h : stW l = [45]
    · rw [if_neg (by simp [h]), if_pos (by simp [h]), if_pos h]
    · rw [if_pos (by simp [h]), number_ok K _ (by omega), Option.bind_some, if_neg h]
      by_cases h2 : 0 ≤ num (stW l)
      · rw [if_neg (by simpa using h2), if_pos (by simp [h2])]
      · rw [if_pos (by simpa using h2), if_neg (by simp [h, h2])]
  change ∃ n e, (Option.bind (driver_stretch.l2 K (S (stW l)) (ByteArray.mk #[]) 0 (stH l) (-1)) _ = _) ∧ _
  rw [e2, Option.bind_some]
  by_cases hw : (decide (stW l = [45]) || decide (0 ≤ num (stW l))) = true
  · rw [if_pos hw]
    simp only [onSum]
    obtain ⟨b, hb3⟩ := stretch_l3 K l f (ByteArray.mk #[]) 0 hK hf (by simpa using hw)
    rw [hb3]
    exact ⟨_, _, rfl, fun _ => ⟨rfl, rfl⟩⟩
  · rw [if_neg hw]
    have hf : stOk l f = false := by
      unfold stOk
      rw [show (decide (stW l = [45]) || decide (0 ≤ num (stW l))) = false by simpa using hw]
      rfl
    rw [hf]
    exact ⟨_, _, rfl, fun h => by cases h⟩
theorem stOk_inv {l : List UInt8} {f : Nat} (h : stOk l f = true) : 1 ≤ stN l f ∧ (f : Int) + stN l f ≤ 65536 := by
  unfold stOk at h
  simp only [Bool.and_eq_true, decide_eq_true_eq] at h
  exact ⟨h.2.2.2.2.1, h.2.2.2.2.2.1⟩

theorem push_loop (K x : Nat) (N : Nat) (hN : N ≤ 70000) (h : ByteArray) (g : Int) : ∀ (m i : Nat) (b0 : List S38), i + m = N → b0.length + m ≤ 1000000 →
    driver_Retrace.l1 K (m + x + 1) (N : Int) (i : Int) b0 h g = some (((), ()), b0 ++ List.replicate m ⟨h, g⟩, (h, g, ()), ())
  | 0, i, b0, hi, hb => by
    rw [driver_Retrace.l1, if_neg (by simp; omega)]
    simp
  | m + 1, i, b0, hi, hb => by
    rw [driver_Retrace.l1, if_pos (by simp; omega), room_pos (by unfold capBytes; simp; omega), IntWalk.i64_in _ (by omega), show ((i : Int) + 1) = ((i + 1 : Nat) : Int) by omega, show m + 1 + x = m + x + 1 by omega, push_loop K x N hN h g m (i + 1) _ (by omega) (by simp; omega)]
    rw [List.replicate_succ, List.append_assoc]
    rfl
end Go.Am.Tryd
