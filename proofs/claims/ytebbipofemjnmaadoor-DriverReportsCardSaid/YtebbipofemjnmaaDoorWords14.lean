/- Numbers as texts: the decimal digits that both layers write; the refusals' words. -/
import Derived.Test.YtebbipofemjnmaaDoorFn14
import Derived.Lib.ItoaLen
import Derived.IntWalk
namespace Go.Am.Tryd
open Go.Proofs Go.Am Go.RowKit

theorem small {n : Nat} {β : Type} {K : Option β} (h : n ≤ 1000000) : tooLong n K = K :=
  tooLong_pos (by
    have : IntKind.i64.max = 9223372036854775807 := by decide
    omega)
def I (n : Int) : ByteArray := ⟨(Lib.itoa n).toArray⟩
theorem I_size (n : Int) (h : -9223372036854775808 ≤ n ∧ n ≤ 9223372036854775807) : (I n).size ≤ 21 := by
  have := Lib.itoa_length_le n h.1 h.2
  simpa [I, ByteArray.size] using this

theorem num1 (c : Int) : strOfNums (List.map (fun x => x) [c]) = ⟨#[UInt8.ofNat c.toNat]⟩ := rfl
theorem app_list (a b : List UInt8) : (⟨a.toArray⟩ : ByteArray) ++ ⟨b.toArray⟩ = ⟨(a ++ b).toArray⟩ := by
  apply ByteArray.ext
  simp
theorem list_size (a : List UInt8) : (⟨a.toArray⟩ : ByteArray).size = a.length := by simp [ByteArray.size]
theorem dig (d : Nat) (h : d < 10) : IntKind.u8.wrap (IntKind.i64.wrap (48 + (d : Int))) = ((48 + d : Nat) : Int) := by
  rw [IntWalk.i64_in _ (by omega), IntWalk.u8_in _ (by omega)]; omega

/-- The digits of a number, none of 0. -/
def dd (u : Nat) : List UInt8 := if u = 0 then [] else Lib.decDigits u
theorem dd_step (u : Nat) (h : 0 < u) : dd u = dd (u / 10) ++ [UInt8.ofNat (48 + u % 10)] := by
  unfold dd
  rw [if_neg (by omega)]
  by_cases h10 : u < 10
  · rw [if_pos (by omega), Lib.decDigits, dif_pos h10, Nat.mod_eq_of_lt h10]; rfl
  · rw [if_neg (by omega), Lib.decDigits, dif_neg h10]

theorem text_loop (k : Nat) : ∀ (j u : Nat) (acc : List UInt8), u < 10 ^ j → u ≤ 2147483648 → acc.length + j ≤ 1000 → junctionref1_Text.l0 k (j + 1) (u : Int) ⟨acc.toArray⟩ = some ((⟨(dd u ++ acc).toArray⟩, ()), ())
  | j, u, acc, hj, hu, ha => by
    rw [junctionref1_Text.l0]
    by_cases h0 : u = 0
    · subst h0
      rw [if_neg (by simp)]
      rfl
    · rw [if_pos (by simp; omega)]
      have hr : rem (u : Int) 10 = ((u % 10 : Nat) : Int) := by unfold rem; rw [Int.tmod_eq_emod_of_nonneg (by omega)]; omega
      have hq : quo IntKind.i64 (u : Int) 10 = ((u / 10 : Nat) : Int) := by
        unfold quo; rw [IntWalk.i64_quo _ _ (by omega)]; omega
      rw [hr, hq, dig _ (Nat.mod_lt _ (by omega)), num1]
      have e : (⟨#[UInt8.ofNat ((48 + u % 10 : Nat) : Int).toNat]⟩ : ByteArray) = ⟨[UInt8.ofNat (48 + u % 10)].toArray⟩ := by rw [Int.toNat_natCast]
      rw [e, app_list, list_size, list_size]
      match j, hj, ha with
      | 0, hj, ha => simp at hj; omega
      | j + 1, hj, ha =>
        rw [small (by simp; omega), text_loop k j (u / 10) _ (by rw [Nat.pow_succ] at hj; omega) (by omega) (by simp; omega), dd_step u (by omega)]
        simp

theorem itoa_pos (u : Nat) (h : 0 < u) : Lib.itoa (u : Int) = dd u := by
  rw [Lib.itoa_nonneg]; unfold dd; rw [if_neg (by omega)]
theorem itoa_negd (u : Nat) (h : 0 < u) : Lib.itoa (-(u : Int)) = 45 :: dd u := by
  rw [Lib.itoa_neg u h]; unfold dd; rw [if_neg (by omega)]
theorem text_ok (n : Int) (h : -2147483648 ≤ n ∧ n ≤ 2147483647) : junctionref1_Text 100 n = some (I n, ()) := by
  unfold junctionref1_Text
  by_cases h0 : n = 0
  · subst h0
    rw [if_pos (by simp)]
    have : I 0 = ByteArray.mk #[(48 : UInt8)] := by
      have : Lib.itoa 0 = [48] := by unfold Lib.itoa; rw [if_neg (by omega), Lib.decDigits, dif_pos (by decide)]; rfl
      unfold I; rw [this]
    rw [this]
  · rw [if_neg (by simpa using h0)]
    have hlt : (2147483648 : Nat) < 10 ^ 99 := by decide
    have loop : ∀ u : Nat, u ≤ 2147483648 → junctionref1_Text.l0 100 100 (u : Int) (ByteArray.mk #[]) = some ((⟨(dd u).toArray⟩, ()), ()) := fun u hu => by
      have := text_loop 100 99 u [] (by omega) hu (by simp)
      rw [List.append_nil] at this
      exact this
    by_cases hn : n < 0
    · obtain ⟨u, rfl⟩ : ∃ u : Nat, n = -(u : Int) := ⟨n.natAbs, by omega⟩
      have hs : junctionref1_size 100 (IntKind.i64.wrap (-(u : Int))) = some ((u : Int), ()) := by
        unfold junctionref1_size
        rw [IntWalk.i64_in _ (by omega), if_pos (by simpa using hn), IntWalk.i64_in _ (by omega)]
        simp
      rw [hs, Option.bind_some]
      simp only
      rw [loop u (by omega), Option.bind_some, if_pos (by simpa using hn)]
      have e : (ByteArray.mk #[(45 : UInt8)]) = ⟨[45].toArray⟩ := rfl
      simp only
      have hd : (dd u).length ≤ 20 := by
        have := Lib.itoa_length_le (-(u : Int)) (by omega) (by omega)
        rw [itoa_negd u (by omega)] at this
        simpa using this
      rw [e, list_size, list_size, small (by simp; omega), app_list]
      unfold I
      rw [itoa_negd u (by omega)]
      rfl
    · obtain ⟨u, rfl⟩ : ∃ u : Nat, n = (u : Int) := ⟨n.toNat, by omega⟩
      have hs : junctionref1_size 100 (IntKind.i64.wrap (u : Int)) = some ((u : Int), ()) := by
        unfold junctionref1_size
        rw [IntWalk.i64_in _ (by omega), if_neg (by simp)]
      rw [hs, Option.bind_some]
      simp only
      rw [loop u (by omega), Option.bind_some, if_neg (by simp)]
      unfold I
      rw [itoa_pos u (by omega)]

/-- What each of the eleven functions does: a digit, and the rest by the one before it. -/
noncomputable def decBody (D : Int → Option (ByteArray × Unit)) (t0 : Int) : Option (ByteArray × Unit) :=
  Option.bind (junctionref14_Decimal_1.l0 100 t0) fun r0 =>
    if Prod.fst (Prod.fst r0) = Bool.true then
      Option.bind (junctionref1_Text 100 (IntKind.wrap IntKind.i32 t0)) fun r1 => Option.some (Prod.fst r1, ())
    else
      Option.bind (junctionref14_Decimal_1.l1 100 (rem t0 (10 : Int))) fun r2 =>
        Option.bind (Option.bind (D (quo IntKind.i64 t0 (10 : Int))) fun r0 => tooLong
        (ByteArray.size (Prod.fst r0) +
          ByteArray.size (strOfNums (List.map (fun x => x) [IntKind.wrap IntKind.u8 (IntKind.wrap IntKind.i64 ((48 : Int) + Prod.fst (Prod.fst r2)))])))
        (Option.some
          ((Prod.fst r0 ++ strOfNums (List.map (fun x => x) [IntKind.wrap IntKind.u8 (IntKind.wrap IntKind.i64 ((48 : Int) + Prod.fst (Prod.fst r2)))]), ()), ()))) fun r3 => Option.some (Prod.fst (Prod.fst r3), ())
theorem itoa_snoc (n : Int) (h : n < -2147483648 ∨ 2147483647 < n) : Lib.itoa n = Lib.itoa (n.tdiv 10) ++ [UInt8.ofNat (48 + n.natAbs % 10)] := by
  rcases h with h | h
  · obtain ⟨u, rfl⟩ : ∃ u : Nat, n = -(u : Int) := ⟨n.natAbs, by omega⟩
    have e : (-(u : Int)).tdiv 10 = -((u / 10 : Nat) : Int) := by rw [Int.neg_tdiv, Int.tdiv_eq_ediv_of_nonneg (by omega)]; omega
    rw [e, itoa_negd u (by omega), itoa_negd _ (by omega), dd_step u (by omega)]
    simp
  · obtain ⟨u, rfl⟩ : ∃ u : Nat, n = (u : Int) := ⟨n.toNat, by omega⟩
    have e : ((u : Int)).tdiv 10 = ((u / 10 : Nat) : Int) := by rw [Int.tdiv_eq_ediv_of_nonneg (by omega)]; omega
    rw [e, itoa_pos u (by omega), itoa_pos _ (by omega), dd_step u (by omega)]
    simp
theorem dec_ok {D : Int → Option (ByteArray × Unit)} {B : Int} (hB : 0 ≤ B) (hD : ∀ n, -9223372036854775808 ≤ n ∧ n ≤ 9223372036854775807 → -B ≤ n ∧ n ≤ B → D n = some (I n, ()))
    (n : Int) (h : -9223372036854775808 ≤ n ∧ n ≤ 9223372036854775807) (hn : (-2147483648 ≤ n ∧ n ≤ 2147483647) ∨ (-(10 * B + 9) ≤ n ∧ n ≤ 10 * B + 9)) : decBody D n = some (I n, ()) := by
  unfold decBody junctionref14_Decimal_1.l0
  by_cases hs : -2147483648 ≤ n ∧ n ≤ 2147483647
  · rw [if_pos (by simpa using hs.1), Option.bind_some, if_pos (by simpa using hs.2), IntWalk.i32_in _ hs, text_ok n hs]
    rfl
  · have hn := hn.resolve_left hs
    have hl0 : (if Decidable.decide (n ≥ (-2147483648 : Int)) = Bool.true then Option.some ((Decidable.decide (n ≤ (2147483647 : Int)), ()), ()) else Option.some ((Bool.false, ()), ()) : Option ((Bool × Unit) × Unit)) = some ((false, ()), ()) := by
      split
      · rename_i h1; rw [show decide (n ≤ 2147483647) = false by simp at h1 ⊢; omega]
      · rfl
    rw [hl0, Option.bind_some, if_neg (by simp)]
    have hl1 : junctionref14_Decimal_1.l1 100 (rem n (10 : Int)) = some ((((n.natAbs % 10 : Nat) : Int), ()), ()) := by
      unfold junctionref14_Decimal_1.l1 rem
      by_cases h0 : n < 0
      · obtain ⟨u, rfl⟩ : ∃ u : Nat, n = -(u : Int) := ⟨n.natAbs, by omega⟩
        have e : (-(u : Int)).tmod 10 = -((u % 10 : Nat) : Int) := by rw [Int.neg_tmod, Int.tmod_eq_emod_of_nonneg (by omega)]; omega
        rw [e]
        have e2 : (-(u : Int)).natAbs = u := by omega
        rw [e2]
        split
        · rw [IntWalk.i64_in _ (by omega)]; simp
        · rename_i hc
          have : u % 10 = 0 := by simp at hc; omega
          rw [this]; rfl
      · obtain ⟨u, rfl⟩ : ∃ u : Nat, n = (u : Int) := ⟨n.toNat, by omega⟩
        have e : ((u : Int)).tmod 10 = ((u % 10 : Nat) : Int) := by rw [Int.tmod_eq_emod_of_nonneg (by omega)]; omega
        rw [e, if_neg (by simp; omega)]
        rfl
    rw [hl1, Option.bind_some]
    have hq : quo IntKind.i64 n 10 = n.tdiv 10 := by unfold quo; rw [IntWalk.i64_quo' _ _ (by omega)]
    have hr : -9223372036854775808 ≤ n.tdiv 10 ∧ n.tdiv 10 ≤ 9223372036854775807 ∧ -B ≤ n.tdiv 10 ∧ n.tdiv 10 ≤ B := by
      by_cases h0 : n < 0
      · obtain ⟨u, rfl⟩ : ∃ u : Nat, n = -(u : Int) := ⟨n.natAbs, by omega⟩
        rw [Int.neg_tdiv, Int.tdiv_eq_ediv_of_nonneg (by omega)]; omega
      · rw [Int.tdiv_eq_ediv_of_nonneg (by omega)]; omega
    rw [hq, hD _ ⟨hr.1, hr.2.1⟩ hr.2.2, Option.bind_some]
    have hsz := I_size (n.tdiv 10) ⟨hr.1, hr.2.1⟩
    simp only
    rw [dig _ (Nat.mod_lt _ (by omega)), num1, small (by have h1 : (⟨#[UInt8.ofNat ((48 + n.natAbs % 10 : Nat) : Int).toNat]⟩ : ByteArray).size = 1 := rfl; omega)]
    simp only [Option.bind_some, Option.some.injEq, Prod.mk.injEq, and_true]
    unfold I
    rw [itoa_snoc n (by omega)]
    have e : (⟨#[UInt8.ofNat ((48 + n.natAbs % 10 : Nat) : Int).toNat]⟩ : ByteArray) = ⟨[UInt8.ofNat (48 + n.natAbs % 10)].toArray⟩ := by rw [Int.toNat_natCast]
    rw [e, app_list]
theorem dec11 (n : Int) (h : -9223372036854775808 ≤ n ∧ n ≤ 9223372036854775807) : junctionref14_Decimal_11 100 n = some (I n, ()) := by
  have d0 : ∀ n, -9223372036854775808 ≤ n ∧ n ≤ 9223372036854775807 → (-2147483648 ≤ n ∧ n ≤ 2147483647) → junctionref14_Decimal_1 100 n = some (I n, ()) := fun n h hn =>
    (show junctionref14_Decimal_1 100 n = decBody (fun _ => none) n by kernel_rfl).trans (by
      unfold decBody junctionref14_Decimal_1.l0
      rw [if_pos (by simpa using hn.1), Option.bind_some, if_pos (by simpa using hn.2), IntWalk.i32_in _ hn, text_ok n hn]
      rfl)
  have d1 : ∀ n, -9223372036854775808 ≤ n ∧ n ≤ 9223372036854775807 → (-2147483647 ≤ n ∧ n ≤ 2147483647) → junctionref14_Decimal_1 100 n = some (I n, ()) := fun n h hn => d0 n h (by omega)
  have d2 := fun n h (hn : -21474836470 ≤ n ∧ n ≤ 21474836470) => (show junctionref14_Decimal_2 100 n = decBody (junctionref14_Decimal_1 100) n by kernel_rfl).trans (dec_ok (by omega) d1 n h (by omega))
  have d3 := fun n h (hn : -214748364700 ≤ n ∧ n ≤ 214748364700) => (show junctionref14_Decimal_3 100 n = decBody (junctionref14_Decimal_2 100) n by kernel_rfl).trans (dec_ok (by omega) d2 n h (by omega))
  have d4 := fun n h (hn : -2147483647000 ≤ n ∧ n ≤ 2147483647000) => (show junctionref14_Decimal_4 100 n = decBody (junctionref14_Decimal_3 100) n by kernel_rfl).trans (dec_ok (by omega) d3 n h (by omega))
  have d5 := fun n h (hn : -21474836470000 ≤ n ∧ n ≤ 21474836470000) => (show junctionref14_Decimal_5 100 n = decBody (junctionref14_Decimal_4 100) n by kernel_rfl).trans (dec_ok (by omega) d4 n h (by omega))
  have d6 := fun n h (hn : -214748364700000 ≤ n ∧ n ≤ 214748364700000) => (show junctionref14_Decimal_6 100 n = decBody (junctionref14_Decimal_5 100) n by kernel_rfl).trans (dec_ok (by omega) d5 n h (by omega))
  have d7 := fun n h (hn : -2147483647000000 ≤ n ∧ n ≤ 2147483647000000) => (show junctionref14_Decimal_7 100 n = decBody (junctionref14_Decimal_6 100) n by kernel_rfl).trans (dec_ok (by omega) d6 n h (by omega))
  have d8 := fun n h (hn : -21474836470000000 ≤ n ∧ n ≤ 21474836470000000) => (show junctionref14_Decimal_8 100 n = decBody (junctionref14_Decimal_7 100) n by kernel_rfl).trans (dec_ok (by omega) d7 n h (by omega))
  have d9 := fun n h (hn : -214748364700000000 ≤ n ∧ n ≤ 214748364700000000) => (show junctionref14_Decimal_9 100 n = decBody (junctionref14_Decimal_8 100) n by kernel_rfl).trans (dec_ok (by omega) d8 n h (by omega))
  have d10 := fun n h (hn : -2147483647000000000 ≤ n ∧ n ≤ 2147483647000000000) => (show junctionref14_Decimal_10 100 n = decBody (junctionref14_Decimal_9 100) n by kernel_rfl).trans (dec_ok (by omega) d9 n h (by omega))
  exact (show junctionref14_Decimal_11 100 n = decBody (junctionref14_Decimal_10 100) n by kernel_rfl).trans (dec_ok (by omega) d10 n h (by omega))
end Go.Am.Tryd
