/- Parts of this work, put into one text: LexW TreeW NestW ExprW ExprX ListW ListX -/
import Derived.Test.YtdgempbldhdihaaDoorVFnWb
import Derived.IntWalk
import Derived.KernelRfl
section
namespace Go.Am.Tryd
open Go.Proofs Go.Am Go.RowKit
set_option maxRecDepth 100000
set_option linter.unusedVariables false

theorem wr_in (x : Int) (h0 : -9223372036854775808 ≤ x) (h1 : x ≤ 9223372036854775807) : IntKind.i64.wrap x = x := IntWalk.i64_in x (by omega)
theorem index_range (c : UInt8) : ∀ (l : List UInt8), -1 ≤ Lib.indexByte l c ∧ (Lib.indexByte l c : Int) < (l.length : Int) + (if l = [] then 0 else 0) ∨ Lib.indexByte l c = -1
  | [] => .inr rfl
  | x :: l => by
    unfold Lib.indexByte
    rcases index_range c l with h | h
    · split
      · left; simp <;> omega
      · split
        · right; rfl
        · left; simp at h ⊢; omega
    · split
      · left; simp <;> omega
      · rw [h]; right; rfl

/-! ### Keywords and signs -/
theorem kind_l0 (K : Nat) (s : ByteArray) : ∀ (j : Nat) (i : Int), lex_kind.l0 K j s tab4 i = junctionref2_KindOf.l0 K j s i
  | 0, i => rfl
  | j + 1, i => by
    rw [lex_kind.l0, junctionref2_KindOf.l0]
    rw [if_pos (show Go.Am.sizeOf? (Go.Am.Ctx.P (lex_kind.x K [])) (9 : Nat) = (1 : Nat) ∧ List.length tab4 = (41 : Nat) from ⟨by rfl, by rfl⟩), kind_l0 K s j]
    rfl
theorem kind_l1 (K : Nat) (s : ByteArray) : ∀ (j : Nat) (i : Int), lex_kind.l1 K j s tab5 i = junctionref2_KindOf.l1 K j s i
  | 0, i => rfl
  | j + 1, i => by
    rw [lex_kind.l1, junctionref2_KindOf.l1]
    rw [if_pos (show Go.Am.sizeOf? (Go.Am.Ctx.P (lex_kind.x K [])) (9 : Nat) = (1 : Nat) ∧ List.length tab5 = (18 : Nat) from ⟨by rfl, by rfl⟩), kind_l1 K s j]
    rfl
theorem kindr_l0 (K : Nat) (s : ByteArray) : ∀ (m x : Nat) (i : Nat), i + m = 41 → (∃ v : Int, 10 ≤ v ∧ junctionref2_KindOf.l0 K (m + x + 1) s (i : Int) = some (.inl ((v, ()), ()))) ∨ junctionref2_KindOf.l0 K (m + x + 1) s (i : Int) = some (.inr ((), ()))
  | 0, x, i, h => by
    right
    rw [junctionref2_KindOf.l0, if_neg (by simp; omega)]
  | m + 1, x, i, h => by
    rw [show m + 1 + x + 1 = m + x + 1 + 1 by omega, junctionref2_KindOf.l0, if_pos (by simp; omega), if_pos (by omega), wr_in ((i : Int) + 1) (by omega) (by omega), wr_in (10 + (i : Int)) (by omega) (by omega), show ((i : Int) + 1) = ((i + 1 : Nat) : Int) by omega]
    split
    · exact .inl ⟨_, by omega, rfl⟩
    · exact kindr_l0 K s m x (i + 1) (by omega)
theorem kindr_l1 (K : Nat) (s : ByteArray) : ∀ (m x : Nat) (i : Nat), i + m = 18 → (∃ v : Int, 10 ≤ v ∧ junctionref2_KindOf.l1 K (m + x + 1) s (i : Int) = some (.inl ((v, ()), ()))) ∨ junctionref2_KindOf.l1 K (m + x + 1) s (i : Int) = some (.inr ((), ()))
  | 0, x, i, h => by
    right
    rw [junctionref2_KindOf.l1, if_neg (by simp; omega)]
  | m + 1, x, i, h => by
    rw [show m + 1 + x + 1 = m + x + 1 + 1 by omega, junctionref2_KindOf.l1, if_pos (by simp; omega), if_pos (by omega), wr_in ((i : Int) + 1) (by omega) (by omega), wr_in (60 + (i : Int)) (by omega) (by omega), show ((i : Int) + 1) = ((i + 1 : Nat) : Int) by omega]
    split
    · exact .inl ⟨_, by omega, rfl⟩
    · exact kindr_l1 K s m x (i + 1) (by omega)

/-! ### Letters, digits, runs -/
def ltrB (c : Int) : Bool := (decide (c ≥ 97) && decide (c ≤ 122)) || (decide (c ≥ 65) && decide (c ≤ 90))
def digB (c : Int) : Bool := decide (c ≥ 48) && decide (c ≤ 57)
theorem letter_ok (K : Nat) (c : Int) : lex_letter K c = some (ltrB c, ()) := by
  unfold lex_letter ltrB
  cases decide (c ≥ 97) <;> cases decide (c ≤ 122) <;> cases decide (c ≥ 65) <;> cases decide (c ≤ 90) <;> rfl
theorem rletter_ok (K : Nat) (c : Int) : junctionref2_letter K c = some (ltrB c, ()) := by
  unfold junctionref2_letter ltrB
  cases decide (c ≥ 97) <;> cases decide (c ≤ 122) <;> cases decide (c ≥ 65) <;> cases decide (c ≤ 90) <;> rfl
theorem digit_ok (K : Nat) (c : Int) : lex_digit K c = some (digB c, ()) := by
  unfold lex_digit digB
  cases decide (c ≥ 48) <;> cases decide (c ≤ 57) <;> rfl
theorem rdigit_ok (K : Nat) (c : Int) : junctionref2_digit K c = some (digB c, ()) := by
  unfold junctionref2_digit digB
  cases decide (c ≥ 48) <;> cases decide (c ≤ 57) <;> rfl
def innB (c : Int) : Bool := ltrB c || digB c || (c == 95)
theorem inner_ok (K : Nat) (c : Int) : lex_inner K c = some (innB c, ()) := by
  unfold lex_inner innB
  rw [letter_ok, Option.bind_some, digit_ok, Option.bind_some]
  cases ltrB c <;> cases digB c <;> cases (c == 95) <;> rfl
theorem rinner_ok (K : Nat) (c : Int) : junctionref2_inRun K c = some (innB c, ()) := by
  unfold junctionref2_inRun innB
  rw [rletter_ok, Option.bind_some, rdigit_ok, Option.bind_some]
  cases ltrB c <;> cases digB c <;> cases (c == 95) <;> rfl
theorem run_eq (K : Nat) (s : ByteArray) : ∀ (j : Nat) (i : Int), lex_run.l1 K j s i = junctionref2_runEnd.l1 K j s i
  | 0, i => rfl
  | j + 1, i => by
    rw [lex_run.l1, junctionref2_runEnd.l1]
    unfold lex_run.l0 junctionref2_runEnd.l0
    rw [inner_ok, rinner_ok]
    simp only [run_eq K s j]
theorem runr (K : Nat) (s : ByteArray) (hs : s.size ≤ 1000000000000000) : ∀ (m x i : Nat), i + m = s.size → ∃ n : Int, junctionref2_runEnd.l1 K (m + x + 1) s (i : Int) = some ((n, ()), ())
  | 0, x, i, h => by
    rw [junctionref2_runEnd.l1]
    unfold junctionref2_runEnd.l0
    rw [if_neg (by simp; omega)]
    exact ⟨_, rfl⟩
  | m + 1, x, i, h => by
    rw [show m + 1 + x + 1 = m + x + 1 + 1 by omega, junctionref2_runEnd.l1]
    unfold junctionref2_runEnd.l0
    rw [if_pos (by simp; omega), if_pos (by omega), rinner_ok, Option.bind_some, wr_in ((i : Int) + 1) (by omega) (by omega), show ((i : Int) + 1) = ((i + 1 : Nat) : Int) by omega]
    cases innB (bt s (i : Int)) with
    | true => simp only [if_true, Option.bind_some, onSum]; exact runr K s hs m x (i + 1) (by omega)
    | false => exact ⟨_, rfl⟩

/-! ### Numbers: an answer of some sort -/
theorem dig2 (K : Nat) (s : ByteArray) (u : Bool) (i : Nat) (h : i < s.size) (hs : s.size ≤ 1000000000000000) : ∃ r, lex_digits.l2 K s u (i : Int) 99 = some r := by
  unfold lex_digits.l2
  rw [if_pos (by omega), digit_ok, Option.bind_some]
  split
  · exact ⟨_, rfl⟩
  · have h0 : ∃ b, lex_digits.l0 K (bt s (i : Int)) = some ((b, ()), ()) := by unfold lex_digits.l0; split <;> exact ⟨_, rfl⟩
    have h1 : ∃ b, lex_digits.l1 K (bt s (i : Int)) = some ((b, ()), ()) := by unfold lex_digits.l1; split <;> exact ⟨_, rfl⟩
    obtain ⟨b0, h0⟩ := h0
    obtain ⟨b1, h1⟩ := h1
    rw [h0, Option.bind_some]
    split
    · exact ⟨_, rfl⟩
    · rw [h1, Option.bind_some]
      split
      · exact ⟨_, rfl⟩
      · split
        · split
          · split
            · rename_i _ _ hi
              simp only [decide_eq_true_eq] at hi
              split
              · rw [if_pos (by rw [wr_in _ (by omega) (by omega)]; omega)]
                split <;> exact ⟨_, rfl⟩
              · exact ⟨_, rfl⟩
            · exact ⟨_, rfl⟩
          · exact ⟨_, rfl⟩
        · exact ⟨_, rfl⟩
theorem dig4 (K : Nat) (s : ByteArray) (base : Int) (u : Bool) (hs : s.size ≤ 1000000000000000) : ∀ (m x : Nat) (v : Int) (i : Nat), i + m = s.size → ∃ r, lex_digits.l4 K (m + x + 1) s base u v (i : Int) = some r
  | 0, x, v, i, h => by
    rw [lex_digits.l4, if_neg (by simp; omega)]
    exact ⟨_, rfl⟩
  | m + 1, x, v, i, h => by
    rw [show m + 1 + x + 1 = m + x + 1 + 1 by omega, lex_digits.l4, if_pos (by simp; omega)]
    unfold lex_digits.l3
    obtain ⟨r, hr⟩ := dig2 K s u i (by omega) hs
    rw [hr, Option.bind_some, wr_in ((i : Int) + 1) (by omega) (by omega), show ((i : Int) + 1) = ((i + 1 : Nat) : Int) by omega]
    cases r with
    | inl r =>
      simp only [onSum]
      split
      · exact ⟨_, rfl⟩
      · exact dig4 K s base u hs m x _ (i + 1) (by omega)
    | inr r => exact dig4 K s base u hs m x _ (i + 1) (by omega)
theorem digits_ok (K : Nat) (s : ByteArray) (base : Int) (u : Bool) (hs : s.size ≤ 1000000000000000) (hK : s.size < K) : ∃ a b, lex_digits K s base u = some ((a, b, ()), ()) := by
  unfold lex_digits
  obtain ⟨r, hr⟩ := dig4 K s base u hs s.size (K - s.size - 1) 0 0 (by omega)
  rw [show s.size + (K - s.size - 1) + 1 = K by omega] at hr
  rw [show ((0 : Int)) = ((0 : Nat) : Int) from rfl] at *
  rw [hr, Option.bind_some]
  cases r <;> exact ⟨_, _, rfl⟩
theorem value_ok (K : Nat) (c b : Int) : ∃ v, junctionref2_value K c b = some (v, ()) := by
  unfold junctionref2_value
  rw [rdigit_ok, Option.bind_some]
  split
  · exact ⟨_, rfl⟩
  · have h0 : ∃ x, junctionref2_value.l0 K c b = some ((x, ()), ()) := by
      unfold junctionref2_value.l0
      (repeat' split) <;> exact ⟨_, rfl⟩
    have h1 : ∃ x, junctionref2_value.l1 K c b = some ((x, ()), ()) := by
      unfold junctionref2_value.l1
      (repeat' split) <;> exact ⟨_, rfl⟩
    obtain ⟨b0, h0⟩ := h0
    obtain ⟨b1, h1⟩ := h1
    rw [h0, Option.bind_some, h1, Option.bind_some]
    repeat' split
    all_goals exact ⟨_, rfl⟩
theorem rdig0 (K : Nat) (s : ByteArray) (base : Int) (u : Bool) (v : Int) (i : Nat) (h : i < s.size) (hs : s.size ≤ 1000000000000000) : ∃ r, junctionref2_digits.l0 K s base u v (i : Int) = some r := by
  unfold junctionref2_digits.l0
  rw [if_pos (by omega)]
  obtain ⟨w, hw⟩ := value_ok K (bt s (i : Int)) base
  split
  · split
    · split
      · rename_i hi
        split
        · have : ¬ (i : Int) = 0 := by simpa using hi
          rw [if_pos (by rw [wr_in _ (by omega) (by omega)]; omega)]
          split <;> exact ⟨_, rfl⟩
        · exact ⟨_, rfl⟩
      · exact ⟨_, rfl⟩
    · exact ⟨_, rfl⟩
  · rw [if_pos (by omega), hw, Option.bind_some]
    repeat' split
    all_goals exact ⟨_, rfl⟩
theorem rdig1 (K : Nat) (s : ByteArray) (base : Int) (u : Bool) (hs : s.size ≤ 1000000000000000) : ∀ (m x : Nat) (v : Int) (i : Nat), i + m = s.size → ∃ r, junctionref2_digits.l1 K (m + x + 1) s base u v (i : Int) = some r
  | 0, x, v, i, h => by
    rw [junctionref2_digits.l1, if_neg (by simp; omega)]
    exact ⟨_, rfl⟩
  | m + 1, x, v, i, h => by
    rw [show m + 1 + x + 1 = m + x + 1 + 1 by omega, junctionref2_digits.l1, if_pos (by simp; omega)]
    obtain ⟨r, hr⟩ := rdig0 K s base u v i (by omega) hs
    rw [hr, Option.bind_some, wr_in ((i : Int) + 1) (by omega) (by omega), show ((i : Int) + 1) = ((i + 1 : Nat) : Int) by omega]
    cases r with
    | inl r => exact ⟨_, rfl⟩
    | inr r => exact rdig1 K s base u hs m x _ (i + 1) (by omega)
theorem rdigits_ok (K : Nat) (s : ByteArray) (base : Int) (u : Bool) (hs : s.size ≤ 1000000000000000) (hK : s.size < K) : ∃ a b, junctionref2_digits K s base u = some ((a, b, ()), ()) := by
  unfold junctionref2_digits
  obtain ⟨r, hr⟩ := rdig1 K s base u hs s.size (K - s.size - 1) 0 0 (by omega)
  rw [show s.size + (K - s.size - 1) + 1 = K by omega] at hr
  rw [show ((0 : Int)) = ((0 : Nat) : Int) from rfl] at *
  rw [hr, Option.bind_some]
  cases r <;> exact ⟨_, _, rfl⟩
theorem prefix_ok (K : Nat) (s p : ByteArray) : ∃ a b, strings_CutPrefix K s p = some ((a, b, ()), ()) ∧ a.size ≤ s.size := by
  unfold strings_CutPrefix stringslite_CutPrefix stringslite_HasPrefix
  split
  · rename_i h
    simp only [decide_eq_true_eq] at h
    rw [if_pos (by omega), Option.bind_some]
    split
    · exact ⟨_, _, rfl, Nat.le_refl _⟩
    · rw [if_pos (by omega)]
      exact ⟨_, _, rfl, by rw [ByteArray.size_extract]; omega⟩
  · exact ⟨_, _, rfl, Nat.le_refl _⟩
theorem cut_ok' (K : Nat) (s : ByteArray) (c : UInt8) (hs : s.size ≤ 1000000000000000) : ∃ a b d, strings_Cut K s ⟨#[c]⟩ = some ((a, b, d, ()), ()) ∧ a.size ≤ s.size ∧ b.size ≤ s.size := by
  unfold strings_Cut stringslite_Cut stringslite_Index
  have hr := index_range c s.data.toList
  have hl : (s.data.toList.length : Int) = (s.size : Int) := rfl
  simp only [Option.bind_some]
  have hsz : ByteArray.size ⟨#[c]⟩ = 1 := rfl
  rw [hsz]
  split
  · rename_i h
    simp only [decide_eq_true_eq] at h
    have hlt : Lib.indexByte s.data.toList c < (s.size : Int) := by
      rcases hr with hr | hr
      · have := hr.2; rw [hl] at this; split at this <;> omega
      · omega
    rw [if_pos (by omega), if_pos (by rw [wr_in _ (by omega) (by omega)]; omega)]
    exact ⟨_, _, _, rfl, by rw [ByteArray.size_extract]; omega, by rw [ByteArray.size_extract]; omega⟩
  · exact ⟨_, _, _, rfl, Nat.le_refl _, Nat.zero_le _⟩
theorem dur_ok (K : Nat) : ∀ (m x : Nat) (s : ByteArray) (v : Int) (any : Bool) (i : Nat), i + m = 3 → s.size ≤ 1000000000000000 → s.size < K →
    ∃ r, lex_duration.l0 K (m + x + 1) s v any ⟨#[104]⟩ 3600 ⟨#[109]⟩ 60 ⟨#[115]⟩ 1 (i : Int) = some r
  | 0, x, s, v, any, i, h, hs, hK => by
    rw [lex_duration.l0, if_neg (by simp; omega)]
    exact ⟨_, rfl⟩
  | m + 1, x, s, v, any, i, h, hs, hK => by
    rw [show m + 1 + x + 1 = m + x + 1 + 1 by omega, lex_duration.l0, if_pos (by simp; omega), wr_in ((i : Int) + 1) (by omega) (by omega), show ((i : Int) + 1) = ((i + 1 : Nat) : Int) by omega]
    have step : ∀ (c : UInt8) (w : Int), ∃ r, (Option.bind (strings_Cut K s ⟨#[c]⟩) fun r0 =>
        if (!Prod.fst (Prod.snd (Prod.snd (Prod.fst r0)))) = Bool.true then
          lex_duration.l0 K (m + x + 1) s v any ⟨#[104]⟩ 3600 ⟨#[109]⟩ 60 ⟨#[115]⟩ 1 ((i + 1 : Nat) : Int)
        else
          Option.bind (lex_digits K (Prod.fst (Prod.fst r0)) (10 : Int) Bool.false) fun r1 =>
            if (!Prod.fst (Prod.snd (Prod.fst r1))) = Bool.true then some (Sum.inl (((0 : Int), Bool.false, ()), ()))
            else
              lex_duration.l0 K (m + x + 1) (Prod.fst (Prod.snd (Prod.fst r0))) (IntKind.wrap IntKind.i64 (v + IntKind.wrap IntKind.i64 (Prod.fst (Prod.fst r1) * w)))
                Bool.true ⟨#[104]⟩ 3600 ⟨#[109]⟩ 60 ⟨#[115]⟩ 1 ((i + 1 : Nat) : Int)) = some r := by
      intro c w
      obtain ⟨a, b, d, h1, h2, h3⟩ := cut_ok' K s c hs
      rw [h1, Option.bind_some]
      split
      · exact dur_ok K m x s v any (i + 1) (by omega) hs hK
      · obtain ⟨n, ok, h4⟩ := digits_ok K a 10 false (by omega) (by omega)
        simp only
        rw [h4, Option.bind_some]
        split
        · exact ⟨_, rfl⟩
        · exact dur_ok K m x b _ true (i + 1) (by omega) (by omega) (by omega)
    split
    · exact step 104 3600
    · split
      · exact step 109 60
      · split
        · exact step 115 1
        · omega
theorem duration_ok (K : Nat) (s : ByteArray) (hs : s.size ≤ 1000000000000000) (hK : s.size + 10 < K) : ∃ a b, lex_duration K s = some ((a, b, ()), ()) := by
  unfold lex_duration
  obtain ⟨r, hr⟩ := dur_ok K 3 (K - 4) s 0 false 0 rfl hs (by omega)
  rw [show 3 + (K - 4) + 1 = K by omega] at hr
  rw [show ((0 : Nat) : Int) = 0 from rfl] at hr
  rw [hr, Option.bind_some]
  cases r with
  | inl r => exact ⟨_, _, rfl⟩
  | inr r => simp only [onSum]; split <;> exact ⟨_, _, rfl⟩
theorem number_ok (K : Nat) (s : ByteArray) (hs : s.size ≤ 1000000000000000) (hK : s.size + 10 < K) : ∃ a b, lex_Number K s = some ((a, b, ()), ()) := by
  unfold lex_Number
  obtain ⟨n, ok, h1⟩ := digits_ok K s 10 true hs (by omega)
  rw [h1, Option.bind_some]
  have h2 : ∃ a b, lex_Number.l0 K s n ok = some ((a, b, ()), ()) := by
    unfold lex_Number.l0
    split
    · obtain ⟨a, b, h3, h4⟩ := prefix_ok K s ⟨#[48, 120]⟩
      rw [h3, Option.bind_some]
      split
      · obtain ⟨n, ok, h5⟩ := digits_ok K a 16 true (by omega) (by omega)
        simp only
        rw [h5]
        exact ⟨_, _, rfl⟩
      · obtain ⟨n, ok, h5⟩ := duration_ok K s hs hK
        rw [h5]
        exact ⟨_, _, rfl⟩
    · exact ⟨_, _, rfl⟩
  obtain ⟨a, b, h2⟩ := h2
  simp only
  rw [h2, Option.bind_some]
  repeat' split
  all_goals exact ⟨_, _, rfl⟩
/-! ### The document's numbers -/
theorem rd1 (K : Nat) (s : ByteArray) (hs : s.size ≤ 1000000000000000) : ∀ (m x i : Nat), i + m = s.size → ∃ n : Nat, i ≤ n ∧ n ≤ s.size ∧ junctionref2_duration.l1 K (m + x + 1) s (i : Int) = some (((n : Int), ()), ())
  | 0, x, i, h => by
    rw [junctionref2_duration.l1]
    unfold junctionref2_duration.l0
    rw [if_neg (by simp; omega)]
    exact ⟨i, Nat.le_refl _, by omega, rfl⟩
  | m + 1, x, i, h => by
    rw [show m + 1 + x + 1 = m + x + 1 + 1 by omega, junctionref2_duration.l1]
    unfold junctionref2_duration.l0
    rw [if_pos (by simp; omega), if_pos (by omega), rdigit_ok, Option.bind_some, wr_in ((i : Int) + 1) (by omega) (by omega), show ((i : Int) + 1) = ((i + 1 : Nat) : Int) by omega]
    cases digB (bt s (i : Int)) with
    | true =>
      simp only [if_true, Option.bind_some, onSum]
      obtain ⟨n, h1, h2, h3⟩ := rd1 K s hs m x (i + 1) (by omega)
      exact ⟨n, by omega, h2, h3⟩
    | false => exact ⟨i, Nat.le_refl _, by omega, rfl⟩
theorem rd4 (K : Nat) (s : ByteArray) (hs : s.size ≤ 1000000000000000) (hK : s.size + 10 < K) (v : Int) (at_ i : Nat) (ha : at_ ≤ s.size) (hi : i < 3) (a b c : Int) :
    ∃ (v' : Int) (at' : Nat) (a' b' c' : Int), at' ≤ s.size ∧ junctionref2_duration.l4 K s ⟨#[104, 109, 115]⟩ v (at_ : Int) (i : Int) a b c = some (((), v', (at' : Int), ()), (a', b', c', ()), ()) := by
  unfold junctionref2_duration.l4
  obtain ⟨n, h1, h2, h3⟩ := rd1 K s hs (s.size - at_) (K - (s.size - at_) - 1) at_ (by omega)
  rw [show s.size - at_ + (K - (s.size - at_) - 1) + 1 = K by omega] at h3
  rw [h3, Option.bind_some]
  have h4 : ∃ x, junctionref2_duration.l2 K s ⟨#[104, 109, 115]⟩ (at_ : Int) (i : Int) (n : Int) = some ((x, ()), ()) ∧ (x = true → n < s.size) := by
    unfold junctionref2_duration.l2
    have hsz : ByteArray.size ⟨#[104, 109, 115]⟩ = 3 := rfl
    split
    · split
      · rename_i _ hn
        simp only [decide_eq_true_eq] at hn
        rw [if_pos (by omega), if_pos (by rw [hsz]; omega)]
        exact ⟨_, rfl, fun _ => by omega⟩
      · exact ⟨_, rfl, fun h => by cases h⟩
    · exact ⟨_, rfl, fun h => by cases h⟩
  obtain ⟨x, h4, h5⟩ := h4
  have l3 : ∀ z, ∃ y, junctionref2_duration.l3 K z = some ((y, ()), ()) := fun z => by unfold junctionref2_duration.l3; split <;> exact ⟨_, rfl⟩
  simp only
  rw [h4, Option.bind_some]
  cases x with
  | false => exact ⟨v, at_, a, b, c, ha, rfl⟩
  | true =>
    simp only [if_true]
    have h6 := h5 rfl
    rw [if_pos (by omega)]
    obtain ⟨d, ok, h7⟩ := rdigits_ok K (s.extract (Int.toNat (at_ : Int)) (Int.toNat (n : Int))) 10 false (by rw [ByteArray.size_extract]; omega) (by rw [ByteArray.size_extract]; omega)
    rw [h7, Option.bind_some, wr_in ((n : Int) + 1) (by omega) (by omega), show ((n : Int) + 1) = ((n + 1 : Nat) : Int) by omega]
    split
    · obtain ⟨y, hy⟩ := l3 (IntKind.wrap IntKind.i64 (v + IntKind.wrap IntKind.i64 (d * a)))
      simp only
      rw [hy]
      exact ⟨y, n + 1, a, b, c, by omega, rfl⟩
    · split
      · obtain ⟨y, hy⟩ := l3 (IntKind.wrap IntKind.i64 (v + IntKind.wrap IntKind.i64 (d * b)))
        simp only
        rw [hy]
        exact ⟨y, n + 1, a, b, c, by omega, rfl⟩
      · split
        · obtain ⟨y, hy⟩ := l3 (IntKind.wrap IntKind.i64 (v + IntKind.wrap IntKind.i64 (d * c)))
          simp only
          rw [hy]
          exact ⟨y, n + 1, a, b, c, by omega, rfl⟩
        · omega
theorem rd5 (K : Nat) (s : ByteArray) (hs : s.size ≤ 1000000000000000) (hK : s.size + 10 < K) : ∀ (m x : Nat) (v : Int) (at_ i : Nat) (a b c : Int), i + m = 3 → at_ ≤ s.size →
    ∃ (p q a' b' c' : Int), junctionref2_duration.l5 K (m + x + 1) s ⟨#[104, 109, 115]⟩ v (at_ : Int) (i : Int) a b c = some ((p, q, ()), (a', b', c', ()), ())
  | 0, x, v, at_, i, a, b, c, h, ha => by
    rw [junctionref2_duration.l5, if_neg (by simp; omega)]
    exact ⟨_, _, _, _, _, rfl⟩
  | m + 1, x, v, at_, i, a, b, c, h, ha => by
    rw [show m + 1 + x + 1 = m + x + 1 + 1 by omega, junctionref2_duration.l5, if_pos (by simp; omega), wr_in ((i : Int) + 1) (by omega) (by omega), show ((i : Int) + 1) = ((i + 1 : Nat) : Int) by omega]
    obtain ⟨v', at', a', b', c', h1, h2⟩ := rd4 K s hs hK v at_ i ha (by omega) a b c
    rw [h2, Option.bind_some]
    exact rd5 K s hs hK m x v' at' (i + 1) a' b' c' (by omega) h1
theorem rduration_ok (K : Nat) (s : ByteArray) (hs : s.size ≤ 1000000000000000) (hK : s.size + 10 < K) : ∃ a b, junctionref2_duration K s = some ((a, b, ()), ()) := by
  unfold junctionref2_duration
  obtain ⟨p, q, a, b, c, hr⟩ := rd5 K s hs hK 3 (K - 4) 0 0 0 3600 60 1 rfl (by omega)
  rw [show 3 + (K - 4) + 1 = K by omega] at hr
  rw [show ((0 : Nat) : Int) = 0 from rfl] at hr
  rw [hr, Option.bind_some]
  split <;> exact ⟨_, _, rfl⟩
theorem rnumber_ok (K : Nat) (s : ByteArray) (hs : s.size ≤ 1000000000000000) (hK : s.size + 10 < K) : ∃ a b, junctionref2_Number K s = some ((a, b, ()), ()) := by
  unfold junctionref2_Number
  obtain ⟨n, ok, h1⟩ := rdigits_ok K s 10 true hs (by omega)
  rw [h1, Option.bind_some]
  have h2 : ∃ a b, junctionref2_Number.l1 K s n ok = some ((a, b, ()), ()) := by
    unfold junctionref2_Number.l1
    have h0 : ∃ x, junctionref2_Number.l0 K s ok = some ((x, ()), ()) ∧ (x = true → 2 < s.size) := by
      unfold junctionref2_Number.l0
      split
      · split
        · rename_i _ hn
          simp only [decide_eq_true_eq] at hn
          rw [if_pos (by omega)]
          split
          · rw [if_pos (by omega)]
            exact ⟨_, rfl, fun _ => by omega⟩
          · exact ⟨_, rfl, fun h => by cases h⟩
        · exact ⟨_, rfl, fun h => by cases h⟩
      · exact ⟨_, rfl, fun h => by cases h⟩
    obtain ⟨x, h0, h3⟩ := h0
    rw [h0, Option.bind_some]
    cases x with
    | false => exact ⟨_, _, rfl⟩
    | true =>
      have := h3 rfl
      simp only [if_true]
      rw [if_pos (by omega)]
      obtain ⟨d, ok, h7⟩ := rdigits_ok K (s.extract (Int.toNat 2) s.size) 16 true (by rw [ByteArray.size_extract]; omega) (by rw [ByteArray.size_extract]; omega)
      rw [h7]
      exact ⟨_, _, rfl⟩
  obtain ⟨a, b, h2⟩ := h2
  simp only
  rw [h2, Option.bind_some]
  have h4 : ∃ c d, junctionref2_Number.l2 K s a b = some ((c, d, ()), ()) := by
    unfold junctionref2_Number.l2
    split
    · obtain ⟨n, ok, h5⟩ := rduration_ok K s hs hK
      rw [h5]
      exact ⟨_, _, rfl⟩
    · exact ⟨_, _, rfl⟩
  obtain ⟨c, d, h4⟩ := h4
  simp only
  rw [h4, Option.bind_some]
  repeat' split
  all_goals exact ⟨_, _, rfl⟩

/-! ### The kinds -/
/-- **A text is a name for both or for neither.** -/
theorem kind_same (K : Nat) (s : ByteArray) (hs : s.size ≤ 1000000000000000) (hK : s.size + 100 < K) : ∃ a b : Int, lex_KindOf K s = some (a, ()) ∧ junctionref2_KindOf K s = some (b, ()) ∧ (a = 1 ↔ b = 1) := by
  unfold lex_KindOf junctionref2_KindOf lex_kind
  rw [kind_l0, kind_l1]
  have k0 := kindr_l0 K s 41 (K - 42) 0 rfl
  rw [show 41 + (K - 42) + 1 = K by omega, show ((0 : Nat) : Int) = 0 from rfl] at k0
  have k1 := kindr_l1 K s 18 (K - 19) 0 rfl
  rw [show 18 + (K - 19) + 1 = K by omega, show ((0 : Nat) : Int) = 0 from rfl] at k1
  rcases k0 with ⟨v, hv, k0⟩ | k0
  · rw [k0]
    refine ⟨v, v, ?_, rfl, Iff.rfl⟩
    simp only [Option.bind_some, onSum]
    rw [if_pos (by simp; omega)]
  rw [k0]
  rcases k1 with ⟨v, hv, k1⟩ | k1
  · rw [k1]
    refine ⟨v, v, ?_, rfl, Iff.rfl⟩
    simp only [Option.bind_some, onSum]
    rw [if_pos (by simp; omega)]
  rw [k1]
  simp only [Option.bind_some, onSum]
  rw [if_neg (by simp)]
  unfold junctionref2_KindOf.l2
  have hemp : (s.toList == ByteArray.toList (ByteArray.mk #[])) = decide (s.size = 0) := by
    have e1 : ∀ b : ByteArray, b.toList = b.data.toList := fun b => by obtain ⟨⟨l⟩⟩ := b; simp
    rw [e1, e1]
    obtain ⟨⟨l⟩⟩ := s
    cases l <;> simp [ByteArray.size]
  rw [hemp]
  by_cases h0 : s.size = 0
  · rw [decide_eq_true h0]
    exact ⟨-1, -1, rfl, rfl, Iff.rfl⟩
  rw [decide_eq_false h0]
  simp only [Bool.false_eq_true, if_false, if_true]
  obtain ⟨n, hn⟩ := runr K s hs s.size (K - s.size - 1) 0 (by omega)
  rw [show s.size + (K - s.size - 1) + 1 = K by omega, show ((0 : Nat) : Int) = 0 from rfl] at hn
  unfold lex_KindOf.l0
  rw [if_pos (by omega), letter_ok, Option.bind_some]
  unfold lex_run junctionref2_runEnd
  rw [run_eq, hn]
  simp only [Option.bind_some]
  obtain ⟨c, d, h1⟩ := number_ok K s hs (by omega)
  obtain ⟨c', d', h2⟩ := rnumber_ok K s hs (by omega)
  rw [h1, h2, rletter_ok]
  cases hL : ltrB (bt s 0) <;> by_cases hn : n = (s.size : Int) <;> by_cases hz : (s.size : Int) ≤ 32
  all_goals have hp : 0 < s.size := by omega
  all_goals simp [hn, hz, h0, hp]
  all_goals try (first | omega | (split <;> split <;> first | omega | simp) | (split <;> first | omega | simp))
end Go.Am.Tryd
end

section
namespace Go.Am.Tryd
open Go.Proofs Go.Am Go.RowKit
set_option maxRecDepth 100000
set_option linter.unusedVariables false

abbrev Nd := Am.Tryd.S120
abbrev nd0 : Nd := S120.mk 0 0 ByteArray.empty 0 0
def ar (op : Int) : Int := if 1 ≤ op ∧ op ≤ 10 then 0 else if 20 ≤ op ∧ op ≤ 22 then 1 else if 30 ≤ op ∧ op ≤ 36 then 2 else if 40 ≤ op ∧ op ≤ 45 then 2 else if op = 50 then 2 else if op = 51 then 2 else -1
theorem ar_le (op : Int) : ar op ≤ 2 ∧ -1 ≤ ar op := by
  unfold ar
  (repeat' split) <;> omega
theorem boolAnd (a b : Prop) [Decidable a] [Decidable b] {α : Type} (f : Bool → α) : (if decide a = true then f (decide b) else f false) = f (decide (a ∧ b)) := by
  by_cases h : a
  · by_cases h' : b <;> simp [h, h']
  · simp [h]
theorem rarity_ok (K : Nat) (op : Int) : junctionref3_Arity K op = some (ar op, ()) := by
  unfold junctionref3_Arity junctionref3_Arity.l0 junctionref3_Arity.l1 junctionref3_Arity.l2 junctionref3_Arity.l3 ar
  have b : ∀ (x y : Int), (if decide (op ≥ x) = true then (some ((decide (op ≤ y), ()), ()) : Option ((Bool × Unit) × Unit)) else some ((false, ()), ())) = some ((decide (op ≥ x ∧ op ≤ y), ()), ()) := fun x y => boolAnd (op ≥ x) (op ≤ y) (fun q => (some ((q, ()), ()) : Option ((Bool × Unit) × Unit)))
  rw [b, b, b, b]
  simp only [Option.bind_some, decide_eq_true_eq, beq_iff_eq, ge_iff_le]
  (repeat' split) <;> first | rfl | omega
theorem tab6_ar : ∀ n : Fin 52, (if tab6.getD n.val 0 > 0 then tab6.getD n.val 0 else if 1 ≤ (n.val : Int) ∧ (n.val : Int) ≤ 10 then 0 else -1) = ar (n.val : Int) := by decide
theorem arity_ok (K : Nat) (op : Int) : arith_Arity K op = some (ar op, ()) := by
  unfold arith_Arity arith_Arity.l0 arith_Arity.l1
  have b : ∀ (x y : Int), (if decide (op ≥ x) = true then (some ((decide (op ≤ y), ()), ()) : Option ((Bool × Unit) × Unit)) else some ((false, ()), ())) = some ((decide (op ≥ x ∧ op ≤ y), ()), ()) := fun x y => boolAnd (op ≥ x) (op ≤ y) (fun q => (some ((q, ()), ()) : Option ((Bool × Unit) × Unit)))
  rw [b]
  simp only [Option.bind_some, decide_eq_true_eq, ge_iff_le]
  by_cases h1 : 1 ≤ op ∧ op ≤ 10
  · rw [if_pos h1]
    unfold ar
    rw [if_pos h1]
  · rw [if_neg h1]
    by_cases h2 : 0 ≤ op ∧ op < 52
    · rw [if_pos h2.1, if_pos h2.2, if_pos (by omega)]
      obtain ⟨n, hn⟩ := Int.eq_ofNat_of_zero_le h2.1
      have hn2 : op = (n : Int) := hn
      subst hn2
      have := tab6_ar ⟨n, by omega⟩
      simp only at this
      rw [if_neg h1] at this
      simp only [Option.bind_some, decide_eq_true_eq, Int.toNat_natCast]
      rw [if_pos (show 0 ≤ (n : Int) ∧ (n : Int) < ((52 : Nat) : Int) by omega)]
      rw [← this]
      split <;> rfl
    · have : ar op = -1 := by
        unfold ar
        (repeat' split) <;> omega
      rw [this]
      (repeat' split) <;> first | rfl | omega | (rename_i h; simp at h; omega) | (simp; omega)

/-! ### Where an expression begins -/
def spF : List Nd → Int → Int
  | [], _ => -1
  | x :: r, w => if ar x.f0 < 0 then -1 else if w + (ar x.f0 - 1) = 0 then (r.length : Int) else spF r (w + (ar x.f0 - 1))
theorem take_last {α : Type} (l : List α) (d : α) (i : Nat) (h : i < l.length) : (l.take (i + 1)).reverse = l.getD i d :: (l.take i).reverse := by
  rw [List.take_add_one, List.getElem?_eq_getElem h, List.getD_eq_getElem?_getD, List.getElem?_eq_getElem h]
  simp
theorem span_loop (K : Nat) (e : List Nd) (he : e.length ≤ 5000000000000) : ∀ (i x : Nat) (w : Int), i ≤ e.length → 1 ≤ w → w + (i : Int) ≤ 1000000000000000 →
    (tree_Span.l1 K (i + x + 1) e w ((i : Int) - 1) = some (.inl ((spF (e.take i).reverse w, ()), ())) ∧ junctionref3_Span.l1 K (i + x + 1) e w ((i : Int) - 1) = some (.inl ((spF (e.take i).reverse w, ()), ()))) ∨
    (tree_Span.l1 K (i + x + 1) e w ((i : Int) - 1) = some (.inr ((), ())) ∧ junctionref3_Span.l1 K (i + x + 1) e w ((i : Int) - 1) = some (.inr ((), ())) ∧ spF (e.take i).reverse w = -1)
  | 0, x, w, hi, h1, h2 => by
    rw [tree_Span.l1, junctionref3_Span.l1, if_neg (by simp)]
    exact .inr ⟨rfl, rfl, rfl⟩
  | i + 1, x, w, hi, h1, h2 => by
    rw [show i + 1 + x + 1 = i + x + 1 + 1 by omega, tree_Span.l1, junctionref3_Span.l1, show ((i + 1 : Nat) : Int) - 1 = (i : Int) by omega]
    have p1 : decide ((i : Int) ≥ 0) = true := decide_eq_true (by omega)
    have p2 : (0 : Int) ≤ (i : Int) ∧ (i : Int) < (e.length : Int) := by omega
    rw [if_pos p1, if_pos p1, if_pos p2, if_pos p2, arity_ok, rarity_ok]
    simp only [Option.bind_some, Int.toNat_natCast]
    rw [take_last e nd0 i (by omega)]
    unfold spF
    have hb := ar_le (e.getD i nd0).f0
    generalize ar (e.getD i nd0).f0 = a at *
    rw [wr_in (a - 1) (by omega) (by omega), wr_in (w - 1) (by omega) (by omega), wr_in (w + (a - 1)) (by omega) (by omega), show w - 1 + a = w + (a - 1) by omega, wr_in (w + (a - 1)) (by omega) (by omega), wr_in ((i : Int) - 1) (by omega) (by omega)]
    simp only [decide_eq_true_eq, beq_iff_eq]
    by_cases c1 : a < 0
    · left
      simp [c1]
    · simp only [c1, if_false]
      by_cases c2 : w + (a - 1) = 0
      · left
        simp [c2]
        omega
      · simp only [c2, if_false]
        exact span_loop K e he i x (w + (a - 1)) (by omega) (by omega) (by omega)
theorem spans_ok (K : Nat) (e : List Nd) (he : e.length ≤ 5000000000000) (hK : e.length < K) :
    tree_Span K e (IntKind.i64.wrap ((e.length : Int) - 1)) = some (spF e.reverse 1, ()) ∧ junctionref3_Span K e (IntKind.i64.wrap ((e.length : Int) - 1)) = some (spF e.reverse 1, ()) := by
  rw [wr_in _ (by omega) (by omega)]
  unfold tree_Span junctionref3_Span tree_Span.l0 junctionref3_Span.l0
  by_cases h0 : e.length = 0
  · have : e = [] := List.length_eq_zero_iff.1 h0
    subst this
    exact ⟨rfl, rfl⟩
  rw [if_pos (show decide ((e.length : Int) - 1 < 0) = false from decide_eq_false (by omega)), if_neg (show ¬ decide ((e.length : Int) - 1 ≥ (e.length : Int)) = true by simp; omega)]
  simp only [Option.bind_some, onSum]
  have h := span_loop K e he e.length (K - e.length - 1) 1 (Nat.le_refl _) (by omega) (by omega)
  rw [show e.length + (K - e.length - 1) + 1 = K by omega, List.take_length] at h
  rcases h with ⟨h1, h2⟩ | ⟨h1, h2, h3⟩
  · rw [h1, h2]
    exact ⟨rfl, rfl⟩
  · rw [h1, h2, h3]
    exact ⟨rfl, rfl⟩

/-! ### One expression: the stack never runs dry -/
def fwd : Int → List Nd → Bool
  | h, [] => decide (h = 1)
  | h, x :: r => decide (0 ≤ ar x.f0 ∧ ar x.f0 ≤ h) && fwd (h - ar x.f0 + 1) r
/-- Heights of a list, end to end. -/
def hgt : List Nd → Int
  | [] => 0
  | x :: r => 1 - ar x.f0 + hgt r
theorem hgt_append (a b : List Nd) : hgt (a ++ b) = hgt a + hgt b := by
  induction a with
  | nil => simp [hgt]
  | cons x a ih => simp only [List.cons_append, hgt, ih]; omega
/-- From the right: at each place what is wanted stays above 0, and it is 0 at the begin. -/
theorem sp_back : ∀ (l : List Nd) (w : Int), spF l w = 0 → 1 ≤ w → (∀ p s : List Nd, l = p ++ s → p ≠ [] → s ≠ [] → 1 ≤ w - hgt p) ∧ (w - hgt l = 0) ∧ (∀ x ∈ l, 0 ≤ ar x.f0)
  | [], w, h, hw => by unfold spF at h; cases h
  | x :: r, w, h, hw => by
    unfold spF at h
    split at h
    · cases h
    rename_i h1
    split at h
    · rename_i h2
      have hr : r = [] := List.length_eq_zero_iff.1 (by omega)
      subst hr
      refine ⟨fun p s e h3 h4 => ?_, by unfold hgt hgt; omega, fun y hy => by simp at hy; subst hy; omega⟩
      cases p with
      | nil => exact absurd rfl h3
      | cons y p =>
        simp only [List.cons_append, List.cons.injEq] at e
        have := e.2.symm
        simp at this
        exact absurd this.2 h4
    · rename_i h2
      have hw' : 1 ≤ w + (ar x.f0 - 1) := by omega
      obtain ⟨k1, k2, k3⟩ := sp_back r _ h hw'
      refine ⟨fun p s e h3 h4 => ?_, by unfold hgt; omega, fun y hy => by
        rcases List.mem_cons.1 hy with rfl | hy
        · omega
        · exact k3 y hy⟩
      cases p with
      | nil => exact absurd rfl h3
      | cons y p =>
        simp only [List.cons_append, List.cons.injEq] at e
        obtain ⟨rfl, e⟩ := e
        unfold hgt
        cases p with
        | nil => simp [hgt]; omega
        | cons z p =>
          have := k1 (z :: p) s e (by simp) h4
          omega
theorem hgt_reverse (l : List Nd) : hgt l.reverse = hgt l := by
  induction l with
  | nil => rfl
  | cons x l ih => rw [List.reverse_cons, hgt_append, ih]; simp only [hgt]; omega
theorem fwd_of (e : List Nd) (h : spF e.reverse 1 = 0) : fwd 0 e = true := by
  obtain ⟨k1, k2, k3⟩ := sp_back e.reverse 1 h (by omega)
  rw [hgt_reverse] at k2
  have main : ∀ (r p : List Nd), e = p ++ r → fwd (hgt p) r = true := by
    intro r
    induction r with
    | nil =>
      intro p hp
      rw [List.append_nil] at hp
      subst hp
      unfold fwd
      simp; omega
    | cons x r ih =>
      intro p hp
      unfold fwd
      have h1 : 0 ≤ ar x.f0 := k3 x (by rw [hp]; simp)
      have hstep : hgt (p ++ [x]) = hgt p - ar x.f0 + 1 := by rw [hgt_append]; simp only [hgt]; omega
      have h2 : 1 ≤ hgt (p ++ [x]) := by
        by_cases hr : r = []
        · subst hr
          rw [← hp]; omega
        · have := k1 r.reverse (p ++ [x]).reverse (by rw [← List.reverse_append, hp]; simp) (by simp [hr]) (by simp)
          rw [hgt_reverse] at this
          have e2 : hgt e = hgt (p ++ [x]) + hgt r := by rw [← hgt_append, hp]; simp
          omega
      rw [show hgt p - ar x.f0 + 1 = hgt (p ++ [x]) from hstep.symm, ih (p ++ [x]) (by rw [hp]; simp)]
      simp; omega
  have := main e [] rfl
  exact this
end Go.Am.Tryd
end

section
namespace Go.Am.Tryd
open Go.Proofs Go.Am Go.RowKit
set_option maxRecDepth 100000
set_option linter.unusedVariables false

abbrev Dp := Am.Tryd.S195
abbrev dp0 : Dp := S195.mk 0 0
/-! ### How tightly an operator holds, what it asks -/
def lv (op : Int) : Int := if op = 51 then 1 else if op = 50 then 2 else if op = 21 then 3 else if 40 ≤ op ∧ op ≤ 45 then 4 else if op = 30 ∨ op = 31 then 5 else if op = 32 ∨ op = 33 ∨ op = 34 then 6 else if op = 20 then 7 else 8
theorem lv_range (op : Int) : 1 ≤ lv op ∧ lv op ≤ 8 := by
  unfold lv
  (repeat' split) <;> omega
theorem level_ok (K : Nat) (op : Int) : tree_level K op = some (lv op, ()) := by
  unfold tree_level
  have l0 : tree_level.l0 K op = some ((decide (40 ≤ op ∧ op ≤ 45), ()), ()) := by
    unfold tree_level.l0
    by_cases h : op ≥ 40 <;> simp [h] <;> omega
  have l1 : tree_level.l1 K op = some ((decide (op = 30 ∨ op = 31), ()), ()) := by
    unfold tree_level.l1
    by_cases h : op = 30 <;> simp [h]
    by_cases h' : op = 31 <;> simp [h']
  have l2 : tree_level.l2 K op = some ((decide (op = 32 ∨ op = 33 ∨ op = 34), ()), ()) := by
    unfold tree_level.l2
    by_cases h : op = 32 <;> simp [h]
    by_cases h' : op = 33 <;> simp [h']
    by_cases h'' : op = 34 <;> simp [h'']
  rw [l0, l1, l2]
  unfold lv
  simp only [Option.bind_some, decide_eq_true_eq, beq_iff_eq]
  (repeat' split) <;> first | rfl | omega
theorem rlevel_ok (K : Nat) (op : Int) : junctionref3_Level K op = some (lv op, ()) := by
  unfold junctionref3_Level
  have l0 : junctionref3_Level.l0 K op = some ((decide (40 ≤ op ∧ op ≤ 45), ()), ()) := by
    unfold junctionref3_Level.l0
    by_cases h : 40 ≤ op ∧ op ≤ 45
    · have : op = 40 ∨ op = 41 ∨ op = 42 ∨ op = 43 ∨ op = 44 ∨ op = 45 := by omega
      rcases this with rfl | rfl | rfl | rfl | rfl | rfl <;> rfl
    · have e : ∀ n : Int, 40 ≤ n → n ≤ 45 → (op == n) = false := fun n a b => by simp; omega
      rw [e 40 (by omega) (by omega), e 41 (by omega) (by omega), e 42 (by omega) (by omega), e 43 (by omega) (by omega), e 44 (by omega) (by omega), e 45 (by omega) (by omega), decide_eq_false h]
      rfl
  have l1 : junctionref3_Level.l1 K op = some ((decide (op = 30 ∨ op = 31), ()), ()) := by
    unfold junctionref3_Level.l1
    by_cases h : op = 30 <;> simp [h]
    by_cases h' : op = 31 <;> simp [h']
  have l2 : junctionref3_Level.l2 K op = some ((decide (op = 32 ∨ op = 33 ∨ op = 34), ()), ()) := by
    unfold junctionref3_Level.l2
    by_cases h : op = 32 <;> simp [h]
    by_cases h' : op = 33 <;> simp [h']
    by_cases h'' : op = 34 <;> simp [h'']
  rw [l0, l1, l2]
  unfold lv
  simp only [Option.bind_some, decide_eq_true_eq, beq_iff_eq]
  (repeat' split) <;> first | rfl | omega
/-- What an operator asks of its operands. -/
def ask (op : Int) : Int × Int := if op = 51 then (1, 2) else if op = 50 then (2, 3) else if op = 21 then (3, 3) else if 40 ≤ op ∧ op ≤ 45 then (5, 5) else if op = 30 ∨ op = 31 then (5, 6) else if op = 32 ∨ op = 33 ∨ op = 34 then (6, 7) else if op = 20 then (7, 7) else (1, 1)
theorem rasked_ok (K : Nat) (op : Int) : junctionref3_Asked K op = some (((ask op).1, (ask op).2, ()), ()) := by
  unfold junctionref3_Asked
  have l0 : junctionref3_Asked.l0 K op = some ((decide (40 ≤ op ∧ op ≤ 45), ()), ()) := by
    unfold junctionref3_Asked.l0
    by_cases h : 40 ≤ op ∧ op ≤ 45
    · have : op = 40 ∨ op = 41 ∨ op = 42 ∨ op = 43 ∨ op = 44 ∨ op = 45 := by omega
      rcases this with rfl | rfl | rfl | rfl | rfl | rfl <;> rfl
    · have e : ∀ n : Int, 40 ≤ n → n ≤ 45 → (op == n) = false := fun n a b => by simp; omega
      rw [e 40 (by omega) (by omega), e 41 (by omega) (by omega), e 42 (by omega) (by omega), e 43 (by omega) (by omega), e 44 (by omega) (by omega), e 45 (by omega) (by omega), decide_eq_false h]
      rfl
  have l1 : junctionref3_Asked.l1 K op = some ((decide (op = 30 ∨ op = 31), ()), ()) := by
    unfold junctionref3_Asked.l1
    by_cases h : op = 30 <;> simp [h]
    by_cases h' : op = 31 <;> simp [h']
  have l2 : junctionref3_Asked.l2 K op = some ((decide (op = 32 ∨ op = 33 ∨ op = 34), ()), ()) := by
    unfold junctionref3_Asked.l2
    by_cases h : op = 32 <;> simp [h]
    by_cases h' : op = 33 <;> simp [h']
    by_cases h'' : op = 34 <;> simp [h'']
  rw [l0, l1, l2]
  unfold ask
  simp only [Option.bind_some, decide_eq_true_eq, beq_iff_eq]
  (repeat' split) <;> first | rfl | omega
theorem asks_ok (K : Nat) (op : Int) : ∃ p q : Int, tree_asks K op = some ((p, q, ()), ()) ∧ (1 ≤ ar op → p = (ask op).1) ∧ (ar op = 2 → q = (ask op).2) := by
  unfold tree_asks tree_asks.l2
  have l0 : tree_asks.l0 K op = some ((decide (op = 21 ∨ op = 20), ()), ()) := by
    unfold tree_asks.l0
    by_cases h : op = 21 <;> simp [h]
    by_cases h' : op = 20 <;> simp [h']
  have l1 : tree_asks.l1 K op = some ((decide (40 ≤ op ∧ op ≤ 45), ()), ()) := by
    unfold tree_asks.l1
    by_cases h : op ≥ 40 <;> simp [h] <;> omega
  have hl := lv_range op
  rw [l0, l1, level_ok]
  simp only [Option.bind_some, decide_eq_true_eq, beq_iff_eq]
  rw [wr_in (lv op + 1) (by omega) (by omega)]
  by_cases h1 : op = 21 ∨ op = 20
  · rw [if_pos h1]
    refine ⟨_, _, rfl, fun _ => ?_, fun h => ?_⟩
    · unfold ask lv
      rcases h1 with rfl | rfl <;> rfl
    · unfold ar at h
      rcases h1 with rfl | rfl <;> simp at h
  rw [if_neg h1]
  by_cases h2 : 40 ≤ op ∧ op ≤ 45
  · rw [if_pos h2]
    have : ask op = (5, 5) := by
      unfold ask
      rw [if_neg (by omega), if_neg (by omega), if_neg (by omega), if_pos h2]
    exact ⟨_, _, rfl, fun _ => by rw [this], fun _ => by rw [this]⟩
  rw [if_neg h2]
  by_cases h3 : op = 22
  · subst h3
    exact ⟨_, _, rfl, fun _ => rfl, fun h => by simp [ar] at h⟩
  by_cases h4 : op = 35
  · subst h4
    exact ⟨_, _, rfl, fun _ => rfl, fun _ => rfl⟩
  by_cases h5 : op = 36
  · subst h5
    exact ⟨_, _, rfl, fun _ => rfl, fun _ => rfl⟩
  simp only [beq_eq_false_iff_ne, ne_eq, h3, h4, h5, not_false_eq_true, if_true, if_false, onSum]
  refine ⟨_, _, rfl, fun h => ?_, fun h => ?_⟩ <;>
  · unfold ask lv
    unfold ar at h
    (repeat' split) <;> first | rfl | (exfalso; split at h <;> omega) | omega

/-! ### The stack -/
def adj (w : Int) (o : Dp) : Int := if lv o.f0 < w then o.f1 + 1 else o.f1
def inn (op : Int) (st : List Dp) : Int :=
  if ar op = 0 then 0
  else if ar op = 1 then max 0 (adj (ask op).1 (st.getD (st.length - 1) dp0))
  else max (max 0 (adj (ask op).1 (st.getD (st.length - 2) dp0))) (adj (ask op).2 (st.getD (st.length - 1) dp0))
def pre (op : Int) : Bool := decide (op = 20 ∨ op = 21 ∨ op = 22 ∨ op = 35 ∨ op = 36)
def nst : List Dp → List Nd → List Dp
  | st, [] => st
  | st, x :: r => nst (st.take (st.length - (ar x.f0).toNat) ++ [⟨x.f0, if pre x.f0 then inn x.f0 st + 1 else inn x.f0 st⟩]) r
theorem adj_range (w : Int) (o : Dp) (n : Int) (h : 0 ≤ o.f1 ∧ o.f1 ≤ n) : 0 ≤ adj w o ∧ adj w o ≤ n + 1 := by
  unfold adj
  split <;> omega
theorem inn_range (op : Int) (st : List Dp) (n : Int) (h : ∀ o ∈ st, 0 ≤ o.f1 ∧ o.f1 ≤ n) (h0 : 0 ≤ ar op) (h1 : ar op ≤ (st.length : Int)) (hn : 0 ≤ n) : 0 ≤ inn op st ∧ inn op st ≤ n + 1 := by
  have hg : ∀ i, i < st.length → 0 ≤ (st.getD i dp0).f1 ∧ (st.getD i dp0).f1 ≤ n := fun i hi => by
    rw [List.getD_eq_getElem?_getD, List.getElem?_eq_getElem hi]
    exact h _ (List.getElem_mem hi)
  have hb := ar_le op
  unfold inn
  split
  · omega
  · split
    · have := adj_range (ask op).1 _ n (hg (st.length - 1) (by omega))
      omega
    · have a := adj_range (ask op).1 _ n (hg (st.length - 2) (by omega))
      have b := adj_range (ask op).2 _ n (hg (st.length - 1) (by omega))
      omega
theorem nest_in (K : Nat) (i : Nat) (nest : Int) (p q op : Int) (n : Int) (hi : i < 2) (hn : -1000 ≤ n ∧ n ≤ 1000000000000000) :
    tree_Nest.l0 K (i : Int) n p q op nest = some (((), if lv op < (if i = 0 then p else q) then n + 1 else n, ()), (p, q, ()), (op, nest, ()), ()) := by
  unfold tree_Nest.l0
  rw [level_ok, Option.bind_some, wr_in (n + 1) (by omega) (by omega)]
  simp only [decide_eq_true_eq]
  match i, hi with
  | 0, _ =>
    rw [if_pos (by rfl)]
    simp only [if_true]
    split <;> rfl
  | 1, _ =>
    rw [if_neg (by simp), if_pos (by rfl)]
    simp only [Nat.one_ne_zero, if_false]
    split <;> rfl
theorem nest_l1' (K J : Nat) (st : List Dp) (op p q lo a : Int) (B : Int) (hB : B ≤ 1000000000000) (hst : ∀ o ∈ st, 0 ≤ o.f1 ∧ o.f1 ≤ B) (hlo : lo = (st.length : Int) - a) (h0 : 0 ≤ a) (h2 : a ≤ 2) (ha : a ≤ (st.length : Int)) :
    tree_Nest.l1 K (J + 3) lo a 0 st op 0 p q = some (((), (), ()), st, (op, (if a = 0 then 0 else if a = 1 then max 0 (adj p (st.getD (st.length - 1) dp0)) else max (max 0 (adj p (st.getD (st.length - 2) dp0))) (adj q (st.getD (st.length - 1) dp0))), ()), (p, q, ()), ()) := by
  have hg : ∀ i, i < st.length → 0 ≤ (st.getD i dp0).f1 ∧ (st.getD i dp0).f1 ≤ B := fun i hi => by
    rw [List.getD_eq_getElem?_getD, List.getElem?_eq_getElem hi]
    exact hst _ (List.getElem_mem hi)
  have stop : ∀ (j : Nat) (t : Int) (n : Int), a ≤ t → tree_Nest.l1 K (j + 1) lo a t st op n p q = some (((), (), ()), st, (op, n, ()), (p, q, ()), ()) := fun j t n h => by
    rw [tree_Nest.l1, if_neg (by simp; omega)]
  have go : ∀ (j : Nat) (t : Nat) (n : Int), (t : Int) < a → tree_Nest.l1 K (j + 1) lo a (t : Int) st op n p q = tree_Nest.l1 K j lo a ((t + 1 : Nat) : Int) st op (max n (adj (if t = 0 then p else q) (st.getD (lo + (t : Int)).toNat dp0))) p q := fun j t n h => by
    rw [tree_Nest.l1, if_pos (by simp; omega), if_pos (by omega)]
    have : 0 ≤ (st.getD (lo + (t : Int)).toNat (S195.mk 0 0)).f1 ∧ (st.getD (lo + (t : Int)).toNat (S195.mk 0 0)).f1 ≤ B := hg _ (by omega)
    rw [nest_in K t _ p q _ _ (by omega) (by constructor <;> omega), Option.bind_some, wr_in ((t : Int) + 1) (by omega) (by omega), show ((t : Int) + 1) = ((t + 1 : Nat) : Int) by omega]
    rfl
  by_cases c0 : a = 0
  · subst c0
    rw [show (J + 3 : Nat) = J + 2 + 1 by omega, stop _ _ _ (by omega)]
    rfl
  have g0 := go (J + 2) 0 0 (by omega)
  rw [show ((0 : Nat) : Int) = 0 from rfl] at g0
  rw [show (J + 3 : Nat) = J + 2 + 1 by omega, g0]
  by_cases c1 : a = 1
  · subst c1
    rw [show (J + 2 : Nat) = J + 1 + 1 by omega, stop _ _ _ (by omega), if_neg c0, if_pos rfl]
    rw [show (lo + 0).toNat = st.length - 1 by omega]
    rfl
  · have c2 : a = 2 := by omega
    subst c2
    rw [show (J + 2 : Nat) = J + 1 + 1 by omega, go (J + 1) 1 _ (by omega), stop _ _ _ (by omega), if_neg c0, if_neg c1]
    rw [show (lo + 0).toNat = st.length - 2 by omega, show (lo + ((1 : Nat) : Int)).toNat = st.length - 1 by omega]
    rfl
theorem nest_l1 (K : Nat) (st : List Dp) (op p q lo a : Int) (B : Int) (hB : B ≤ 1000000000000) (hst : ∀ o ∈ st, 0 ≤ o.f1 ∧ o.f1 ≤ B) (hlo : lo = (st.length : Int) - a) (h0 : 0 ≤ a) (h2 : a ≤ 2) (ha : a ≤ (st.length : Int)) (hK : 10 ≤ K) :
    tree_Nest.l1 K K lo a 0 st op 0 p q = some (((), (), ()), st, (op, (if a = 0 then 0 else if a = 1 then max 0 (adj p (st.getD (st.length - 1) dp0)) else max (max 0 (adj p (st.getD (st.length - 2) dp0))) (adj q (st.getD (st.length - 1) dp0))), ()), (p, q, ()), ()) := by
  have := nest_l1' K (K - 3) st op p q lo a B hB hst hlo h0 h2 ha
  rwa [show K - 3 + 3 = K by omega] at this
theorem nest_l3 (K : Nat) (x : Nd) (n : Int) (hn : 0 ≤ n ∧ n ≤ 1000000000000) : tree_Nest.l3 K x.f0 x.f1 x.f2 x.f3 x.f4 x.f0 n = some (((), ()), (x.f0, x.f1, x.f2, x.f3, x.f4, ()), (x.f0, if pre x.f0 then n + 1 else n, ()), ()) := by
  unfold tree_Nest.l3
  have : tree_Nest.l2 K x.f0 = some ((pre x.f0, ()), ()) := by
    unfold tree_Nest.l2 pre
    simp only [beq_iff_eq]
    by_cases h36 : x.f0 = 36 <;> (repeat' split) <;> simp [*]
  rw [this, Option.bind_some, wr_in (n + 1) (by omega) (by omega)]
  cases pre x.f0 <;> rfl
theorem nest_l4 (K : Nat) (e : List Nd) (he : e.length ≤ 1000000) (hK : 10 ≤ K) : ∀ (r : List Nd) (x i : Nat) (st : List Dp), e.drop i = r → i + r.length = e.length → fwd (st.length : Int) r = true → st.length ≤ i → (∀ o ∈ st, 0 ≤ o.f1 ∧ o.f1 ≤ 2 * (i : Int)) →
    tree_Nest.l4 K (r.length + x + 1) e (e.length : Int) (i : Int) st = some (((), ()), nst st r, ())
  | [], x, i, st, hd, hi, hf, hs, hst => by
    rw [tree_Nest.l4, if_neg (by simp at hi; simp; omega)]
    rfl
  | y :: r, x, i, st, hd, hi, hf, hs, hst => by
    have hlt : i < e.length := by simp at hi; omega
    have hy : e.getD i nd0 = y := by
      have := congrArg List.head? hd
      rw [List.head?_drop] at this
      rw [List.getD_eq_getElem?_getD, this]; rfl
    have hd' : e.drop (i + 1) = r := by rw [← List.drop_drop, hd]; rfl
    unfold fwd at hf
    simp only [Bool.and_eq_true, decide_eq_true_eq] at hf
    obtain ⟨⟨a0, a1⟩, hf⟩ := hf
    have a2 := (ar_le y.f0).1
    rw [show (y :: r).length + x + 1 = r.length + x + 1 + 1 by simp; omega, tree_Nest.l4, if_pos (by simp; omega), if_pos (by omega)]
    simp only [Int.toNat_natCast]
    rw [hy, arity_ok, Option.bind_some]
    obtain ⟨p, q, hpq, hp, hq⟩ := asks_ok K y.f0
    rw [hpq, Option.bind_some]
    simp only
    rw [wr_in ((st.length : Int) - ar y.f0) (by omega) (by omega)]
    rw [if_pos (show 0 ≤ (st.length : Int) - ar y.f0 ∧ (st.length : Int) - ar y.f0 ≤ (st.length : Int) by omega)]
    rw [show (st.length : Int) - ((st.length : Int) - ar y.f0) = ar y.f0 by omega, nest_l1 K st y.f0 p q _ (ar y.f0) (2 * (i : Int)) (by omega) hst rfl a0 a2 a1 hK, Option.bind_some]
    simp only
    rw [wr_in ((st.length : Int) - ar y.f0) (by omega) (by omega), if_pos (show 0 ≤ (st.length : Int) - ar y.f0 ∧ (st.length : Int) - ar y.f0 ≤ (st.length : Int) by omega)]
    have hin : (if ar y.f0 = 0 then 0 else if ar y.f0 = 1 then max 0 (adj p (st.getD (st.length - 1) dp0)) else max (max 0 (adj p (st.getD (st.length - 2) dp0))) (adj q (st.getD (st.length - 1) dp0))) = inn y.f0 st := by
      unfold inn
      split
      · rfl
      · rw [hp (by omega)]
        split
        · rfl
        · rw [hq (by omega)]
    rw [hin]
    have hr := inn_range y.f0 st (2 * (i : Int)) hst a0 a1 (by omega)
    rw [nest_l3 K y _ (by omega), Option.bind_some]
    simp only
    rw [wr_in ((i : Int) + 1) (by omega) (by omega), show ((i : Int) + 1) = ((i + 1 : Nat) : Int) by omega, show ((st.length : Int) - ar y.f0).toNat = st.length - (ar y.f0).toNat by omega]
    rw [room_pos (by unfold capBytes; simp only [List.length_take, List.length_cons, List.length_nil]; omega)]
    rw [nest_l4 K e he hK r x (i + 1) _ hd' (by simp at hi; omega) (by
      simp only [List.length_append, List.length_take, List.length_cons, List.length_nil]
      rw [show ((min (st.length - (ar y.f0).toNat) st.length + (0 + 1) : Nat) : Int) = (st.length : Int) - ar y.f0 + 1 by omega]
      exact hf) (by simp only [List.length_append, List.length_take, List.length_cons, List.length_nil]; omega) (fun o ho => by
      rcases List.mem_append.1 ho with ho | ho
      · have := hst o (List.mem_of_mem_take ho)
        omega
      · obtain rfl := List.mem_singleton.1 ho
        simp only
        split <;> omega)]
    rfl
theorem nst_len : ∀ (r : List Nd) (st : List Dp), fwd (st.length : Int) r = true → (nst st r).length = 1
  | [], st, h => by
    unfold fwd at h
    simp only [decide_eq_true_eq] at h
    unfold nst
    omega
  | x :: r, st, h => by
    unfold fwd at h
    simp only [Bool.and_eq_true, decide_eq_true_eq] at h
    unfold nst
    refine nst_len r _ ?_
    simp only [List.length_append, List.length_take, List.length_cons, List.length_nil]
    rw [show ((min (st.length - (ar x.f0).toNat) st.length + (0 + 1) : Nat) : Int) = (st.length : Int) - ar x.f0 + 1 by omega]
    exact h.2
/-- The nest of a list of nodes. -/
def nestF (e : List Nd) : Int := if spF e.reverse 1 = 0 then ((nst [] e).getD 0 dp0).f1 else -1
theorem nest_ok (K : Nat) (e : List Nd) (he : e.length ≤ 1000000) (hK : e.length + 20 ≤ K) : tree_Nest K e = some (nestF e, ()) := by
  unfold tree_Nest nestF
  rw [(spans_ok K e (by omega) (by omega)).1, Option.bind_some]
  by_cases h : spF e.reverse 1 = 0
  · rw [if_neg (by simp [h]), if_pos h]
    have hf := fwd_of e h
    have h4 := nest_l4 K e he (by omega) e (K - e.length - 1) 0 [] rfl (by omega) hf (Nat.le_refl _) (fun o ho => by simp at ho)
    rw [show e.length + (K - e.length - 1) + 1 = K by omega, show ((0 : Nat) : Int) = 0 from rfl] at h4
    rw [h4, Option.bind_some]
    have hl := nst_len e [] hf
    rw [if_pos (by simp only; omega)]
    rfl
  · rw [if_pos (by simpa using h), if_neg h]

/-! ### The document's -/
theorem rnest_l2 (K : Nat) (st : List Dp) (p q : Int) (own a : Int) (t : Nat) (B : Int) (hB : B ≤ 1000000000000) (hst : ∀ o ∈ st, 0 ≤ o.f1 ∧ o.f1 ≤ B) (ha : a ≤ (st.length : Int)) (h2 : a ≤ 2) (ht : (t : Int) < a) (hl : st.length ≤ 1000000000) :
    junctionref3_Nest.l2 K a p q own (t : Int) (st.map S195.f1) (st.map S195.f0) = some ((max own (adj (if t = 0 then p else q) (st.getD (st.length - a.toNat + t) dp0)), (), (), ()), st.map S195.f1, st.map S195.f0, ()) := by
  unfold junctionref3_Nest.l2
  have hw : junctionref3_Nest.l0 K q (t : Int) p = some (((if t = 0 then p else q), ()), ()) := by
    unfold junctionref3_Nest.l0
    match t, (show t < 2 by omega) with
    | 0, _ => rfl
    | 1, _ => rfl
  have hlt : st.length - a.toNat + t < st.length := by omega
  rw [hw, Option.bind_some]
  simp only [List.length_map]
  rw [wr_in ((st.length : Int) - a) (by omega) (by omega), wr_in ((st.length : Int) - a + (t : Int)) (by omega) (by omega), show (st.length : Int) - a + (t : Int) = ((st.length - a.toNat + t : Nat) : Int) by omega]
  rw [if_pos (by omega)]
  unfold junctionref3_Nest.l1
  simp only [List.length_map, Int.toNat_natCast]
  rw [if_pos (by omega), rlevel_ok, Option.bind_some]
  have e0 : (st.map S195.f0).getD (st.length - a.toNat + t) 0 = (st.getD (st.length - a.toNat + t) dp0).f0 := by
    simp only [List.getD_eq_getElem?_getD, List.getElem?_map, List.getElem?_eq_getElem hlt]; rfl
  have e1 : (st.map S195.f1).getD (st.length - a.toNat + t) 0 = (st.getD (st.length - a.toNat + t) dp0).f1 := by
    simp only [List.getD_eq_getElem?_getD, List.getElem?_map, List.getElem?_eq_getElem hlt]; rfl
  rw [e0, e1]
  have hb : 0 ≤ (st.getD (st.length - a.toNat + t) dp0).f1 ∧ (st.getD (st.length - a.toNat + t) dp0).f1 ≤ B := by
    rw [List.getD_eq_getElem?_getD, List.getElem?_eq_getElem hlt]
    exact hst _ (List.getElem_mem hlt)
  generalize st.getD (st.length - a.toNat + t) dp0 = o at *
  rw [wr_in (o.f1 + 1) (by omega) (by omega)]
  unfold adj
  simp only [decide_eq_true_eq]
  by_cases h1 : lv o.f0 < (if t = 0 then p else q)
  · simp only [h1, if_true, Option.bind_some]
    by_cases h2 : o.f1 + 1 > own
    · rw [if_pos h2, show max own (o.f1 + 1) = o.f1 + 1 by omega]
    · rw [if_neg h2, show max own (o.f1 + 1) = own by omega]
  · simp only [h1, if_false, Option.bind_some]
    by_cases h2 : o.f1 > own
    · rw [if_pos h2, show max own o.f1 = o.f1 by omega]
    · rw [if_neg h2, show max own o.f1 = own by omega]
theorem rnest_l3' (K J : Nat) (st : List Dp) (p q a : Int) (B : Int) (hB : B ≤ 1000000000000) (hst : ∀ o ∈ st, 0 ≤ o.f1 ∧ o.f1 ≤ B) (h0 : 0 ≤ a) (h2 : a ≤ 2) (ha : a ≤ (st.length : Int)) (hl : st.length ≤ 1000000000) :
    junctionref3_Nest.l3 K (J + 3) a p q 0 0 (st.map S195.f1) (st.map S195.f0) = some (((), (), (if a = 0 then 0 else if a = 1 then max 0 (adj p (st.getD (st.length - 1) dp0)) else max (max 0 (adj p (st.getD (st.length - 2) dp0))) (adj q (st.getD (st.length - 1) dp0))), ()), st.map S195.f1, st.map S195.f0, ()) := by
  have stop : ∀ (j : Nat) (t : Int) (n : Int), a ≤ t → junctionref3_Nest.l3 K (j + 1) a p q n t (st.map S195.f1) (st.map S195.f0) = some (((), (), n, ()), st.map S195.f1, st.map S195.f0, ()) := fun j t n h => by
    rw [junctionref3_Nest.l3, if_neg (by simp; omega)]
  have go : ∀ (j : Nat) (t : Nat) (n : Int), (t : Int) < a → junctionref3_Nest.l3 K (j + 1) a p q n (t : Int) (st.map S195.f1) (st.map S195.f0) = junctionref3_Nest.l3 K j a p q (max n (adj (if t = 0 then p else q) (st.getD (st.length - a.toNat + t) dp0))) ((t + 1 : Nat) : Int) (st.map S195.f1) (st.map S195.f0) := fun j t n h => by
    rw [junctionref3_Nest.l3, if_pos (by simp; omega), rnest_l2 K st p q n a t B hB hst ha h2 h hl, Option.bind_some, wr_in ((t : Int) + 1) (by omega) (by omega), show ((t : Int) + 1) = ((t + 1 : Nat) : Int) by omega]
  by_cases c0 : a = 0
  · subst c0
    rw [show (J + 3 : Nat) = J + 2 + 1 by omega, stop _ _ _ (by omega)]
    rfl
  have g0 := go (J + 2) 0 0 (by omega)
  rw [show ((0 : Nat) : Int) = 0 from rfl] at g0
  rw [show (J + 3 : Nat) = J + 2 + 1 by omega, g0]
  by_cases c1 : a = 1
  · subst c1
    rw [show (J + 2 : Nat) = J + 1 + 1 by omega, stop _ _ _ (by omega), if_neg c0, if_pos rfl]
    rfl
  · have c2 : a = 2 := by omega
    subst c2
    rw [show (J + 2 : Nat) = J + 1 + 1 by omega, go (J + 1) 1 _ (by omega), stop _ _ _ (by omega), if_neg c0, if_neg c1]
    rw [show st.length - (2 : Int).toNat + 0 = st.length - 2 by simp, show st.length - (2 : Int).toNat + 1 = st.length - 1 by simp; omega]
    rfl
theorem rnest_l6 (K : Nat) (e : List Nd) (he : e.length ≤ 1000000) (hK : 10 ≤ K) : ∀ (r : List Nd) (x i : Nat) (st : List Dp), e.drop i = r → i + r.length = e.length → fwd (st.length : Int) r = true → st.length ≤ i → (∀ o ∈ st, 0 ≤ o.f1 ∧ o.f1 ≤ 2 * (i : Int)) →
    junctionref3_Nest.l6 K (r.length + x + 1) e (i : Int) (st.map S195.f1) (st.map S195.f0) = some (((), ()), (nst st r).map S195.f1, (nst st r).map S195.f0, ())
  | [], x, i, st, hd, hi, hf, hs, hst => by
    rw [junctionref3_Nest.l6, if_neg (by simp at hi; simp; omega)]
    rfl
  | y :: r, x, i, st, hd, hi, hf, hs, hst => by
    have hlt : i < e.length := by simp at hi; omega
    have hy : e.getD i nd0 = y := by
      have := congrArg List.head? hd
      rw [List.head?_drop] at this
      rw [List.getD_eq_getElem?_getD, this]; rfl
    have hd' : e.drop (i + 1) = r := by rw [← List.drop_drop, hd]; rfl
    unfold fwd at hf
    simp only [Bool.and_eq_true, decide_eq_true_eq] at hf
    obtain ⟨⟨a0, a1⟩, hf⟩ := hf
    have a2 := (ar_le y.f0).1
    rw [show (y :: r).length + x + 1 = r.length + x + 1 + 1 by simp; omega, junctionref3_Nest.l6, if_pos (by simp; omega), if_pos (by omega)]
    simp only [Int.toNat_natCast]
    rw [hy, rarity_ok, Option.bind_some, rasked_ok, Option.bind_some]
    simp only
    have l3 := rnest_l3' K (K - 3) st (ask y.f0).1 (ask y.f0).2 (ar y.f0) (2 * (i : Int)) (by omega) hst a0 a2 a1 (by omega)
    rw [show K - 3 + 3 = K by omega] at l3
    rw [l3, Option.bind_some]
    change (Option.bind (junctionref3_Nest.l5 K y.f0 (inn y.f0 st)) _) = _
    have hr := inn_range y.f0 st (2 * (i : Int)) hst a0 a1 (by omega)
    have l5 : junctionref3_Nest.l5 K y.f0 (inn y.f0 st) = some (((if pre y.f0 then inn y.f0 st + 1 else inn y.f0 st), ()), ()) := by
      unfold junctionref3_Nest.l5
      have : junctionref3_Nest.l4 K y.f0 = some ((pre y.f0, ()), ()) := by
        unfold junctionref3_Nest.l4 pre
        by_cases h1 : y.f0 = 35
        · simp [h1]
        · by_cases h2 : y.f0 = 36
          · simp [h2]
          · have e1 : (y.f0 == 35) = false := by simpa using h1
            have e2 : (y.f0 == 36) = false := by simpa using h2
            rw [e1, e2]
            by_cases h3 : 20 ≤ y.f0 ∧ y.f0 ≤ 22
            · have : y.f0 = 20 ∨ y.f0 = 21 ∨ y.f0 = 22 := by omega
              rcases this with h | h | h <;> rw [h] <;> rfl
            · rw [decide_eq_false (show ¬ (y.f0 = 20 ∨ y.f0 = 21 ∨ y.f0 = 22 ∨ y.f0 = 35 ∨ y.f0 = 36) by omega)]
              by_cases h4 : y.f0 ≥ 20
              · rw [if_pos (by simpa using h4), if_pos (by simp; omega), if_pos rfl]
              · rw [if_neg (by simpa using h4), if_pos rfl]
      rw [this, Option.bind_some, wr_in (inn y.f0 st + 1) (by omega) (by omega)]
      cases pre y.f0 <;> rfl
    rw [l5, Option.bind_some]
    simp only [List.length_map]
    rw [wr_in ((st.length : Int) - ar y.f0) (by omega) (by omega), wr_in ((i : Int) + 1) (by omega) (by omega), show ((i : Int) + 1) = ((i + 1 : Nat) : Int) by omega]
    have hc : 0 ≤ (st.length : Int) - ar y.f0 ∧ (st.length : Int) - ar y.f0 ≤ (st.length : Int) := by omega
    rw [if_pos hc, show ((st.length : Int) - ar y.f0).toNat = st.length - (ar y.f0).toNat by omega]
    rw [room_pos (by unfold capBytes; simp only [List.length_take, List.length_cons, List.length_nil, List.length_map]; omega), if_pos hc, room_pos (by unfold capBytes; simp only [List.length_take, List.length_cons, List.length_nil, List.length_map]; omega)]
    rw [← List.map_take, ← List.map_take]
    have ih := rnest_l6 K e he hK r x (i + 1) (st.take (st.length - (ar y.f0).toNat) ++ [⟨y.f0, if pre y.f0 then inn y.f0 st + 1 else inn y.f0 st⟩]) hd' (by simp at hi; omega) (by
      simp only [List.length_append, List.length_take, List.length_cons, List.length_nil]
      rw [show ((min (st.length - (ar y.f0).toNat) st.length + (0 + 1) : Nat) : Int) = (st.length : Int) - ar y.f0 + 1 by omega]
      exact hf) (by simp only [List.length_append, List.length_take, List.length_cons, List.length_nil]; omega) (fun o ho => by
      rcases List.mem_append.1 ho with ho | ho
      · have := hst o (List.mem_of_mem_take ho)
        omega
      · obtain rfl := List.mem_singleton.1 ho
        simp only
        split <;> omega)
    simp only [List.map_append, List.map_cons, List.map_nil] at ih
    rw [ih]
    rfl
theorem rnest_ok (K : Nat) (e : List Nd) (he : e.length ≤ 1000000) (hK : e.length + 20 ≤ K) : junctionref3_Nest K e = some (nestF e, ()) := by
  unfold junctionref3_Nest nestF junctionref3_One
  by_cases hn : e.length = 0
  · have : e = [] := List.length_eq_zero_iff.1 hn
    subst this
    rfl
  have hz : ((e.length : Int) == 0) = false := by
    rw [beq_eq_false_iff_ne]; omega
  rw [hz, if_neg (by simp), (spans_ok K e (by omega) (by omega)).2]
  simp only [Option.bind_some]
  by_cases h : spF e.reverse 1 = 0
  · rw [if_neg (by simp [h]), if_pos h]
    have hf := fwd_of e h
    have h4 := rnest_l6 K e he (by omega) e (K - e.length - 1) 0 [] rfl (by omega) hf (Nat.le_refl _) (fun o ho => by simp at ho)
    rw [show e.length + (K - e.length - 1) + 1 = K by omega, show ((0 : Nat) : Int) = 0 from rfl, List.map_nil, List.map_nil] at h4
    rw [h4, Option.bind_some]
    have hl := nst_len e [] hf
    simp only [List.length_map]
    rw [if_pos (show (0 : Int) ≤ 0 ∧ (0 : Int) < (((nst [] e).length : Nat) : Int) by omega)]
    simp only [List.getD_eq_getElem?_getD, List.getElem?_map]
    rw [show (0 : Int).toNat = 0 from rfl, List.getElem?_eq_getElem (show 0 < (nst [] e).length by omega)]
    rfl
  · rw [if_pos (by simpa using h), if_neg h]
end Go.Am.Tryd
end

section
namespace Go.Am.Tryd
open Go.Proofs Go.Am Go.RowKit
set_option maxRecDepth 100000
set_option linter.unusedVariables false

section
variable (nm : ByteArray) (G : List S42) (C : List S47) (D : List S110) (Tm Ct : List ByteArray) (V : List S112) (St : List S98) (sta : Int)

/-! ### Leaves and operators -/
def roomT (op : Int) : Int := if op = 5 ∨ op = 6 then (G.length : Int) else if op = 7 then (V.length : Int) else if op = 8 then (Tm.length : Int) else if op = 9 then (Ct.length : Int) else if op = 10 then (D.length : Int) else 0
def leafT (op v : Int) : Int :=
  if op = 1 then 1 else if op = 2 then (if v = 0 ∨ v = 1 then 2 else 0) else if op = 4 then (if v = 0 then 1 else 0)
  else if op = 7 ∨ op = 8 ∨ op = 9 then (if 0 ≤ v ∧ v < roomT G D Tm Ct V op then 1 else 0)
  else if op = 5 ∨ op = 6 ∨ op = 10 then (if 0 ≤ v ∧ v < roomT G D Tm Ct V op then 2 else 0) else 0
theorem place_ok (K : Nat) (v n : Int) (h : -2147483648 ≤ v ∧ v ≤ 2147483647) : check_place K v n = some (decide (0 ≤ v ∧ v < n), ()) := by
  unfold check_place
  rw [wr_in v (by omega) (by omega)]
  by_cases h0 : v ≥ 0
  · have : 0 ≤ v := h0
    simp [this]
  · have : ¬ 0 ≤ v := h0
    simp [this]
theorem room_ok (K : Nat) (op : Int) : junctionref5_room K nm G C D Tm Ct V St sta op = some (roomT G D Tm Ct V op, ()) := by
  unfold junctionref5_room roomT
  have : junctionref5_room.l0 K op = some ((decide (op = 5 ∨ op = 6), ()), ()) := by
    unfold junctionref5_room.l0
    by_cases h : op = 5 <;> simp [h]
    by_cases h' : op = 6 <;> simp [h']
  rw [this]
  simp only [Option.bind_some, decide_eq_true_eq, beq_iff_eq]
  (repeat' split) <;> rfl
theorem leaf_ok (K : Nat) (op v : Int) (b : ByteArray) (x y : Int) (h : -2147483648 ≤ v ∧ v ≤ 2147483647) : junctionref5_leaf K nm G C D Tm Ct V St sta op v b x y = some (leafT G D Tm Ct V op v, ()) := by
  unfold junctionref5_leaf leafT
  have l0 : junctionref5_leaf.l0 K op = some ((decide (op = 7 ∨ op = 8 ∨ op = 9), ()), ()) := by
    unfold junctionref5_leaf.l0
    by_cases h : op = 7 <;> simp [h]
    by_cases h' : op = 8 <;> simp [h']
    by_cases h'' : op = 9 <;> simp [h'']
  have l1 : junctionref5_leaf.l1 K op = some ((decide (op = 5 ∨ op = 6 ∨ op = 10), ()), ()) := by
    unfold junctionref5_leaf.l1
    by_cases h : op = 5 <;> simp [h]
    by_cases h' : op = 6 <;> simp [h']
    by_cases h'' : op = 10 <;> simp [h'']
  rw [l0, l1, wr_in v (by omega) (by omega), room_ok]
  simp only [Option.bind_some, decide_eq_true_eq, beq_iff_eq, beq_eq_false_iff_ne, ne_eq, ge_iff_le]
  by_cases c1 : op = 1
  · simp [c1]
  by_cases c2 : op = 2
  · subst c2
    by_cases d0 : v = 0 <;> by_cases d1 : v = 1 <;> simp [d0, d1]
  by_cases c4 : op = 4
  · subst c4
    by_cases d0 : v = 0 <;> simp [d0]
  simp only [c1, c2, c4, if_false]
  by_cases c7 : op = 7 ∨ op = 8 ∨ op = 9
  · simp only [c7, if_true]
    by_cases d0 : 0 ≤ v <;> by_cases d1 : v < roomT G D Tm Ct V op <;> simp [d0, d1]
  · simp only [c7, if_false]
    by_cases c5 : op = 5 ∨ op = 6 ∨ op = 10
    · simp only [c5, if_true]
      by_cases d0 : 0 ≤ v <;> by_cases d1 : v < roomT G D Tm Ct V op <;> simp [d0, d1]
    · simp only [c5, if_false]
theorem ar_zero {op : Int} (h : ar op = 0) : op = 1 ∨ op = 2 ∨ op = 3 ∨ op = 4 ∨ op = 5 ∨ op = 6 ∨ op = 7 ∨ op = 8 ∨ op = 9 ∨ op = 10 := by
  unfold ar at h
  split at h
  · omega
  · exfalso
    (repeat' split at h) <;> omega
theorem ar_pos {op : Int} (h : 1 ≤ ar op) : 20 ≤ op := by
  unfold ar at h
  (repeat' split at h) <;> omega
theorem value_ok' (K : Nat) (op v : Int) (b : ByteArray) (x y : Int) (h : -2147483648 ≤ v ∧ v ≤ 2147483647) (ha : 0 ≤ ar op) :
    check_value K nm G C D Tm Ct V St sta op v b x y = some (if ar op = 0 then decide (leafT G D Tm Ct V op v ≠ 0) else decide (v = 0), ()) := by
  unfold check_value
  have l0 : check_value.l0 K op = some ((decide (op = 5 ∨ op = 6), ()), ()) := by
    unfold check_value.l0
    by_cases h : op = 5 <;> simp [h]
    by_cases h' : op = 6 <;> simp [h']
  rw [l0]
  simp only [place_ok K v _ h, Option.bind_some, decide_eq_true_eq, beq_iff_eq]
  by_cases h0 : ar op = 0
  · rw [if_pos h0]
    unfold leafT roomT
    rcases ar_zero h0 with rfl | rfl | rfl | rfl | rfl | rfl | rfl | rfl | rfl | rfl
    · simp
    · have : (0 ≤ v ∧ v < 2) ↔ (v = 0 ∨ v = 1) := by omega
      by_cases c : v = 0 ∨ v = 1 <;> simp [c, this]
    · simp
    · by_cases c : v = 0 <;> simp [c]
    all_goals simp
    all_goals (split <;> simp_all)
  · rw [if_neg h0]
    have := ar_pos (op := op) (by omega)
    rw [if_neg (by omega), if_neg (by omega), if_neg (by omega), if_neg (by omega), if_neg (by omega), if_neg (by omega), if_neg (by omega), if_neg (by omega)]
    by_cases c : v = 0 <;> simp [c]
def resT (op a b : Int) : Int :=
  if op = 20 ∨ op = 22 then (if a = 1 then 1 else 0) else if op = 21 then (if a = 2 then 2 else 0)
  else if 30 ≤ op ∧ op ≤ 36 then (if a = 1 ∧ b = 1 then 1 else 0) else if op = 40 ∨ op = 41 then (if a = b then 2 else 0)
  else if 42 ≤ op ∧ op ≤ 45 then (if a = 1 ∧ b = 1 then 2 else 0) else if op = 50 ∨ op = 51 then (if a = 2 ∧ b = 2 then 2 else 0) else 0
theorem result_ok (K : Nat) (op a b : Int) : junctionref5_result K op a b = some (resT op a b, ()) := by
  unfold junctionref5_result resT
  have l0 : junctionref5_result.l0 K op = some ((decide (op = 20 ∨ op = 22), ()), ()) := by
    unfold junctionref5_result.l0
    by_cases h : op = 20 <;> simp [h]
    by_cases h' : op = 22 <;> simp [h']
  have l1 : junctionref5_result.l1 K op = some ((decide (30 ≤ op ∧ op ≤ 36), ()), ()) := by
    unfold junctionref5_result.l1
    by_cases h : op ≥ 30 <;> simp [h] <;> omega
  have l2 : junctionref5_result.l2 K op = some ((decide (op = 40 ∨ op = 41), ()), ()) := by
    unfold junctionref5_result.l2
    by_cases h : op = 40 <;> simp [h]
    by_cases h' : op = 41 <;> simp [h']
  have l3 : junctionref5_result.l3 K op = some ((decide (42 ≤ op ∧ op ≤ 45), ()), ()) := by
    unfold junctionref5_result.l3
    by_cases h : op ≥ 42 <;> simp [h] <;> omega
  have l4 : junctionref5_result.l4 K op = some ((decide (op = 50 ∨ op = 51), ()), ()) := by
    unfold junctionref5_result.l4
    by_cases h : op = 50 <;> simp [h]
    by_cases h' : op = 51 <;> simp [h']
  rw [l0, l1, l2, l3, l4]
  simp only [Option.bind_some, decide_eq_true_eq, beq_iff_eq]
  by_cases h1 : op = 20 ∨ op = 22
  · simp only [h1, if_true]
    by_cases a1 : a = 1 <;> simp [a1]
  simp only [h1, if_false]
  by_cases h2 : op = 21
  · simp only [h2, if_true]
    by_cases a1 : a = 2 <;> simp [a1]
  simp only [h2, if_false]
  by_cases h3 : 30 ≤ op ∧ op ≤ 36
  · simp only [h3, if_true]
    by_cases a1 : a = 1 <;> by_cases b1 : b = 1 <;> simp [a1, b1]
  simp only [h3, if_false]
  by_cases h4 : op = 40 ∨ op = 41
  · simp only [h4, if_true]
    by_cases a1 : a = b <;> simp [a1]
  simp only [h4, if_false]
  by_cases h5 : 42 ≤ op ∧ op ≤ 45
  · simp only [h5, if_true]
    by_cases a1 : a = 1 <;> by_cases b1 : b = 1 <;> simp [a1, b1]
  simp only [h5, if_false]
  by_cases h6 : op = 50 ∨ op = 51
  · simp only [h6, if_true]
    by_cases a1 : a = 2 <;> by_cases b1 : b = 2 <;> simp [a1, b1]
  simp only [h6, if_false]
theorem operated_ok (K : Nat) (op a b : Int) (h : 1 ≤ ar op) : check_operated K op a b = some (resT op a b, ()) := by
  have hop : (20 ≤ op ∧ op ≤ 22) ∨ (30 ≤ op ∧ op ≤ 36) ∨ (40 ≤ op ∧ op ≤ 45) ∨ op = 50 ∨ op = 51 := by
    unfold ar at h
    (repeat' split at h) <;> omega
  unfold check_operated resT
  have l0 : check_operated.l0 K op = some ((decide (op = 20 ∨ op = 22), ()), ()) := by
    unfold check_operated.l0
    by_cases h : op = 20 <;> simp [h]
    by_cases h' : op = 22 <;> simp [h']
  have l1 : check_operated.l1 K op = some ((decide (op = 40 ∨ op = 41), ()), ()) := by
    unfold check_operated.l1
    by_cases h : op = 40 <;> simp [h]
    by_cases h' : op = 41 <;> simp [h']
  have l2 : check_operated.l2 K op = some ((decide (42 ≤ op ∧ op ≤ 45), ()), ()) := by
    unfold check_operated.l2
    by_cases h : 42 ≤ op ∧ op ≤ 45
    · have : op = 42 ∨ op = 43 ∨ op = 44 ∨ op = 45 := by omega
      rcases this with rfl | rfl | rfl | rfl <;> rfl
    · have e : ∀ n : Int, 42 ≤ n → n ≤ 45 → (op == n) = false := fun n a b => by simp; omega
      rw [e 42 (by omega) (by omega), e 43 (by omega) (by omega), e 44 (by omega) (by omega), e 45 (by omega) (by omega), decide_eq_false h]
      rfl
  have l3 : check_operated.l3 K op = some ((decide (op = 50 ∨ op = 51), ()), ()) := by
    unfold check_operated.l3
    by_cases h : op = 50 <;> simp [h]
    by_cases h' : op = 51 <;> simp [h']
  rw [l0, l1, l2, l3]
  simp only [Option.bind_some, decide_eq_true_eq, beq_iff_eq]
  by_cases h1 : op = 20 ∨ op = 22
  · simp only [h1, if_true]
    by_cases a1 : a = 1 <;> simp [a1]
  simp only [h1, if_false]
  by_cases h2 : op = 21
  · simp only [h2, if_true]
    by_cases a1 : a = 2 <;> simp [a1]
  simp only [h2, if_false]
  by_cases h4 : op = 40 ∨ op = 41
  · have h3 : ¬ (30 ≤ op ∧ op ≤ 36) := by omega
    simp only [h4, h3, if_true, if_false]
    by_cases a1 : a = b <;> simp [a1]
  simp only [h4, if_false]
  by_cases h5 : 42 ≤ op ∧ op ≤ 45
  · have h3 : ¬ (30 ≤ op ∧ op ≤ 36) := by omega
    simp only [h5, h3, if_true, if_false]
    by_cases a1 : a = 1 <;> by_cases b1 : b = 1 <;> simp [a1, b1]
  simp only [h5, if_false]
  by_cases h6 : op = 50 ∨ op = 51
  · have h3 : ¬ (30 ≤ op ∧ op ≤ 36) := by omega
    simp only [h6, h3, if_true, if_false]
    by_cases a1 : a = 2 <;> by_cases b1 : b = 2 <;> simp [a1, b1]
  have h3 : 30 ≤ op ∧ op ≤ 36 := by omega
  simp only [h6, h3, if_false, and_self, if_true]
  by_cases a1 : a = 1 <;> by_cases b1 : b = 1 <;> simp [a1, b1]

/-! ### A step of the typing -/
def plainN (x : Nd) : Bool := decide (x.f2.size = 0 ∧ x.f3 = 0 ∧ x.f4 = 0)
theorem emptyB (b : ByteArray) : (b.toList == ByteArray.toList (ByteArray.mk #[])) = decide (b.size = 0) := by
  have e1 : ∀ b : ByteArray, b.toList = b.data.toList := fun b => by obtain ⟨⟨l⟩⟩ := b; simp
  rw [e1, e1]
  obtain ⟨⟨l⟩⟩ := b
  cases l <;> simp [ByteArray.size]
def opnd (st : List Int) (x : Nd) : Int × Int := if ar x.f0 = 1 then (st.getD (st.length - 1) 0, 0) else (st.getD (st.length - 2) 0, st.getD (st.length - 1) 0)
def tyNew (st : List Int) (x : Nd) : Int := if ar x.f0 = 0 then leafT G D Tm Ct V x.f0 x.f1 else resT x.f0 (opnd st x).1 (opnd st x).2
def tyBad (st : List Int) (x : Nd) : Bool := !plainN x || (decide (ar x.f0 ≠ 0) && decide (x.f1 ≠ 0)) || decide (tyNew G D Tm Ct V st x = 0)
def tyAll : List Int → List Nd → Option (List Int)
  | st, [] => some st
  | st, x :: r => if tyBad G D Tm Ct V st x = true then none else tyAll (st.take (st.length - (ar x.f0).toNat) ++ [tyNew G D Tm Ct V st x]) r
def okN (x : Nd) : Prop := -2147483648 ≤ x.f1 ∧ x.f1 ≤ 2147483647
theorem leafT_ty {op v : Int} (h : leafT G D Tm Ct V op v ≠ 0) : leafT G D Tm Ct V op v = if op = 1 ∨ op = 4 ∨ op = 7 ∨ op = 8 ∨ op = 9 then 1 else 2 := by
  unfold leafT at h ⊢
  by_cases c1 : op = 1
  · simp [c1]
  by_cases c2 : op = 2
  · subst c2
    simp at h ⊢
    omega
  by_cases c4 : op = 4
  · subst c4
    simp at h ⊢
    omega
  simp only [c1, c2, c4, if_false, false_or] at h ⊢
  by_cases c7 : op = 7 ∨ op = 8 ∨ op = 9
  · simp only [c7, if_true] at h ⊢
    split at h
    · rename_i hh; simp [hh]
    · exact absurd rfl h
  · simp only [c7, if_false] at h ⊢
    by_cases c5 : op = 5 ∨ op = 6 ∨ op = 10
    · simp only [c5, if_true] at h ⊢
      split at h
      · rename_i hh; simp [hh]
      · exact absurd rfl h
    · simp [c5] at h
theorem pushed_ok (K : Nat) (st : List Int) (x : Nd) (h0 : 1 ≤ ar x.f0) (h1 : ar x.f0 ≤ (st.length : Int)) (hl : st.length ≤ 1000000) :
    check_pushed K x.f0 st = some ((((), decide (resT x.f0 (opnd st x).1 (opnd st x).2 ≠ 0), ()), (), ()), st.take (st.length - (ar x.f0).toNat) ++ [resT x.f0 (opnd st x).1 (opnd st x).2], ()) := by
  have h2 := (ar_le x.f0).1
  have hop : (ar x.f0 = 1 ↔ x.f0 < 30) := by
    unfold ar at h0 ⊢
    constructor
    · intro h
      (repeat' split at h) <;> omega
    · intro h
      (repeat' split at h0) <;> first | omega | (rw [if_neg (by omega), if_pos (by omega)])
  unfold check_pushed check_pushed.l0 opnd
  rw [wr_in ((st.length : Int) - 1) (by omega) (by omega), wr_in ((st.length : Int) - 2) (by omega) (by omega)]
  have hne : ∀ z : Int, (z != 0) = decide (z ≠ 0) := fun z => by by_cases h : z = 0 <;> simp [h]
  by_cases c : x.f0 < 30
  · have ha : ar x.f0 = 1 := hop.2 c
    rw [if_pos (by simpa using c), if_pos (show 0 ≤ (st.length : Int) - 1 ∧ (st.length : Int) - 1 < (st.length : Int) by omega), if_pos ha]
    simp only [Option.bind_some]
    rw [operated_ok K _ _ _ h0]
    simp only [Option.bind_some]
    rw [if_pos (show 0 ≤ (st.length : Int) - 1 ∧ (st.length : Int) - 1 ≤ (st.length : Int) by omega), room_pos (by unfold capBytes; simp only [List.length_take, List.length_cons, List.length_nil]; omega)]
    rw [show ((st.length : Int) - 1).toNat = st.length - 1 by omega, ha, hne]
    rfl
  · have ha : ¬ ar x.f0 = 1 := fun h => c (hop.1 h)
    rw [if_neg (by simpa using c), if_pos (show 0 ≤ (st.length : Int) - 2 ∧ (st.length : Int) - 2 < (st.length : Int) by omega), if_pos (show 0 ≤ (st.length : Int) - 1 ∧ (st.length : Int) - 1 < (st.length : Int) by omega), if_neg ha]
    simp only [Option.bind_some]
    rw [operated_ok K _ _ _ h0]
    simp only [Option.bind_some]
    rw [if_pos (show 0 ≤ (st.length : Int) - 2 ∧ (st.length : Int) - 2 ≤ (st.length : Int) by omega), room_pos (by unfold capBytes; simp only [List.length_take, List.length_cons, List.length_nil]; omega)]
    rw [show ((st.length : Int) - 2).toNat = st.length - 2 by omega, show ((st.length : Int) - 1).toNat = st.length - 1 by omega, show (ar x.f0).toNat = 2 by omega, hne]
end
end Go.Am.Tryd
end

section
namespace Go.Am.Tryd
open Go.Proofs Go.Am Go.RowKit
set_option maxRecDepth 100000
set_option linter.unusedVariables false
section
variable (nm : ByteArray) (G : List S42) (C : List S47) (D : List S110) (Tm Ct : List ByteArray) (V : List S112) (St : List S98) (sta : Int)

theorem eqGuard (K : Nat) : Go.Program.eqGuardType (Go.Am.Ctx.P (check_SoundExpr.x K [])) (Go.Program.depth (Go.Am.Ctx.P (check_SoundExpr.x K []))) (118 : Nat) = Bool.false ∧ Go.Program.stoodInHeld (Go.Am.Ctx.P (check_SoundExpr.x K [])) (118 : Nat) = Bool.false :=
  ⟨(show Go.Program.eqGuardType Tryd.prog (Go.Program.depth Tryd.prog) 118 = false by kernel_rfl), (show Go.Program.stoodInHeld Tryd.prog 118 = false by kernel_rfl)⟩
def passB (x : Nd) : Bool := plainN x && (if ar x.f0 = 0 then decide (leafT G D Tm Ct V x.f0 x.f1 ≠ 0) else decide (x.f1 = 0))
theorem plain_step (K : Nat) (x : Nd) (hx : okN x) (ha : 0 ≤ ar x.f0) : check_SoundExpr.l1 K nm G C D Tm Ct V St sta x.f0 x.f1 x.f2 x.f3 x.f4 =
    some (if passB G D Tm Ct V x = true then .inr (((), (), ()), (nm, G, C, D, Tm, Ct, V, St, sta, ()), (x.f0, x.f1, x.f2, x.f3, x.f4, ()), ()) else .inl ((false, ()), (nm, G, C, D, Tm, Ct, V, St, sta, ()), (x.f0, x.f1, x.f2, x.f3, x.f4, ()), ())) := by
  unfold check_SoundExpr.l1 passB plainN
  rw [emptyB, if_pos (eqGuard K), value_ok' nm G C D Tm Ct V St sta K x.f0 x.f1 x.f2 x.f3 x.f4 hx ha]
  by_cases h2 : x.f2.size = 0
  · by_cases h3 : x.f3 = 0
    · by_cases h4 : x.f4 = 0
      · simp only [h2, h3, h4, Option.bind_some]
        by_cases h0 : ar x.f0 = 0
        · by_cases hv : leafT G D Tm Ct V x.f0 x.f1 = 0 <;> simp [h0, hv]
        · by_cases hv : x.f1 = 0 <;> simp [h0, hv]
      · simp [h2, h3, h4]
    · simp [h2, h3]
  · simp [h2]
theorem l2_ok (K : Nat) (op : Int) : check_SoundExpr.l2 K op = some ((decide (op = 1 ∨ op = 4 ∨ op = 7 ∨ op = 8 ∨ op = 9), ()), ()) := by
  unfold check_SoundExpr.l2
  by_cases h1 : op = 1 <;> simp [h1]
  by_cases h2 : op = 4 <;> simp [h2]
  by_cases h3 : op = 7 <;> simp [h3]
  by_cases h4 : op = 8 <;> simp [h4]
  by_cases h5 : op = 9 <;> simp [h5]
theorem l3_ok (K : Nat) (op : Int) : check_SoundExpr.l3 K op = some ((decide (op = 2 ∨ op = 5 ∨ op = 6 ∨ op = 10), ()), ()) := by
  unfold check_SoundExpr.l3
  by_cases h1 : op = 2 <;> simp [h1]
  by_cases h2 : op = 5 <;> simp [h2]
  by_cases h3 : op = 6 <;> simp [h3]
  by_cases h4 : op = 10 <;> simp [h4]
theorem bad_pass (st : List Int) (x : Nd) : tyBad G D Tm Ct V st x = true ↔ (passB G D Tm Ct V x = false ∨ tyNew G D Tm Ct V st x = 0) := by
  unfold tyBad passB tyNew
  by_cases hp : plainN x = true
  · by_cases h0 : ar x.f0 = 0
    · simp [hp, h0]
    · by_cases hv : x.f1 = 0 <;> simp [hp, h0, hv]
  · simp [hp]
theorem check_loop (K : Nat) (e : List Nd) (he : e.length ≤ 100000) (hok : ∀ x ∈ e, okN x) : ∀ (r : List Nd) (x i : Nat) (st : List Int), e.drop i = r → i + r.length = e.length → fwd (st.length : Int) r = true → st.length ≤ i →
    (tyAll G D Tm Ct V st r = none ∧ ∃ y, check_SoundExpr.l4 K (r.length + x + 1) e (e.length : Int) (i : Int) nm G C D Tm Ct V St sta st = some (.inl ((false, ()), y))) ∨
    (∃ st', tyAll G D Tm Ct V st r = some st' ∧ st'.length = 1 ∧ check_SoundExpr.l4 K (r.length + x + 1) e (e.length : Int) (i : Int) nm G C D Tm Ct V St sta st = some (.inr (((), ()), (nm, G, C, D, Tm, Ct, V, St, sta, ()), st', ())))
  | [], x, i, st, hd, hi, hf, hs => by
    right
    rw [check_SoundExpr.l4, if_neg (by simp at hi; simp; omega)]
    refine ⟨st, rfl, ?_, rfl⟩
    unfold fwd at hf
    simp at hf
    omega
  | y :: r, x, i, st, hd, hi, hf, hs => by
    have hlt : i < e.length := by simp at hi; omega
    have hy : e.getD i nd0 = y := by
      have := congrArg List.head? hd
      rw [List.head?_drop] at this
      rw [List.getD_eq_getElem?_getD, this]; rfl
    have hyo : okN y := hok y (by
      have := congrArg List.head? hd
      rw [List.head?_drop] at this
      exact List.mem_of_getElem? this)
    have hd' : e.drop (i + 1) = r := by rw [← List.drop_drop, hd]; rfl
    unfold fwd at hf
    simp only [Bool.and_eq_true, decide_eq_true_eq] at hf
    obtain ⟨⟨a0, a1⟩, hf⟩ := hf
    have a2 := (ar_le y.f0).1
    rw [show (y :: r).length + x + 1 = r.length + x + 1 + 1 by simp; omega, check_SoundExpr.l4, if_pos (by simp; omega), if_pos (by omega)]
    simp only [Int.toNat_natCast]
    rw [hy, plain_step nm G C D Tm Ct V St sta K y hyo a0, Option.bind_some]
    cases hp : passB G D Tm Ct V y with
    | false =>
      left
      have : tyBad G D Tm Ct V st y = true := (bad_pass G D Tm Ct V st y).2 (.inl hp)
      refine ⟨by unfold tyAll; rw [if_pos this], _, rfl⟩
    | true =>
      simp only [if_true, onSum]
      rw [l2_ok, l3_ok, wr_in ((i : Int) + 1) (by omega) (by omega), show ((i : Int) + 1) = ((i + 1 : Nat) : Int) by omega]
      simp only [Option.bind_some, decide_eq_true_eq]
      have next : ∀ z : Int, z = tyNew G D Tm Ct V st y → z ≠ 0 →
          (tyAll G D Tm Ct V st (y :: r) = none ∧ ∃ w, check_SoundExpr.l4 K (r.length + x + 1) e (e.length : Int) ((i + 1 : Nat) : Int) nm G C D Tm Ct V St sta (st.take (st.length - (ar y.f0).toNat) ++ [z]) = some (.inl ((false, ()), w))) ∨
          (∃ st', tyAll G D Tm Ct V st (y :: r) = some st' ∧ st'.length = 1 ∧ check_SoundExpr.l4 K (r.length + x + 1) e (e.length : Int) ((i + 1 : Nat) : Int) nm G C D Tm Ct V St sta (st.take (st.length - (ar y.f0).toNat) ++ [z]) = some (.inr (((), ()), (nm, G, C, D, Tm, Ct, V, St, sta, ()), st', ()))) := by
        intro z hz hz0
        have hb : ¬ tyBad G D Tm Ct V st y = true := fun h => by
          rcases (bad_pass G D Tm Ct V st y).1 h with h | h
          · rw [hp] at h; cases h
          · exact hz0 (hz.trans h)
        rw [tyAll, if_neg hb, ← hz]
        refine check_loop K e he hok r x (i + 1) _ hd' (by simp at hi; omega) ?_ (by simp only [List.length_append, List.length_take, List.length_cons, List.length_nil]; omega)
        simp only [List.length_append, List.length_take, List.length_cons, List.length_nil]
        rw [show ((min (st.length - (ar y.f0).toNat) st.length + (0 + 1) : Nat) : Int) = (st.length : Int) - ar y.f0 + 1 by omega]
        exact hf
      by_cases h0 : ar y.f0 = 0
      · have hv : leafT G D Tm Ct V y.f0 y.f1 ≠ 0 := by
          unfold passB at hp
          simp [h0] at hp
          exact hp.2
        have hty := leafT_ty G D Tm Ct V hv
        have hnew : tyNew G D Tm Ct V st y = leafT G D Tm Ct V y.f0 y.f1 := by unfold tyNew; rw [if_pos h0]
        have htake : st.take (st.length - (ar y.f0).toNat) = st := by rw [h0]; simp
        rw [htake] at next
        by_cases c : y.f0 = 1 ∨ y.f0 = 4 ∨ y.f0 = 7 ∨ y.f0 = 8 ∨ y.f0 = 9
        · rw [if_pos c, room_pos (by unfold capBytes; simp; omega)]
          exact next 1 (by rw [hnew, hty, if_pos c]) (by omega)
        · have c2 : y.f0 = 2 ∨ y.f0 = 5 ∨ y.f0 = 6 ∨ y.f0 = 10 := by
            rcases ar_zero h0 with h | h | h | h | h | h | h | h | h | h <;> first | omega | (rw [h] at hv; exact absurd (by simp [leafT]) hv)
          rw [if_neg c, if_pos c2, room_pos (by unfold capBytes; simp; omega)]
          exact next 2 (by rw [hnew, hty, if_neg c]) (by omega)
      · have h20 := ar_pos (op := y.f0) (by omega)
        rw [if_neg (by omega), if_neg (by omega), pushed_ok K st y (by omega) a1 (by omega)]
        simp only [Option.bind_some]
        have hnew : tyNew G D Tm Ct V st y = resT y.f0 (opnd st y).1 (opnd st y).2 := by unfold tyNew; rw [if_neg h0]
        by_cases hz : resT y.f0 (opnd st y).1 (opnd st y).2 = 0
        · left
          have : tyBad G D Tm Ct V st y = true := (bad_pass G D Tm Ct V st y).2 (.inr (hnew.trans hz))
          rw [hz, if_pos (by simp)]
          exact ⟨by unfold tyAll; rw [if_pos this], _, rfl⟩
        · rw [if_neg (by simpa using hz)]
          exact next _ hnew.symm hz
/-- Is it a sound expression of that type? -/
def soundE (e : List Nd) (typ : Int) : Bool := decide (1 ≤ e.length ∧ e.length ≤ 256 ∧ spF e.reverse 1 = 0 ∧ nestF e ≤ 64) && (match tyAll G D Tm Ct V [] e with | some st => st.getD 0 0 == typ | none => false)
theorem expr_ok (K : Nat) (e : List Nd) (typ : Int) (he : e.length ≤ 5000000000000) (hok : ∀ x ∈ e, okN x) (hK : e.length + 400 ≤ K) (ht : typ = 1 ∨ typ = 2) :
    check_SoundExpr K nm G C D Tm Ct V St sta e typ = some (soundE G D Tm Ct V e typ, ()) := by
  unfold check_SoundExpr check_SoundExpr.l0 soundE
  have hin : check_in K typ 1 2 = some (true, ()) := by rcases ht with rfl | rfl <;> rfl
  have hin2 : check_in K (e.length : Int) 1 256 = some (decide (1 ≤ e.length ∧ e.length ≤ 256), ()) := by
    unfold check_in
    by_cases h : (e.length : Int) ≥ 1
    · have h' : 1 ≤ e.length := by omega
      by_cases h2 : e.length ≤ 256
      · have : (e.length : Int) ≤ 256 := by omega
        simp [h, h', h2, this]
      · have : ¬ (e.length : Int) ≤ 256 := by omega
        simp [h, h', h2, this]
    · have h' : ¬ 1 ≤ e.length := by omega
      simp [h, h']
  rw [hin, hin2, (spans_ok K e he (by omega)).1]
  simp only [Option.bind_some]
  by_cases hl : 1 ≤ e.length ∧ e.length ≤ 256
  · rw [nest_ok K e (by omega) (by omega)]
    by_cases hsp : spF e.reverse 1 = 0
    · by_cases hn : nestF e ≤ 64
      · have hg : decide (1 ≤ e.length ∧ e.length ≤ 256 ∧ spF e.reverse 1 = 0 ∧ nestF e ≤ 64) = true := decide_eq_true ⟨hl.1, hl.2, hsp, hn⟩
        rw [hg]
        have hn' : ¬ nestF e > 64 := by omega
        simp only [hl, hsp, hn', and_self, decide_true, decide_false, Bool.not_true, Bool.false_eq_true, if_true, if_false, bne_self_eq_false, Option.bind_some, onSum, Bool.true_and]
        have hf := fwd_of e hsp
        have h := check_loop nm G C D Tm Ct V St sta K e (by omega) hok e (K - e.length - 1) 0 [] rfl (by omega) hf (Nat.le_refl _)
        rw [show e.length + (K - e.length - 1) + 1 = K by omega, show ((0 : Nat) : Int) = 0 from rfl] at h
        rcases h with ⟨h1, y, h2⟩ | ⟨st, h1, h2, h3⟩
        · rw [h1, h2]
          rfl
        · rw [h1, h3]
          simp only [Option.bind_some]
          rw [if_pos (by rw [h2]; omega)]
          rfl
      · have hg : decide (1 ≤ e.length ∧ e.length ≤ 256 ∧ spF e.reverse 1 = 0 ∧ nestF e ≤ 64) = false := decide_eq_false (fun h => hn h.2.2.2)
        rw [hg]
        have hn' : nestF e > 64 := by omega
        simp [hl, hsp, hn', onSum]
    · have hg : decide (1 ≤ e.length ∧ e.length ≤ 256 ∧ spF e.reverse 1 = 0 ∧ nestF e ≤ 64) = false := decide_eq_false (fun h => hsp h.2.2.1)
      rw [hg]
      simp [hl, hsp, onSum]
  · have hg : decide (1 ≤ e.length ∧ e.length ≤ 256 ∧ spF e.reverse 1 = 0 ∧ nestF e ≤ 64) = false := decide_eq_false (fun h => hl ⟨h.1, h.2.1⟩)
    rw [hg, decide_eq_false hl]
    rfl

/-! ### The document's -/
theorem rplain_step (K : Nat) (x : Nd) : junctionref5_typed.l0 K x.f0 x.f1 x.f2 x.f3 x.f4 =
    some (if plainN x = true then .inr (((), ()), (x.f0, x.f1, x.f2, x.f3, x.f4, ()), ()) else .inl ((0, ()), (x.f0, x.f1, x.f2, x.f3, x.f4, ()), ())) := by
  unfold junctionref5_typed.l0 plainN
  rw [emptyB]
  by_cases h2 : x.f2.size = 0
  · by_cases h3 : x.f3 = 0
    · by_cases h4 : x.f4 = 0 <;> simp [h2, h3, h4]
    · simp [h2, h3]
  · simp [h2]
theorem rtype_step (K : Nat) (st : List Int) (x : Nd) (hx : okN x) (a0 : 0 ≤ ar x.f0) (h1 : ar x.f0 ≤ (st.length : Int)) (hl : st.length ≤ 1000000) :
    junctionref5_typed.l1 K nm G C D Tm Ct V St sta (st.length : Int) st x.f0 x.f1 x.f2 x.f3 x.f4 =
    some (if ar x.f0 ≠ 0 ∧ x.f1 ≠ 0 then .inr ((0, ()), st, (x.f0, x.f1, x.f2, x.f3, x.f4, ()), ()) else .inl (((), tyNew G D Tm Ct V st x, ()), st.take (st.length - (ar x.f0).toNat) ++ [tyNew G D Tm Ct V st x], (x.f0, x.f1, x.f2, x.f3, x.f4, ()), ())) := by
  have h2 := (ar_le x.f0).1
  have hopr : junctionref5_operands K x.f0 = some (ar x.f0, ()) := by
    unfold junctionref5_operands
    unfold ar at a0 ⊢
    (repeat' split at a0) <;> (repeat' split) <;> first | rfl | (simp at *; omega) | omega
  unfold junctionref5_typed.l1 tyNew opnd
  rw [hopr]
  simp only [Option.bind_some]
  by_cases h0 : ar x.f0 = 0
  · rw [leaf_ok nm G C D Tm Ct V St sta K x.f0 x.f1 x.f2 x.f3 x.f4 hx]
    simp only [h0, BEq.rfl, if_true, Option.bind_some, ne_eq, not_true_eq_false, false_and, if_false]
    rw [room_pos (by unfold capBytes; simp; omega)]
    simp
  · have h0' : (ar x.f0 == 0) = false := by rw [beq_eq_false_iff_ne]; exact h0
    rw [h0']
    simp only [Bool.false_eq_true, if_false]
    by_cases hv : x.f1 = 0
    · rw [if_neg (show ¬ (x.f1 != 0) = true by simp [hv]), if_neg (show ¬ (ar x.f0 ≠ 0 ∧ x.f1 ≠ 0) from fun h => h.2 hv)]
      rw [wr_in ((st.length : Int) - 1) (by omega) (by omega), wr_in ((st.length : Int) - 2) (by omega) (by omega)]
      by_cases c : ar x.f0 = 1
      · have p1 : 0 ≤ (st.length : Int) - 1 ∧ (st.length : Int) - 1 < (st.length : Int) := by omega
        rw [if_pos (show (ar x.f0 == 1) = true by simp [c]), if_pos p1, result_ok]
        simp only [Option.bind_some, if_neg h0, if_pos c, if_pos p1]
        rw [show ((st.length : Int) - 1).toNat = st.length - 1 by omega, c, show (1 : Int).toNat = 1 from rfl]
        congr 4
        rw [List.set_eq_take_append_cons_drop, if_pos (by omega), List.drop_of_length_le (by omega)]
      · have p2 : 0 ≤ (st.length : Int) - 2 ∧ (st.length : Int) - 2 < (st.length : Int) := by omega
        have p1 : 0 ≤ (st.length : Int) - 1 ∧ (st.length : Int) - 1 < (st.length : Int) := by omega
        have p3 : ∀ z : Int, 0 ≤ (st.length : Int) - 1 ∧ (st.length : Int) - 1 ≤ ((st.set ((st.length : Int) - 2).toNat z).length : Int) := fun z => by rw [List.length_set]; omega
        rw [if_neg (show ¬ (ar x.f0 == 1) = true by simp [c]), if_pos p2, if_pos p1, result_ok]
        simp only [Option.bind_some, if_neg h0, if_neg c, if_pos p2, if_pos (p3 _)]
        rw [show ((st.length : Int) - 1).toNat = st.length - 1 by omega, show ((st.length : Int) - 2).toNat = st.length - 2 by omega, show (ar x.f0).toNat = 2 by omega]
        congr 4
        rw [List.set_eq_take_append_cons_drop, if_pos (by omega), show st.length - 1 = (st.take (st.length - 2)).length + 1 by simp; omega, List.take_length_add_append]
        simp
    · rw [if_pos (by simpa using hv), if_pos ⟨h0, hv⟩]
theorem typed_loop (K : Nat) (e : List Nd) (he : e.length ≤ 100000) (hok : ∀ x ∈ e, okN x) : ∀ (r : List Nd) (x i : Nat) (st : List Int), e.drop i = r → i + r.length = e.length → fwd (st.length : Int) r = true → st.length ≤ i →
    (tyAll G D Tm Ct V st r = none ∧ ∃ y, junctionref5_typed.l2 K (r.length + x + 1) e nm G C D Tm Ct V St sta (i : Int) st = some (.inl ((0, ()), y))) ∨
    (∃ st', tyAll G D Tm Ct V st r = some st' ∧ st'.length = 1 ∧ junctionref5_typed.l2 K (r.length + x + 1) e nm G C D Tm Ct V St sta (i : Int) st = some (.inr (((), ()), st', ())))
  | [], x, i, st, hd, hi, hf, hs => by
    right
    rw [junctionref5_typed.l2, if_neg (by simp at hi; simp; omega)]
    refine ⟨st, rfl, ?_, rfl⟩
    unfold fwd at hf
    simp at hf
    omega
  | y :: r, x, i, st, hd, hi, hf, hs => by
    have hlt : i < e.length := by simp at hi; omega
    have hy : e.getD i nd0 = y := by
      have := congrArg List.head? hd
      rw [List.head?_drop] at this
      rw [List.getD_eq_getElem?_getD, this]; rfl
    have hyo : okN y := hok y (by
      have := congrArg List.head? hd
      rw [List.head?_drop] at this
      exact List.mem_of_getElem? this)
    have hd' : e.drop (i + 1) = r := by rw [← List.drop_drop, hd]; rfl
    unfold fwd at hf
    simp only [Bool.and_eq_true, decide_eq_true_eq] at hf
    obtain ⟨⟨a0, a1⟩, hf⟩ := hf
    have a2 := (ar_le y.f0).1
    rw [show (y :: r).length + x + 1 = r.length + x + 1 + 1 by simp; omega, junctionref5_typed.l2, if_pos (by simp; omega), if_pos (by omega)]
    simp only [Int.toNat_natCast]
    rw [hy, rplain_step K y, Option.bind_some]
    unfold tyAll tyBad
    cases hp : plainN y with
    | false => exact .inl ⟨by simp, _, rfl⟩
    | true =>
      simp only [if_true, onSum]
      rw [rtype_step nm G C D Tm Ct V St sta K st y hyo a0 a1 (by omega), Option.bind_some, wr_in ((i : Int) + 1) (by omega) (by omega), show ((i : Int) + 1) = ((i + 1 : Nat) : Int) by omega]
      by_cases hc : ar y.f0 ≠ 0 ∧ y.f1 ≠ 0
      · left
        rw [if_pos hc]
        exact ⟨by simp [hc.1, hc.2], _, rfl⟩
      · rw [if_neg hc]
        have hb : (decide (ar y.f0 ≠ 0) && decide (y.f1 ≠ 0)) = false := by
          by_cases q1 : ar y.f0 = 0
          · simp [q1]
          · have : y.f1 = 0 := by
              by_cases q2 : y.f1 = 0
              · exact q2
              · exact absurd ⟨q1, q2⟩ hc
            simp [this]
        simp only [hb, Bool.not_true, Bool.false_or, decide_eq_true_eq]
        by_cases hz : tyNew G D Tm Ct V st y = 0
        · left
          rw [if_pos hz, hz]
          exact ⟨rfl, _, rfl⟩
        · rw [if_neg hz, if_neg (by simpa using hz)]
          refine typed_loop K e he hok r x (i + 1) _ hd' (by simp at hi; omega) ?_ (by simp only [List.length_append, List.length_take, List.length_cons, List.length_nil]; omega)
          simp only [List.length_append, List.length_take, List.length_cons, List.length_nil]
          rw [show ((min (st.length - (ar y.f0).toNat) st.length + (0 + 1) : Nat) : Int) = (st.length : Int) - ar y.f0 + 1 by omega]
          exact hf
theorem rexpr_ok (K : Nat) (e : List Nd) (typ : Int) (he : e.length ≤ 5000000000000) (hok : ∀ x ∈ e, okN x) (hK : e.length + 400 ≤ K) (ht : typ = 1 ∨ typ = 2) :
    junctionref5_SoundExpr K nm G C D Tm Ct V St sta e typ = some (soundE G D Tm Ct V e typ, ()) := by
  unfold junctionref5_SoundExpr junctionref5_SoundExpr.l0 soundE
  rw [(spans_ok K e he (by omega)).2]
  by_cases hl : 1 ≤ e.length ∧ e.length ≤ 256
  · have q1 : decide ((e.length : Int) < 1) = false := decide_eq_false (by omega)
    have q2 : decide ((e.length : Int) > 256) = false := decide_eq_false (by omega)
    rw [rnest_ok K e (by omega) (by omega), q1, q2]
    simp only [if_true, Option.bind_some]
    by_cases hsp : spF e.reverse 1 = 0
    · by_cases hn : nestF e ≤ 64
      · have hg : decide (1 ≤ e.length ∧ e.length ≤ 256 ∧ spF e.reverse 1 = 0 ∧ nestF e ≤ 64) = true := decide_eq_true ⟨hl.1, hl.2, hsp, hn⟩
        rw [hg]
        have hn' : decide (nestF e > 64) = false := decide_eq_false (by omega)
        rw [hsp, hn']
        simp only [bne_self_eq_false, if_true, Bool.false_eq_true, if_false, Option.bind_some, onSum, Bool.true_and]
        have hf := fwd_of e hsp
        have h := typed_loop nm G C D Tm Ct V St sta K e (by omega) hok e (K - e.length - 1) 0 [] rfl (by omega) hf (Nat.le_refl _)
        rw [show e.length + (K - e.length - 1) + 1 = K by omega, show ((0 : Nat) : Int) = 0 from rfl] at h
        unfold junctionref5_typed
        rcases h with ⟨h1, y, h2⟩ | ⟨st, h1, h2, h3⟩
        · rw [h1, h2]
          rfl
        · rw [h1, h3]
          simp only [Option.bind_some, onSum]
          rw [if_pos (show (0 : Int) ≤ 0 ∧ (0 : Int) < ((st.length : Nat) : Int) by rw [h2]; omega)]
          simp only [Option.bind_some, show (0 : Int).toNat = 0 from rfl]
          generalize st.getD 0 0 = z
          by_cases hz : z = 0
          · subst hz
            rcases ht with rfl | rfl <;> rfl
          · rw [if_pos (by simpa using hz)]
      · have hg : decide (1 ≤ e.length ∧ e.length ≤ 256 ∧ spF e.reverse 1 = 0 ∧ nestF e ≤ 64) = false := decide_eq_false (fun h => hn h.2.2.2)
        have hn' : decide (nestF e > 64) = true := decide_eq_true (by omega)
        rw [hg, hsp, hn']
        rfl
    · have hg : decide (1 ≤ e.length ∧ e.length ≤ 256 ∧ spF e.reverse 1 = 0 ∧ nestF e ≤ 64) = false := decide_eq_false (fun h => hsp h.2.2.1)
      have hb : (spF e.reverse 1 != 0) = true := by simpa using hsp
      rw [hg, hb]
      rfl
  · have hg : decide (1 ≤ e.length ∧ e.length ≤ 256 ∧ spF e.reverse 1 = 0 ∧ nestF e ≤ 64) = false := decide_eq_false (fun h => hl ⟨h.1, h.2.1⟩)
    rw [hg]
    by_cases h1 : 1 ≤ e.length
    · have q1 : decide ((e.length : Int) < 1) = false := decide_eq_false (by omega)
      have q2 : decide ((e.length : Int) > 256) = true := decide_eq_true (by omega)
      rw [q1, q2]
      rfl
    · have q1 : decide ((e.length : Int) < 1) = true := decide_eq_true (by omega)
      rw [q1]
      rfl
end
end Go.Am.Tryd
end

section
namespace Go.Am.Tryd
open Go.Proofs Go.Am Go.RowKit
set_option maxRecDepth 100000
set_option linter.unusedVariables false
abbrev Sm := Am.Tryd.S165
abbrev sm0 : Sm := S165.mk 0 ByteArray.empty 0 [] 0 0
section
variable (nm : ByteArray) (G : List S42) (C : List S47) (D : List S110) (Tm Ct : List ByteArray) (V : List S112) (St : List S98) (sta : Int)

/-- What a statement over K's fuel must be. -/
structure okS (K : Nat) (s : Sm) : Prop where
  len : s.f3.length ≤ 5000000000000
  nd : ∀ x ∈ s.f3, okN x
  fuel : s.f3.length + 400 ≤ K
  wf : -9223372036854775808 ≤ s.f2 ∧ s.f2 ≤ 9223372036854775807
def plainS (s : Sm) : Bool := decide (s.f1.size = 0 ∧ s.f4 = 0 ∧ s.f5 = 0)
/-- Of how many things the statement's number speaks, and the type of its expression (0: it has none); none: no such statement. -/
def kindS (s : Sm) : Option (Int × Int) :=
  if s.f0 = 1 then some ((V.length : Int), 1) else if s.f0 = 2 ∨ s.f0 = 3 ∨ s.f0 = 4 then some ((Tm.length : Int), 0)
  else if s.f0 = 5 ∨ s.f0 = 10 then some ((Ct.length : Int), 0) else if s.f0 = 6 then some ((D.length : Int), 0)
  else if s.f0 = 7 then some (1, 2) else if s.f0 = 8 then some (1, 0) else if s.f0 = 9 then some (1, 0) else none
def stmtOk (s : Sm) : Bool := plainS s && (match kindS D Tm Ct V s with
  | none => false
  | some (n, t) => decide (0 ≤ s.f2 ∧ s.f2 < n) && (if t = 0 then decide (s.f3 = []) else soundE G D Tm Ct V s.f3 t))
def opn (b : List Bool) (s : Sm) : Option (List Bool) :=
  if s.f0 = 7 then (if b.length = 16 then none else some (b ++ [false]))
  else if s.f0 = 8 then (if b.length = 0 ∨ b.getD (b.length - 1) false = true then none else some (b.set (b.length - 1) true))
  else if s.f0 = 9 then (if b.length = 0 then none else some (b.take (b.length - 1))) else some b
def listOk : List Bool → List Sm → Bool
  | b, [] => decide (b.length = 0)
  | b, s :: r => stmtOk G D Tm Ct V s && (match opn b s with | none => false | some b' => listOk b' r)
theorem eqGuardS (K : Nat) : Go.Program.eqGuardType (Go.Am.Ctx.P (check_soundStmt.x K [])) (Go.Program.depth (Go.Am.Ctx.P (check_soundStmt.x K []))) (118 : Nat) = Bool.false ∧ Go.Program.stoodInHeld (Go.Am.Ctx.P (check_soundStmt.x K [])) (118 : Nat) = Bool.false :=
  ⟨(show Go.Program.eqGuardType Tryd.prog (Go.Program.depth Tryd.prog) 118 = false by kernel_rfl), (show Go.Program.stoodInHeld Tryd.prog 118 = false by kernel_rfl)⟩
theorem stmt_ok (K : Nat) (s : Sm) (hs : okS K s) : check_soundStmt K nm G C D Tm Ct V St sta s.f0 s.f1 s.f2 s.f3 s.f4 s.f5 = some (stmtOk G D Tm Ct V s, ()) := by
  unfold check_soundStmt stmtOk
  have l0 : check_soundStmt.l0 K s.f0 s.f1 s.f2 s.f3 s.f4 s.f5 = some (if plainS s = true ∧ 0 ≤ s.f2 then .inr ((), ()) else .inl ((false, ()), ())) := by
    unfold check_soundStmt.l0 plainS
    rw [emptyB, if_pos (eqGuardS K)]
    by_cases h2 : s.f1.size = 0
    · by_cases h3 : s.f4 = 0
      · by_cases h4 : s.f5 = 0
        · by_cases h5 : s.f2 < 0
          · have : ¬ 0 ≤ s.f2 := by omega
            simp [h2, h3, h4, h5]
          · have : 0 ≤ s.f2 := by omega
            simp [h2, h3, h4, h5, this]
        · simp [h2, h3, h4]
      · simp [h2, h3]
    · simp [h2]
  rw [l0]
  by_cases hp : ¬ plainS s = true
  · have : plainS s = false := by simpa using hp
    rw [if_neg (fun h => hp h.1), this]
    rfl
  have hp := Decidable.not_not.1 hp
  by_cases h0 : ¬ 0 ≤ s.f2
  · rw [if_neg (fun h => h0 h.2), hp]
    simp only [Option.bind_some, onSum, Bool.true_and]
    congr 2
    cases kindS D Tm Ct V s with
    | none => rfl
    | some nt => simp [h0]
  have h0 := Decidable.not_not.1 h0
  rw [if_pos ⟨hp, h0⟩, hp]
  simp only [Option.bind_some, onSum, Bool.true_and]
  have e1 := expr_ok nm G C D Tm Ct V St sta K s.f3 1 hs.len hs.nd hs.fuel (.inl rfl)
  have e2 := expr_ok nm G C D Tm Ct V St sta K s.f3 2 hs.len hs.nd hs.fuel (.inr rfl)
  have l1 : check_soundStmt.l1 K s.f0 = some ((decide (s.f0 = 2 ∨ s.f0 = 3 ∨ s.f0 = 4), ()), ()) := by
    unfold check_soundStmt.l1
    by_cases h : s.f0 = 2 <;> simp [h]
    by_cases h' : s.f0 = 3 <;> simp [h']
    by_cases h'' : s.f0 = 4 <;> simp [h'']
  have l2 : check_soundStmt.l2 K s.f0 = some ((decide (s.f0 = 5 ∨ s.f0 = 10), ()), ()) := by
    unfold check_soundStmt.l2
    by_cases h : s.f0 = 5 <;> simp [h]
    by_cases h' : s.f0 = 10 <;> simp [h']
  have l3 : check_soundStmt.l3 K s.f0 = some ((decide (s.f0 = 8 ∨ s.f0 = 9), ()), ()) := by
    unfold check_soundStmt.l3
    by_cases h : s.f0 = 8 <;> simp [h]
    by_cases h' : s.f0 = 9 <;> simp [h']
  rw [l1, l2, l3, e1, e2]
  unfold kindS
  simp only [Option.bind_some, decide_eq_true_eq, beq_iff_eq]
  by_cases k1 : s.f0 = 1
  · by_cases c : s.f2 < (V.length : Int) <;> simp [k1, c, h0]
  by_cases k7 : s.f0 = 7
  · by_cases c : s.f2 = 0
    · simp [k7, c]
    · have : ¬ s.f2 < 1 := by omega
      simp [k7, c, this]
  simp only [k1, k7, if_false]
  by_cases he : s.f3 = []
  · have hl0 : ((s.f3.length : Int) != 0) = false := by rw [he]; rfl
    rw [hl0]
    simp only [he, Bool.false_eq_true, if_false]
    by_cases k2 : s.f0 = 2 ∨ s.f0 = 3 ∨ s.f0 = 4
    · simp [k2, h0]
    by_cases k5 : s.f0 = 5 ∨ s.f0 = 10
    · simp [k2, k5, h0]
    by_cases k6 : s.f0 = 6
    · simp [k6, h0]
    by_cases k8 : s.f0 = 8
    · by_cases c : s.f2 = 0
      · simp [k8, c]
      · have : ¬ s.f2 < 1 := by omega
        simp [k8, c, this]
    by_cases k9 : s.f0 = 9
    · by_cases c : s.f2 = 0
      · simp [k9, c]
      · have : ¬ s.f2 < 1 := by omega
        simp [k9, c, this]
    simp [k2, k5, k6, k8, k9]
  · have hl : ((s.f3.length : Int) != 0) = true := by
      have : s.f3.length ≠ 0 := fun h => he (List.length_eq_zero_iff.1 h)
      simp only [bne_iff_ne, ne_eq]; omega
    rw [if_pos hl]
    congr 2
    split
    · rfl
    · rename_i n t hk
      have ht : t = 0 := by
        (repeat' split at hk) <;> first | (cases hk; done) | (simp only [Option.some.injEq, Prod.mk.injEq] at hk; exact hk.2.symm)
      rw [if_pos ht, decide_eq_false he, Bool.and_false]
theorem open_l0 (K : Nat) (b : List Bool) (hb : b.length ≤ 16) : check_soundList.l0 K (b.length : Int) b = some (if b.length = 0 ∨ b.getD (b.length - 1) false = true then .inl ((false, ()), b, ()) else .inr (((), ()), b, ())) := by
  unfold check_soundList.l0
  by_cases h : b.length = 0
  · simp [h]
  · have hz : ((b.length : Int) == 0) = false := by rw [beq_eq_false_iff_ne]; omega
    rw [hz, if_pos rfl, wr_in ((b.length : Int) - 1) (by omega) (by omega), if_pos (by omega), show ((b.length : Int) - 1).toNat = b.length - 1 by omega]
    by_cases c : b.getD (b.length - 1) false = true
    · rw [if_pos c, if_pos (.inr c)]
    · rw [if_neg c, if_neg (by intro q; rcases q with q | q; exact h q; exact c q)]
theorem list_loop (K : Nat) (L : List Sm) (hL : L.length ≤ 100000000000000) (hok : ∀ s ∈ L, okS K s) : ∀ (r : List Sm) (x i : Nat) (b : List Bool), L.drop i = r → i + r.length = L.length → b.length ≤ 16 →
    ∃ z, check_soundList.l1 K (r.length + x + 1) nm G C D Tm Ct V St sta L (L.length : Int) (i : Int) b = some z ∧
      ((∃ y, z = .inl ((false, ()), y) ∧ listOk G D Tm Ct V b r = false) ∨ (∃ b', z = .inr (((), ()), b', ()) ∧ listOk G D Tm Ct V b r = decide (b'.length = 0)))
  | [], x, i, b, hd, hi, hb => by
    rw [check_soundList.l1, if_neg (by simp at hi; simp; omega)]
    exact ⟨_, rfl, .inr ⟨b, rfl, rfl⟩⟩
  | s :: r, x, i, b, hd, hi, hb => by
    have hlt : i < L.length := by simp at hi; omega
    have hh := congrArg List.head? hd
    rw [List.head?_drop] at hh
    have hy : L.getD i sm0 = s := by rw [List.getD_eq_getElem?_getD, hh]; rfl
    have hso := hok s (List.mem_of_getElem? hh)
    have hd' : L.drop (i + 1) = r := by rw [← List.drop_drop, hd]; rfl
    rw [show (s :: r).length + x + 1 = r.length + x + 1 + 1 by simp; omega, check_soundList.l1, if_pos (by simp; omega), if_pos (by omega)]
    simp only [Int.toNat_natCast, show L.getD i (S165.mk 0 ByteArray.empty 0 [] 0 0) = s from hy]
    rw [stmt_ok nm G C D Tm Ct V St sta K s hso, Option.bind_some, wr_in ((i : Int) + 1) (by omega) (by omega), show ((i : Int) + 1) = ((i + 1 : Nat) : Int) by omega]
    unfold listOk
    cases hst : stmtOk G D Tm Ct V s with
    | false => exact ⟨_, rfl, .inl ⟨_, rfl, by simp⟩⟩
    | true =>
      simp only [Bool.not_true, Bool.false_eq_true, if_false, Bool.true_and]
      unfold opn
      by_cases k7 : s.f0 = 7
      · simp only [k7, BEq.rfl, if_true]
        by_cases c : b.length = 16
        · rw [if_pos (by simp [c]), if_pos c]
          exact ⟨_, rfl, .inl ⟨_, rfl, rfl⟩⟩
        · rw [if_neg (by simp; omega), if_neg c, room_pos (by unfold capBytes; simp; omega)]
          exact list_loop K L hL hok r x (i + 1) _ hd' (by simp at hi; omega) (by simp; omega)
      have q7 : (s.f0 == 7) = false := by simpa using k7
      simp only [q7, k7, Bool.false_eq_true, if_false]
      by_cases k8 : s.f0 = 8
      · simp only [k8, BEq.rfl, if_true]
        rw [open_l0 K b hb, Option.bind_some]
        by_cases c : b.length = 0 ∨ b.getD (b.length - 1) false = true
        · rw [if_pos c, if_pos c]
          exact ⟨_, rfl, .inl ⟨_, rfl, rfl⟩⟩
        · rw [if_neg c, if_neg c]
          have hb0 : b.length ≠ 0 := fun h => c (.inl h)
          simp only [onSum]
          rw [wr_in ((b.length : Int) - 1) (by omega) (by omega), if_pos (by omega), show ((b.length : Int) - 1).toNat = b.length - 1 by omega]
          exact list_loop K L hL hok r x (i + 1) _ hd' (by simp at hi; omega) (by simp; omega)
      have q8 : (s.f0 == 8) = false := by simpa using k8
      simp only [q8, k8, Bool.false_eq_true, if_false]
      by_cases k9 : s.f0 = 9
      · simp only [k9, BEq.rfl, if_true]
        by_cases c : b.length = 0
        · rw [if_pos (by simp [c]), if_pos c]
          exact ⟨_, rfl, .inl ⟨_, rfl, rfl⟩⟩
        · rw [if_neg (show ¬ ((b.length : Int) == 0) = true by simp only [beq_iff_eq]; omega), if_neg c, wr_in ((b.length : Int) - 1) (by omega) (by omega), if_pos (by omega), show ((b.length : Int) - 1).toNat = b.length - 1 by omega]
          exact list_loop K L hL hok r x (i + 1) _ hd' (by simp at hi; omega) (by simp; omega)
      have q9 : (s.f0 == 9) = false := by simpa using k9
      simp only [q9, k9, Bool.false_eq_true, if_false]
      exact list_loop K L hL hok r x (i + 1) _ hd' (by simp at hi; omega) hb
theorem list_ok (K : Nat) (L : List Sm) (hL : L.length ≤ 100000000000000) (hok : ∀ s ∈ L, okS K s) (hK : L.length + 10 ≤ K) : check_soundList K nm G C D Tm Ct V St sta L = some (listOk G D Tm Ct V [] L, ()) := by
  unfold check_soundList
  obtain ⟨z, h1, h2⟩ := list_loop nm G C D Tm Ct V St sta K L hL hok L (K - L.length - 1) 0 [] rfl (by omega) (by simp)
  rw [show L.length + (K - L.length - 1) + 1 = K by omega, show ((0 : Nat) : Int) = 0 from rfl] at h1
  rw [h1]
  rcases h2 with ⟨y, rfl, h⟩ | ⟨b', rfl, h⟩
  · rw [h]; rfl
  · rw [h]
    simp only [Option.bind_some, onSum]
    by_cases c : b'.length = 0 <;> simp [c]
end
end Go.Am.Tryd
end

section
namespace Go.Am.Tryd
open Go.Proofs Go.Am Go.RowKit
set_option maxRecDepth 100000
set_option linter.unusedVariables false
section
variable (nm : ByteArray) (G : List S42) (C : List S47) (D : List S110) (Tm Ct : List ByteArray) (V : List S112) (St : List S98) (sta : Int)

theorem ropen_l3 (K : Nat) (b : List Bool) (hb : b.length ≤ 16) : junctionref5_SoundList.l3 K (b.length : Int) b = some (if b.length = 0 ∨ b.getD (b.length - 1) false = true then .inl ((false, ()), b, ()) else .inr (((), ()), b, ())) := by
  unfold junctionref5_SoundList.l3
  by_cases h : b.length = 0
  · simp [h]
  · have hz : ((b.length : Int) == 0) = false := by rw [beq_eq_false_iff_ne]; omega
    rw [hz, if_pos rfl, wr_in ((b.length : Int) - 1) (by omega) (by omega), if_pos (by omega), show ((b.length : Int) - 1).toNat = b.length - 1 by omega]
    by_cases c : b.getD (b.length - 1) false = true
    · rw [if_pos c, if_pos (.inr c)]
    · rw [if_neg c, if_neg (by intro q; rcases q with q | q; exact h q; exact c q)]
theorem rkind (K : Nat) (b : List Bool) (hb : b.length ≤ 16) (s : Sm) :
    (∃ n t b', kindS D Tm Ct V s = some (n, t) ∧ opn b s = some b' ∧ junctionref5_SoundList.l4 K nm G C D Tm Ct V St sta (b.length : Int) 1 0 b s.f0 s.f1 s.f2 s.f3 s.f4 s.f5 = some (.inl (((), t, (), n, ()), b', (s.f0, s.f1, s.f2, s.f3, s.f4, s.f5, ()), ()))) ∨
    ((kindS D Tm Ct V s = none ∨ opn b s = none) ∧ ∃ b', junctionref5_SoundList.l4 K nm G C D Tm Ct V St sta (b.length : Int) 1 0 b s.f0 s.f1 s.f2 s.f3 s.f4 s.f5 = some (.inr ((false, ()), b', (s.f0, s.f1, s.f2, s.f3, s.f4, s.f5, ()), ()))) := by
  unfold junctionref5_SoundList.l4 kindS opn
  have l1 : junctionref5_SoundList.l1 K s.f0 = some ((decide (s.f0 = 2 ∨ s.f0 = 3 ∨ s.f0 = 4), ()), ()) := by
    unfold junctionref5_SoundList.l1
    by_cases h : s.f0 = 2 <;> simp [h]
    by_cases h' : s.f0 = 3 <;> simp [h']
    by_cases h'' : s.f0 = 4 <;> simp [h'']
  have l2 : junctionref5_SoundList.l2 K s.f0 = some ((decide (s.f0 = 5 ∨ s.f0 = 10), ()), ()) := by
    unfold junctionref5_SoundList.l2
    by_cases h : s.f0 = 5 <;> simp [h]
    by_cases h' : s.f0 = 10 <;> simp [h']
  rw [l1, l2, ropen_l3 K b hb]
  simp only [Option.bind_some, decide_eq_true_eq, beq_iff_eq]
  by_cases k1 : s.f0 = 1
  · left
    have n7 : ¬ s.f0 = 7 := by omega
    have n8 : ¬ s.f0 = 8 := by omega
    have n9 : ¬ s.f0 = 9 := by omega
    rw [if_pos k1, if_pos k1, if_neg n7, if_neg n8, if_neg n9]
    exact ⟨_, _, _, rfl, rfl, rfl⟩
  rw [if_neg k1, if_neg k1]
  by_cases k2 : s.f0 = 2 ∨ s.f0 = 3 ∨ s.f0 = 4
  · left
    have n7 : ¬ s.f0 = 7 := by omega
    have n8 : ¬ s.f0 = 8 := by omega
    have n9 : ¬ s.f0 = 9 := by omega
    rw [if_pos k2, if_pos k2, if_neg n7, if_neg n8, if_neg n9]
    exact ⟨_, _, _, rfl, rfl, rfl⟩
  rw [if_neg k2, if_neg k2]
  by_cases k5 : s.f0 = 5 ∨ s.f0 = 10
  · left
    have n7 : ¬ s.f0 = 7 := by omega
    have n8 : ¬ s.f0 = 8 := by omega
    have n9 : ¬ s.f0 = 9 := by omega
    rw [if_pos k5, if_pos k5, if_neg n7, if_neg n8, if_neg n9]
    exact ⟨_, _, _, rfl, rfl, rfl⟩
  rw [if_neg k5, if_neg k5]
  by_cases k6 : s.f0 = 6
  · left
    have n7 : ¬ s.f0 = 7 := by omega
    have n8 : ¬ s.f0 = 8 := by omega
    have n9 : ¬ s.f0 = 9 := by omega
    rw [if_pos k6, if_pos k6, if_neg n7, if_neg n8, if_neg n9]
    exact ⟨_, _, _, rfl, rfl, rfl⟩
  rw [if_neg k6, if_neg k6]
  by_cases k7 : s.f0 = 7
  · simp only [k7, if_true]
    rw [room_pos (by unfold capBytes; simp; omega)]
    by_cases c : b.length = 16
    · right
      refine ⟨.inr (by rw [if_pos c]), b ++ [false], ?_⟩
      rw [if_pos (by simp; omega)]
    · left
      refine ⟨1, 2, b ++ [false], rfl, by rw [if_neg c], ?_⟩
      rw [if_neg (by simp; omega)]
  simp only [k7, if_false]
  by_cases k8 : s.f0 = 8
  · simp only [k8, if_true]
    by_cases c : b.length = 0 ∨ b.getD (b.length - 1) false = true
    · right
      refine ⟨.inr (by rw [if_pos c]), b, ?_⟩
      rw [if_pos c]
      rfl
    · left
      have hb0 : b.length ≠ 0 := fun h => c (.inl h)
      refine ⟨1, 0, b.set (b.length - 1) true, rfl, by rw [if_neg c], ?_⟩
      rw [if_neg c]
      simp only [onSum]
      rw [wr_in ((b.length : Int) - 1) (by omega) (by omega), if_pos (by omega), show ((b.length : Int) - 1).toNat = b.length - 1 by omega]
  simp only [k8, if_false]
  by_cases k9 : s.f0 = 9
  · simp only [k9, if_true]
    by_cases c : b.length = 0
    · right
      refine ⟨.inr (by rw [if_pos c]), b, ?_⟩
      rw [if_pos (by omega)]
    · left
      refine ⟨1, 0, b.take (b.length - 1), rfl, by rw [if_neg c], ?_⟩
      rw [if_neg (by omega), wr_in ((b.length : Int) - 1) (by omega) (by omega), if_pos (by omega), show ((b.length : Int) - 1).toNat = b.length - 1 by omega]
  simp only [k9, if_false]
  right
  first | exact ⟨.inl rfl, _, rfl⟩ | exact ⟨.inl trivial, _, rfl⟩
theorem kind_ty {s : Sm} {n t : Int} (h : kindS D Tm Ct V s = some (n, t)) : t = 0 ∨ t = 1 ∨ t = 2 := by
  unfold kindS at h
  (repeat' split at h) <;> first | (cases h; done) | (simp only [Option.some.injEq, Prod.mk.injEq] at h; omega)
theorem rlist_step (K : Nat) (L : List Sm) (i : Nat) (s : Sm) (hlt : i < L.length) (hy : L.getD i sm0 = s) (hs : okS K s) (b : List Bool) (hb : b.length ≤ 16) :
    (∃ y, junctionref5_SoundList.l6 K L nm G C D Tm Ct V St sta (i : Int) b = some (.inl ((false, ()), y)) ∧ (stmtOk G D Tm Ct V s = false ∨ opn b s = none)) ∨
    (∃ b', junctionref5_SoundList.l6 K L nm G C D Tm Ct V St sta (i : Int) b = some (.inr (((), ()), b', ())) ∧ stmtOk G D Tm Ct V s = true ∧ opn b s = some b') := by
  unfold junctionref5_SoundList.l6
  rw [if_pos (by omega)]
  simp only [Int.toNat_natCast, show L.getD i (S165.mk 0 ByteArray.empty 0 [] 0 0) = s from hy]
  have l0 : junctionref5_SoundList.l0 K s.f0 s.f1 s.f2 s.f3 s.f4 s.f5 = some (if plainS s = true then .inr (((), ()), (s.f0, s.f1, s.f2, s.f3, s.f4, s.f5, ()), ()) else .inl ((false, ()), (s.f0, s.f1, s.f2, s.f3, s.f4, s.f5, ()), ())) := by
    unfold junctionref5_SoundList.l0 plainS
    rw [emptyB]
    by_cases h2 : s.f1.size = 0
    · by_cases h3 : s.f4 = 0
      · by_cases h4 : s.f5 = 0 <;> simp [h2, h3, h4]
      · simp [h2, h3]
    · simp [h2]
  rw [l0, Option.bind_some]
  unfold stmtOk
  cases hp : plainS s with
  | false => exact .inl ⟨_, rfl, .inl rfl⟩
  | true =>
    simp only [if_true, onSum, Bool.true_and]
    rcases rkind nm G C D Tm Ct V St sta K b hb s with ⟨n, t, b', h1, h2, h3⟩ | ⟨h1, b', h2⟩
    rotate_left
    · left
      rw [h2]
      refine ⟨_, rfl, ?_⟩
      rcases h1 with h1 | h1
      · rw [h1]; exact .inl rfl
      · exact .inr h1
    · rw [h3, h1, h2, Option.bind_some]
      simp only
      have l5 : junctionref5_SoundList.l5 K n s.f0 s.f1 s.f2 s.f3 s.f4 s.f5 = some (if 0 ≤ s.f2 ∧ s.f2 < n then .inr (((), ()), (s.f0, s.f1, s.f2, s.f3, s.f4, s.f5, ()), ()) else .inl ((false, ()), (s.f0, s.f1, s.f2, s.f3, s.f4, s.f5, ()), ())) := by
        unfold junctionref5_SoundList.l5
        by_cases q1 : s.f2 < 0
        · have : ¬ (0 ≤ s.f2 ∧ s.f2 < n) := by omega
          simp [q1, this]
        · by_cases q2 : s.f2 ≥ n
          · have : ¬ (0 ≤ s.f2 ∧ s.f2 < n) := by omega
            simp [q1, q2, this]
          · have : (0 ≤ s.f2 ∧ s.f2 < n) := by omega
            rw [if_pos this, decide_eq_false q1, decide_eq_false q2]
            rfl
      rw [l5, Option.bind_some]
      by_cases hr : 0 ≤ s.f2 ∧ s.f2 < n
      rotate_left
      · left
        rw [if_neg hr, decide_eq_false hr]
        exact ⟨_, rfl, .inl rfl⟩
      · rw [if_pos hr, decide_eq_true hr]
        simp only [Bool.true_and]
        rcases kind_ty D Tm Ct V h1 with rfl | ht
        · simp only [BEq.rfl, if_true]
          by_cases he : s.f3 = []
          · right
            rw [he]
            exact ⟨b', rfl, rfl, rfl⟩
          · left
            have hl : decide ((s.f3.length : Int) > 0) = true := by
              have : s.f3.length ≠ 0 := fun h => he (List.length_eq_zero_iff.1 h)
              exact decide_eq_true (by omega)
            rw [hl, decide_eq_false he]
            exact ⟨_, rfl, .inl rfl⟩
        · have hz : ¬ t = 0 := by omega
          have e1 := rexpr_ok nm G C D Tm Ct V St sta K s.f3 t hs.len hs.nd hs.fuel ht
          rw [if_neg (by simpa using hz), if_pos (by simpa using hz), if_neg hz, e1, Option.bind_some]
          cases he : soundE G D Tm Ct V s.f3 t with
          | false => exact .inl ⟨_, rfl, .inl rfl⟩
          | true => exact .inr ⟨b', rfl, rfl, rfl⟩
theorem opn_len {b b' : List Bool} {s : Sm} (h : opn b s = some b') (hb : b.length ≤ 16) : b'.length ≤ 16 := by
  unfold opn at h
  by_cases k7 : s.f0 = 7
  · rw [if_pos k7] at h
    split at h
    · cases h
    · obtain rfl := Option.some.inj h
      simp; omega
  rw [if_neg k7] at h
  by_cases k8 : s.f0 = 8
  · rw [if_pos k8] at h
    split at h
    · cases h
    · obtain rfl := Option.some.inj h
      simp; omega
  rw [if_neg k8] at h
  by_cases k9 : s.f0 = 9
  · rw [if_pos k9] at h
    split at h
    · cases h
    · obtain rfl := Option.some.inj h
      simp; omega
  rw [if_neg k9] at h
  obtain rfl := Option.some.inj h
  exact hb
theorem rlist_loop (K : Nat) (L : List Sm) (hL : L.length ≤ 100000000000000) (hok : ∀ s ∈ L, okS K s) : ∀ (r : List Sm) (x i : Nat) (b : List Bool), L.drop i = r → i + r.length = L.length → b.length ≤ 16 →
    ∃ z, junctionref5_SoundList.l7 K (r.length + x + 1) L nm G C D Tm Ct V St sta (i : Int) b = some z ∧
      ((∃ y, z = .inl ((false, ()), y) ∧ listOk G D Tm Ct V b r = false) ∨ (∃ b', z = .inr (((), ()), b', ()) ∧ listOk G D Tm Ct V b r = decide (b'.length = 0)))
  | [], x, i, b, hd, hi, hb => by
    rw [junctionref5_SoundList.l7, if_neg (by simp at hi; simp; omega)]
    exact ⟨_, rfl, .inr ⟨b, rfl, rfl⟩⟩
  | s :: r, x, i, b, hd, hi, hb => by
    have hlt : i < L.length := by simp at hi; omega
    have hh := congrArg List.head? hd
    rw [List.head?_drop] at hh
    have hy : L.getD i sm0 = s := by rw [List.getD_eq_getElem?_getD, hh]; rfl
    have hso := hok s (List.mem_of_getElem? hh)
    have hd' : L.drop (i + 1) = r := by rw [← List.drop_drop, hd]; rfl
    rw [show (s :: r).length + x + 1 = r.length + x + 1 + 1 by simp; omega, junctionref5_SoundList.l7, if_pos (by simp; omega), wr_in ((i : Int) + 1) (by omega) (by omega), show ((i : Int) + 1) = ((i + 1 : Nat) : Int) by omega]
    unfold listOk
    rcases rlist_step nm G C D Tm Ct V St sta K L i s hlt hy hso b hb with ⟨y, h1, h2⟩ | ⟨b', h1, h2, h3⟩
    · rw [h1]
      refine ⟨_, rfl, .inl ⟨_, rfl, ?_⟩⟩
      rcases h2 with h2 | h2
      · rw [h2]; rfl
      · rw [h2]; simp
    · rw [h1, h2, h3]
      exact rlist_loop K L hL hok r x (i + 1) b' hd' (by simp at hi; omega) (opn_len h3 hb)
theorem rlist_ok (K : Nat) (L : List Sm) (hL : L.length ≤ 100000000000000) (hok : ∀ s ∈ L, okS K s) (hK : L.length + 10 ≤ K) : junctionref5_SoundList K nm G C D Tm Ct V St sta L = some (listOk G D Tm Ct V [] L, ()) := by
  unfold junctionref5_SoundList
  obtain ⟨z, h1, h2⟩ := rlist_loop nm G C D Tm Ct V St sta K L hL hok L (K - L.length - 1) 0 [] rfl (by omega) (by simp)
  rw [show L.length + (K - L.length - 1) + 1 = K by omega, show ((0 : Nat) : Int) = 0 from rfl] at h1
  rw [h1]
  rcases h2 with ⟨y, rfl, h⟩ | ⟨b', rfl, h⟩
  · rw [h]; rfl
  · rw [h]
    simp only [Option.bind_some, onSum]
    by_cases c : b'.length = 0 <;> simp [c]
end
end Go.Am.Tryd
end
