/- Texts as lists of bytes: strings.Cut at one byte, numbers that are read back. -/
import Derived.Test.YtebbipofemjnmaaDoorTFn14r
import Derived.Test.YtebbipofemjnmaaDoorTLaw0T
namespace Go.Am.Tryd
open Go.Proofs Go.Am Go.RowKit
set_option maxRecDepth 100000
set_option linter.unusedVariables false

def S (l : List UInt8) : ByteArray := ⟨l.toArray⟩
theorem S_list (l : List UInt8) : (S l).data.toList = l := by simp [S]
theorem S_toList (l : List UInt8) : (S l).toList = l := by rw [toList_eq, S_list]
theorem S_size (l : List UInt8) : (S l).size = l.length := list_size l
theorem S_self (s : ByteArray) : S s.data.toList = s := by apply ByteArray.ext; apply Array.toList_inj.1; rw [S_list]
theorem S_inj {a b : List UInt8} (h : S a = S b) : a = b := by rw [← S_list a, h, S_list]
theorem S_extract (l : List UInt8) (a b : Nat) : ByteArray.extract (S l) a b = S ((l.take b).drop a) := by
  apply ByteArray.ext
  apply Array.toList_inj.1
  rw [ByteArray.data_extract, S_list, Array.toList_extract, S_list, List.extract_eq_take_drop, List.drop_take]

def cutB : List UInt8 → UInt8 → List UInt8 × List UInt8 × Bool
  | [], _ => ([], [], false)
  | b :: l, c => if b == c then ([], l, true) else (b :: (cutB l c).1, (cutB l c).2.1, (cutB l c).2.2)
theorem cutB_index (c : UInt8) : ∀ (l : List UInt8), (0 ≤ Lib.indexByte l c ∧ Lib.indexByte l c < (l.length : Int) ∧ cutB l c = (l.take (Lib.indexByte l c).toNat, l.drop ((Lib.indexByte l c).toNat + 1), true)) ∨ (Lib.indexByte l c = -1 ∧ cutB l c = (l, [], false))
  | [] => .inr ⟨rfl, rfl⟩
  | b :: l => by
    unfold Lib.indexByte cutB
    by_cases hb : (b == c) = true
    · rw [if_pos hb, if_pos hb]
      exact .inl ⟨Int.le_refl _, by simp, rfl⟩
    · rw [if_neg hb, if_neg hb]
      rcases cutB_index c l with ⟨h1, h2, h3⟩ | ⟨h1, h2⟩
      · obtain ⟨n, hn⟩ : ∃ n : Nat, Lib.indexByte l c = (n : Int) := ⟨(Lib.indexByte l c).toNat, by omega⟩
        rw [hn] at h2 h3
        rw [if_neg (by rw [hn]; simp <;> omega), hn, h3]
        refine .inl ⟨by omega, by simp; omega, ?_⟩
        rw [show ((n : Int) + 1).toNat = n + 1 by omega, Int.toNat_natCast]
        rfl
      · rw [if_pos (by rw [h1]; rfl), h2]
        exact .inr ⟨rfl, rfl⟩
theorem cut_ok (K : Nat) (l : List UInt8) (c : UInt8) (h : l.length ≤ 1000000000000000) : strings_Cut K (S l) (S [c]) = some ((S (cutB l c).1, S (cutB l c).2.1, (cutB l c).2.2, ()), ()) := by
  have e1 : stringslite_Index K (S l) (S [c]) = some (Lib.indexByte l c, ()) := by
    unfold stringslite_Index
    rw [S_list, S_list]
  unfold strings_Cut stringslite_Cut
  rw [e1, Option.bind_some]
  simp only
  rw [S_size, S_size]
  rcases cutB_index c l with ⟨h1, h2, h3⟩ | ⟨h1, h2⟩
  · obtain ⟨n, hn⟩ : ∃ n : Nat, Lib.indexByte l c = (n : Int) := ⟨(Lib.indexByte l c).toNat, by omega⟩
    rw [hn, Int.toNat_natCast] at h3
    rw [hn] at h2
    rw [hn, if_pos (by simp), if_pos (by omega), show ((n : Int) + (([c] : List UInt8).length : Int)) = ((n + 1 : Nat) : Int) by simp, IntWalk.i64_in _ (by omega), if_pos (by omega), Option.bind_some, h3, Int.toNat_natCast, Int.toNat_natCast, S_extract, S_extract]
    simp
  · rw [h1, if_neg (by simp), Option.bind_some, h2]
    rfl
theorem cut_found {c : UInt8} {X Y : List UInt8} (h : c ∉ X) : cutB (X ++ c :: Y) c = (X, Y, true) := by
  induction X with
  | nil => simp [cutB]
  | cons b X ih =>
    have hb : ¬ (b == c) = true := fun e => h (by rw [beq_iff_eq.1 e]; exact List.mem_cons_self)
    simp only [List.cons_append, cutB]
    rw [if_neg hb, ih fun e => h (List.mem_cons_of_mem _ e)]
theorem cut_none {c : UInt8} {X : List UInt8} (h : c ∉ X) : cutB X c = (X, [], false) := by
  induction X with
  | nil => rfl
  | cons b X ih =>
    have hb : ¬ (b == c) = true := fun e => h (by rw [beq_iff_eq.1 e]; exact List.mem_cons_self)
    simp only [cutB]
    rw [if_neg hb, ih fun e => h (List.mem_cons_of_mem _ e)]
theorem cut_len (c : UInt8) : ∀ (l : List UInt8), (cutB l c).1.length ≤ l.length ∧ (cutB l c).2.1.length ≤ l.length ∧ ((cutB l c).2.2 = true → (cutB l c).2.1.length + 1 ≤ l.length)
  | [] => by simp [cutB]
  | b :: l => by
    have ⟨h1, h2, h3⟩ := cut_len c l
    unfold cutB
    split
    · simp
    · simp only [List.length_cons]
      exact ⟨by omega, by omega, fun h => by have := h3 h; omega⟩

/-! ### Numbers -/
def isDig (b : UInt8) : Bool := decide (48 ≤ b.toNat) && decide (b.toNat ≤ 57)
def val : List UInt8 → Nat → Nat
  | [], n => n
  | b :: l, n => val l (10 * n + (b.toNat - 48))
def num (l : List UInt8) : Int := if l = [] ∨ 6 < l.length ∨ (1 < l.length ∧ l.head? = some 48) ∨ l.all isDig = false then -1 else (val l 0 : Int)
theorem val_bound : ∀ (l : List UInt8) (n a : Nat), l.all isDig = true → n < 10 ^ a → val l n < 10 ^ (a + l.length)
  | [], n, a, _, h => by simpa [val] using h
  | b :: l, n, a, hd, h => by
    simp only [List.all_cons, Bool.and_eq_true] at hd
    have hb := hd.1
    simp only [isDig, Bool.and_eq_true, decide_eq_true_eq] at hb
    have := val_bound l (10 * n + (b.toNat - 48)) (a + 1) hd.2 (by rw [Nat.pow_succ]; omega)
    simp only [val, List.length_cons]
    rwa [show a + 1 + l.length = a + (l.length + 1) by omega] at this
theorem num_bound (l : List UInt8) : -1 ≤ num l ∧ num l ≤ 999999 := by
  unfold num
  split
  · omega
  · rename_i h
    simp only [not_or] at h
    have := val_bound l 0 0 (by simpa using h.2.2.2) (by decide)
    have hl : l.length ≤ 6 := by omega
    have : val l 0 < 10 ^ 6 := Nat.lt_of_lt_of_le this (Nat.pow_le_pow_right (by omega) (by omega))
    omega
theorem val_app (a b : List UInt8) : ∀ n, val (a ++ b) n = val b (val a n) := by
  induction a with
  | nil => intro n; rfl
  | cons x a ih => intro n; exact ih _
theorem dd_facts : ∀ (n u : Nat), u ≤ n → (dd u).all isDig = true ∧ val (dd u) 0 = u ∧ (0 < u → (dd u).head? ≠ some 48 ∧ dd u ≠ []) ∧ ∀ j, u < 10 ^ j → (dd u).length ≤ j
  | n, 0, _ => ⟨rfl, rfl, fun h => by omega, fun j _ => Nat.zero_le _⟩
  | 0, u + 1, h => by omega
  | n + 1, u + 1, h => by
    obtain ⟨h1, h2, h3, h4⟩ := dd_facts n ((u + 1) / 10) (by omega)
    have hm : (u + 1) % 10 < 10 := Nat.mod_lt _ (by omega)
    have hd : (UInt8.ofNat (48 + (u + 1) % 10)).toNat = 48 + (u + 1) % 10 := UInt8.toNat_ofNat_of_lt' (by show _ < 256; omega)
    rw [dd_step (u + 1) (by omega)]
    refine ⟨?_, ?_, fun _ => ?_, fun j hj => ?_⟩
    · rw [List.all_append, h1]
      simp only [List.all_cons, List.all_nil, isDig, hd, Bool.and_true, Bool.true_and, Bool.and_eq_true, decide_eq_true_eq]
      omega
    · rw [val_app, h2]
      simp only [val, hd]
      omega
    · by_cases h0 : (u + 1) / 10 = 0
      · rw [h0]
        refine ⟨?_, by simp⟩
        show some (UInt8.ofNat (48 + (u + 1) % 10)) ≠ some 48
        intro e
        have e := congrArg UInt8.toNat (Option.some.inj e)
        rw [hd] at e
        have : (48 : UInt8).toNat = 48 := rfl
        omega
      · obtain ⟨k1, k2⟩ := h3 (by omega)
        refine ⟨?_, by simp⟩
        obtain ⟨b, r, hr⟩ : ∃ b r, dd ((u + 1) / 10) = b :: r := by
          cases hq : dd ((u + 1) / 10) with
          | nil => exact absurd hq k2
          | cons b r => exact ⟨b, r, rfl⟩
        rw [hr] at k1 ⊢
        exact k1
    · match j, hj with
      | 0, hj => simp at hj
      | j + 1, hj =>
        have := h4 j (by rw [Nat.pow_succ] at hj; omega)
        simp only [List.length_append, List.length_cons, List.length_nil]
        omega
/-- A number's digits. -/
def dec (n : Nat) : List UInt8 := if n = 0 then [48] else dd n
theorem I_dec (n : Nat) : I (n : Int) = S (dec n) := by
  unfold I S dec
  by_cases h : n = 0
  · subst h
    rw [if_pos rfl]
    have : Lib.itoa 0 = [48] := by unfold Lib.itoa; rw [if_neg (by omega), Lib.decDigits, dif_pos (by decide)]; rfl
    rw [show (((0 : Nat)) : Int) = 0 from rfl, this]
  · rw [if_neg h, itoa_pos n (by omega)]
theorem dec_dig (n : Nat) : (dec n).all isDig = true := by
  unfold dec
  split
  · rfl
  · exact (dd_facts n n (Nat.le_refl _)).1
theorem num_dec (n : Nat) (h : n ≤ 999999) : num (dec n) = n := by
  unfold dec
  split
  · rename_i h0; subst h0; rfl
  · rename_i h0
    obtain ⟨h1, h2, h3, h4⟩ := dd_facts n n (Nat.le_refl _)
    obtain ⟨h5, h6⟩ := h3 (by omega)
    unfold num
    rw [if_neg (by
      simp only [not_or]
      exact ⟨h6, by have := h4 6 (by omega); omega, fun e => h5 e.2, by rw [h1]; simp⟩), h2]
theorem dig_not {l : List UInt8} (h : l.all isDig = true) (c : UInt8) (hc : isDig c = false) : c ∉ l := fun e => by
  have := List.all_eq_true.1 h c e
  rw [hc] at this; cases this
theorem dec_len (n j : Nat) (hj : 0 < j) (h : n < 10 ^ j) : (dec n).length ≤ j := by
  unfold dec
  split
  · show 1 ≤ j; omega
  · exact (dd_facts n n (Nat.le_refl _)).2.2.2 j h
theorem bt_S (l : List UInt8) (i : Nat) (b : UInt8) (r : List UInt8) (h : l.drop i = b :: r) : i < l.length ∧ bt (S l) (i : Int) = (b.toNat : Int) := by
  have hi : i < l.length := by
    rcases Nat.lt_or_ge i l.length with h' | h'
    · exact h'
    · rw [List.drop_eq_nil_of_le h'] at h; cases h
  obtain ⟨b', h1, h2⟩ := bt_at (S l) i (by rw [S_size]; exact hi)
  rw [S_list] at h1
  refine ⟨hi, ?_⟩
  rw [h2]
  have : l[i]? = some b := by
    have := congrArg List.head? h
    rw [List.head?_drop] at this
    exact this
  rw [h1] at this
  rw [Option.some.inj this]
theorem number_loop (K : Nat) (l : List UInt8) (hl : l.length ≤ 6) : ∀ (r : List UInt8) (x i n : Nat), l.drop i = r → n < 10 ^ i → i + r.length = l.length →
    driver_number.l2 K (r.length + x + 1) (S l) (n : Int) (l.length : Int) (i : Int) = some (if r.all isDig then .inr ((((val r n : Nat) : Int), ()), ()) else .inl ((-1, ()), ()))
  | [], x, i, n, hd, hn, hi => by
    rw [driver_number.l2, if_neg (by simp at hi ⊢; omega)]
    rfl
  | b :: r, x, i, n, hd, hn, hi => by
    obtain ⟨hil, hbt⟩ := bt_S l i b r hd
    have hp : 10 ^ i ≤ 10 ^ 5 := Nat.pow_le_pow_right (by omega) (by omega)
    have hb := b.toNat_lt
    rw [List.length_cons, show r.length + 1 + x + 1 = r.length + x + 1 + 1 by omega, driver_number.l2, if_pos (by simp; omega)]
    have e1 : driver_number.l1 K (S l) (i : Int) = some (if isDig b then .inr ((), ()) else .inl ((-1, ()), ())) := by
      unfold driver_number.l1 isDig
      rw [S_size, if_pos (by omega), hbt]
      by_cases h1 : 48 ≤ b.toNat
      · rw [if_pos (by simp; omega), if_pos (by omega)]
        by_cases h2 : b.toNat ≤ 57
        · rw [if_neg (by simp; omega)]; simp [h1, h2]
        · rw [if_pos (by simp; omega)]; simp [h2]
      · rw [if_neg (by simp; omega)]; simp [h1]
    rw [e1, Option.bind_some, List.all_cons]
    cases hk : isDig b
    · rfl
    · simp only [isDig, Bool.and_eq_true, decide_eq_true_eq] at hk
      simp only [if_true, onSum, Bool.true_and]
      rw [S_size, if_pos (by omega), hbt, show ((b.toNat : Int) - 48) = ((b.toNat - 48 : Nat) : Int) by omega, IntWalk.u8_in _ (by omega), IntWalk.i64_in ((b.toNat - 48 : Nat) : Int) (by omega), IntWalk.i64_in (10 * (n : Int)) (by omega), IntWalk.i64_in _ (by omega), IntWalk.i64_in _ (by omega),
        show (10 * (n : Int) + ((b.toNat - 48 : Nat) : Int)) = ((10 * n + (b.toNat - 48) : Nat) : Int) by omega, show ((i : Int) + 1) = ((i + 1 : Nat) : Int) by omega,
        number_loop K l hl r x (i + 1) _ (by rw [← List.drop_drop, hd]; rfl) (by rw [Nat.pow_succ]; omega) (by simp at hi; omega)]
      rfl
theorem number_ok (K : Nat) (l : List UInt8) (hK : 10 ≤ K) : driver_number K (S l) = some (num l, ()) := by
  unfold driver_number driver_number.l0 num
  rw [S_size, S_toList]
  by_cases h1 : l = []
  · subst h1
    rw [if_neg (by rw [show (ByteArray.mk #[]).toList = [] from S_toList []]; decide), Option.bind_some, if_pos (.inl rfl)]
    rfl
  · rw [if_pos (by rw [show (ByteArray.mk #[]).toList = [] from S_toList []]; simpa using h1)]
    by_cases h2 : 6 < l.length
    · rw [if_neg (by simp; omega), Option.bind_some, if_pos (.inr (.inl h2))]
      rfl
    · rw [if_pos (by simp; omega)]
      have hmain : (Option.bind (some (Sum.inr ((), ()) : (Int × Unit) × Unit ⊕ Unit × Unit)) fun r0 =>
          onSum r0 (fun r1 => Option.some (Prod.fst (Prod.fst r1), ())) fun r1 =>
            Option.bind (driver_number.l2 K K (S l) (0 : Int) (↑l.length : Int) (0 : Int)) fun r2 =>
              onSum r2 (fun r3 => Option.some (Prod.fst (Prod.fst r3), ())) fun r3 => Option.some (Prod.fst (Prod.fst r3), ())) = some (if l.all isDig = false then -1 else (val l 0 : Int), ()) := by
        rw [Option.bind_some]
        simp only [onSum]
        have := number_loop K l (by omega) l (K - l.length - 1) 0 0 rfl (by decide) (by omega)
        rw [show l.length + (K - l.length - 1) + 1 = K by omega] at this
        rw [show ((0 : Nat) : Int) = 0 from rfl] at this
        rw [this, Option.bind_some]
        cases l.all isDig <;> rfl
      obtain ⟨b, r, rfl⟩ : ∃ b r, l = b :: r := by
        cases l with
        | nil => exact absurd rfl h1
        | cons b r => exact ⟨b, r, rfl⟩
      have hbt := (bt_S (b :: r) 0 b r rfl).2
      rw [show ((0 : Nat) : Int) = 0 from rfl] at hbt
      by_cases h3 : 1 < (b :: r).length
      · rw [if_pos (by simp only [decide_eq_true_eq]; omega), if_pos (by simp <;> omega), hbt]
        by_cases h4 : b = 48
        · subst h4
          rw [if_pos (by rfl), Option.bind_some, if_pos (.inr (.inr (.inl ⟨h3, rfl⟩)))]
          rfl
        · rw [if_neg (by
            simp only [beq_iff_eq]
            intro e
            exact h4 (UInt8.toNat_inj.1 (by have : (48 : UInt8).toNat = 48 := rfl; omega))), hmain]
          by_cases h5 : (b :: r).all isDig = false
          · rw [if_pos h5, if_pos (.inr (.inr (.inr h5)))]
          · rw [if_neg h5, if_neg (by
              simp only [not_or]
              exact ⟨by simp, by omega, fun e => h4 (Option.some.inj e.2), h5⟩)]
      · rw [if_neg (by simp only [decide_eq_true_eq]; omega), hmain]
        by_cases h5 : (b :: r).all isDig = false
        · rw [if_pos h5, if_pos (.inr (.inr (.inr h5)))]
        · rw [if_neg h5, if_neg (by
            simp only [not_or]
            exact ⟨by simp, by omega, fun e => h3 e.1, h5⟩)]
end Go.Am.Tryd
