/- Every list of entries: the driver's text is the document's: told by one description of both. -/
import Derived.Test.YtebbipofemjnmaaDoorTFn14t
import Derived.Lib.ItoaLen
import Derived.IntWalk
namespace Go.Am.Tryd
open Go.Proofs Go.Am Go.RowKit
set_option maxRecDepth 100000

theorem fit {n : Nat} {β : Type} {K : Option β} (h : n ≤ 1000000000000) : tooLong n K = K :=
  tooLong_pos (by
    have : IntKind.i64.max = 9223372036854775807 := by decide
    omega)
def I (n : Int) : ByteArray := ⟨(Lib.itoa n).toArray⟩
theorem I_size (n : Int) (h : -9223372036854775808 ≤ n ∧ n ≤ 9223372036854775807) : (I n).size ≤ 21 := by
  have := Lib.itoa_length_le n h.1 h.2
  simpa [I, ByteArray.size] using this
theorem num1 (c : Int) : strOfNums (List.map (fun x => x) [c]) = ⟨#[UInt8.ofNat c.toNat]⟩ := rfl
theorem app_list (a b : List UInt8) : (⟨a.toArray⟩ : ByteArray) ++ ⟨b.toArray⟩ = ⟨(a ++ b).toArray⟩ := by
  apply ByteArray.ext
  simp
theorem list_size (a : List UInt8) : (⟨a.toArray⟩ : ByteArray).size = a.length := by simp [ByteArray.size]
theorem dig (d : Nat) (h : d < 10) : IntKind.u8.wrap (IntKind.i64.wrap (48 + (d : Int))) = ((48 + d : Nat) : Int) := by
  rw [IntWalk.i64_in _ (by omega), IntWalk.u8_in _ (by omega)]; omega
def dd (u : Nat) : List UInt8 := if u = 0 then [] else Lib.decDigits u
theorem dd_step (u : Nat) (h : 0 < u) : dd u = dd (u / 10) ++ [UInt8.ofNat (48 + u % 10)] := by
  unfold dd
  rw [if_neg (by omega)]
  by_cases h10 : u < 10
  · rw [if_pos (by omega), Lib.decDigits, dif_pos h10, Nat.mod_eq_of_lt h10]; rfl
  · rw [if_neg (by omega), Lib.decDigits, dif_neg h10]
theorem text_loop (k x : Nat) : ∀ (j u : Nat) (acc : List UInt8), u < 10 ^ j → u ≤ 2147483648 → acc.length + j ≤ 1000 → junctionref1_Text.l0 k (j + x + 1) (u : Int) ⟨acc.toArray⟩ = some ((⟨(dd u ++ acc).toArray⟩, ()), ())
  | j, u, acc, hj, hu, ha => by
    rw [junctionref1_Text.l0]
    by_cases h0 : u = 0
    · subst h0
      rw [if_neg (by simp)]
      rfl
    · rw [if_pos (by simp; omega)]
      have hr : rem (u : Int) 10 = ((u % 10 : Nat) : Int) := by unfold rem; rw [Int.tmod_eq_emod_of_nonneg (by omega)]; omega
      have hq : quo IntKind.i64 (u : Int) 10 = ((u / 10 : Nat) : Int) := by
        unfold quo; rw [IntWalk.i64_quo _ _ (by omega)]; omega
      rw [hr, hq, dig _ (Nat.mod_lt _ (by omega)), num1]
      have e : (⟨#[UInt8.ofNat ((48 + u % 10 : Nat) : Int).toNat]⟩ : ByteArray) = ⟨[UInt8.ofNat (48 + u % 10)].toArray⟩ := by rw [Int.toNat_natCast]
      rw [e, app_list, list_size, list_size]
      match j, hj, ha with
      | 0, hj, ha => simp at hj; omega
      | j + 1, hj, ha =>
        rw [show j + 1 + x = j + x + 1 by omega, fit (by simp; omega), text_loop k x j (u / 10) _ (by rw [Nat.pow_succ] at hj; omega) (by omega) (by simp; omega), dd_step u (by omega)]
        simp
theorem itoa_pos (u : Nat) (h : 0 < u) : Lib.itoa (u : Int) = dd u := by
  rw [Lib.itoa_nonneg]; unfold dd; rw [if_neg (by omega)]
theorem text_ok (K n : Nat) (hK : 100 ≤ K) (h : n ≤ 2147483647) : junctionref1_Text K (n : Int) = some (I n, ()) := by
  unfold junctionref1_Text
  by_cases h0 : n = 0
  · subst h0
    rw [if_pos (by simp)]
    have : I (0 : Nat) = ByteArray.mk #[(48 : UInt8)] := by
      have : Lib.itoa 0 = [48] := by unfold Lib.itoa; rw [if_neg (by omega), Lib.decDigits, dif_pos (by decide)]; rfl
      unfold I
      rw [show (((0 : Nat)) : Int) = 0 from rfl, this]
    rw [this]
  · rw [if_neg (by simp; omega)]
    have hs : junctionref1_size K (IntKind.i64.wrap (n : Int)) = some ((n : Int), ()) := by
      unfold junctionref1_size
      rw [IntWalk.i64_in _ (by omega), if_neg (by simp)]
    have hlt : (2147483648 : Nat) < 10 ^ 99 := by decide
    have := text_loop K (K - 100) 99 n [] (by omega) (by omega) (by simp)
    rw [List.append_nil, show 99 + (K - 100) + 1 = K by omega] at this
    rw [hs, Option.bind_some]
    simp only
    rw [show (ByteArray.mk #[]) = (⟨([] : List UInt8).toArray⟩ : ByteArray) from rfl, this, Option.bind_some, if_neg (by simp)]
    unfold I
    rw [itoa_pos n (by omega)]
theorem dec_ok (K n : Nat) (hK : 100 ≤ K) (h : n ≤ 2147483647) : junctionref14_Decimal_11 K (n : Int) = some (I n, ()) := by
  unfold junctionref14_Decimal_11 junctionref14_Decimal_11.l0
  rw [if_pos (by simp <;> omega), Option.bind_some, if_pos (by simp <;> omega), IntWalk.i32_in _ (by omega), text_ok K n hK h, Option.bind_some]
theorem itoa_ok (K n : Nat) (h : n ≤ 2147483647) : strconv_Itoa K (n : Int) = some (I n, ()) := by
  unfold strconv_Itoa
  rw [if_pos (by omega)]; rfl

/-- The i-th entry; can it be told? -/
def nth (t : List S38) (i : Nat) : S38 := List.getD t i (S38.mk ByteArray.empty (0 : Int))
def okByte (b : UInt8) : Bool := b == 114 || b == 108 || b == 103 || b == 97
def tellB (e : S38) : Bool := decide (e.f0.size ≤ 64) && decide (-1 ≤ e.f1) && decide (e.f1 ≤ 255) && e.f0.data.toList.all okByte
theorem look_all : ∀ n : Fin 256, decide (Lib.indexByte [114, 108, 103, 97] (UInt8.ofNat n.val) < 0) = !okByte (UInt8.ofNat n.val) := by decide +kernel
theorem look (b : UInt8) : decide (Lib.indexByte [114, 108, 103, 97] b < 0) = !okByte b := by
  have := look_all ⟨b.toNat, b.toNat_lt⟩
  rwa [show UInt8.ofNat (⟨b.toNat, b.toNat_lt⟩ : Fin 256).val = b from UInt8.ofNat_toNat] at this
theorem bt_at (s : ByteArray) (i : Nat) (h : i < s.size) : ∃ b, s.data.toList[i]? = some b ∧ bt s (i : Int) = (b.toNat : Int) := by
  have h' : i < s.data.size := h
  refine ⟨s.data[i], (Array.getElem?_toList ..).trans (Array.getElem?_eq_getElem h'), ?_⟩
  unfold bt
  rw [Int.toNat_natCast, Array.getD_eq_getD_getElem?, Array.getElem?_eq_getElem h']
  rfl
theorem size_list (s : ByteArray) : s.data.toList.length = s.size := Array.length_toList

theorem tellable_loop (K x : Nat) (s : ByteArray) (g : Int) : ∀ (m i : Nat), i + m = s.size → s.size ≤ 64 →
    driver_tellable.l1 K (m + x + 1) s g (s.size : Int) (i : Int) = some (if (s.data.toList.drop i).all okByte then .inr ((), ()) else .inl ((false, ()), ()))
  | 0, i, hi, hs => by
    rw [driver_tellable.l1, if_neg (by simp; omega), List.drop_eq_nil_of_le (by rw [size_list]; omega)]
    rfl
  | m + 1, i, hi, hs => by
    obtain ⟨b, hb, hbt⟩ := bt_at s i (by omega)
    rw [driver_tellable.l1, if_pos (by simp; omega), if_pos (by omega), hbt]
    unfold strings_IndexByte
    rw [Option.bind_some]
    simp only
    have e1 : ((b.toNat : Int).toNat).toUInt8 = b := by rw [Int.toNat_natCast]; exact UInt8.ofNat_toNat
    have hd : s.data.toList.drop i = b :: s.data.toList.drop (i + 1) := (List.drop_eq_getElem_cons (by rw [size_list]; omega)).trans (by
      congr 1
      have := (List.getElem?_eq_some_iff.1 hb).2
      exact this)
    rw [e1, hd, List.all_cons]
    have hl := look b
    cases hk : okByte b
    · rw [if_pos (by rw [hk] at hl; exact hl)]
      rfl
    · rw [if_neg (by rw [hk] at hl; intro h; rw [show decide (Lib.indexByte [114, 108, 103, 97] b < 0) = true from h] at hl; cases hl), IntWalk.i64_in _ (by omega), show ((i : Int) + 1) = ((i + 1 : Nat) : Int) by omega, show m + 1 + x = m + x + 1 by omega, tellable_loop K x s g m (i + 1) (by omega) hs]
      rfl
theorem tellable_ok (K : Nat) (e : S38) (hK : 100 ≤ K) : driver_tellable K e.f0 e.f1 = some (tellB e, ()) := by
  unfold driver_tellable driver_tellable.l0 tellB
  by_cases h1 : e.f0.size ≤ 64
  · rw [if_pos (by simp; omega)]
    by_cases h2 : -1 ≤ e.f1
    · rw [if_pos (by simp; omega)]
      by_cases h3 : e.f1 ≤ 255
      · rw [if_neg (by simp; omega), Option.bind_some]
        simp only [onSum]
        have := tellable_loop K (K - e.f0.size - 1) e.f0 e.f1 e.f0.size 0 (by omega) h1
        rw [show e.f0.size + (K - e.f0.size - 1) + 1 = K by omega, List.drop_zero] at this
        rw [show ((0 : Nat) : Int) = 0 from rfl] at this
        rw [this, Option.bind_some]
        simp only [h1, h2, h3, decide_true, Bool.true_and]
        cases e.f0.data.toList.all okByte <;> rfl
      · rw [if_pos (by simp; omega), Option.bind_some]
        simp [onSum, h3]
    · rw [if_neg (by simp; omega), Option.bind_some]
      simp [onSum, h2]
  · rw [if_neg (by simp; omega), Option.bind_some]
    simp [onSum, h1]
theorem ref_byte (K : Nat) (s : ByteArray) (g : Int) (i : Nat) (b : UInt8) (hi : i < s.size) (hbt : bt s (i : Int) = (b.toNat : Int)) :
    junctionref14_told.l1 K s g (i : Int) = some (if okByte b then .inl ((), ()) else .inr ((false, ()), ())) := by
  unfold junctionref14_told.l1
  rw [if_pos (by omega), hbt]
  have ne : ∀ c : UInt8, (((b.toNat : Int) != (c.toNat : Int)) = !(b == c)) := fun c => by
    rw [bne, Bool.not_inj_iff, Bool.eq_iff_iff]
    simp only [beq_iff_eq]
    exact ⟨fun h => UInt8.toNat_inj.1 (by omega), fun h => by rw [h]⟩
  have n1 := ne 114; have n2 := ne 108; have n3 := ne 103; have n4 := ne 97
  rw [show ((114 : UInt8).toNat : Int) = 114 from rfl] at n1
  rw [show ((108 : UInt8).toNat : Int) = 108 from rfl] at n2
  rw [show ((103 : UInt8).toNat : Int) = 103 from rfl] at n3
  rw [show ((97 : UInt8).toNat : Int) = 97 from rfl] at n4
  rw [n1, n2, n3, n4]
  unfold okByte
  cases (b == 114) <;> cases (b == 108) <;> cases (b == 103) <;> cases (b == 97) <;> rfl
theorem told_loop (K x : Nat) (s : ByteArray) (g : Int) : ∀ (m i : Nat), i + m = s.size → s.size ≤ 64 →
    junctionref14_told.l2 K (m + x + 1) s g (i : Int) = some (if (s.data.toList.drop i).all okByte then .inr ((), ()) else .inl ((false, ()), ()))
  | 0, i, hi, hs => by
    rw [junctionref14_told.l2, if_neg (by simp; omega), List.drop_eq_nil_of_le (by rw [size_list]; omega)]
    rfl
  | m + 1, i, hi, hs => by
    obtain ⟨b, hb, hbt⟩ := bt_at s i (by omega)
    have hd : s.data.toList.drop i = b :: s.data.toList.drop (i + 1) := (List.drop_eq_getElem_cons (by rw [size_list]; omega)).trans (by
      congr 1
      have := (List.getElem?_eq_some_iff.1 hb).2
      exact this)
    rw [junctionref14_told.l2, if_pos (by simp; omega), ref_byte K s g i b (by omega) hbt, Option.bind_some, hd, List.all_cons]
    cases okByte b
    · rfl
    · simp only [if_true, onSum]
      rw [IntWalk.i64_in _ (by omega), show ((i : Int) + 1) = ((i + 1 : Nat) : Int) by omega, show m + 1 + x = m + x + 1 by omega, told_loop K x s g m (i + 1) (by omega) hs]
      rfl
theorem told_ok (K : Nat) (e : S38) (hK : 100 ≤ K) : junctionref14_told K e.f0 e.f1 = some (tellB e, ()) := by
  unfold junctionref14_told junctionref14_told.l0 tellB
  by_cases h1 : e.f0.size ≤ 64
  · rw [if_pos (by simp; omega)]
    by_cases h2 : -1 ≤ e.f1
    · rw [if_pos (by simp; omega)]
      by_cases h3 : e.f1 ≤ 255
      · rw [if_neg (by simp; omega), Option.bind_some]
        simp only [onSum]
        have := told_loop K (K - e.f0.size - 1) e.f0 e.f1 e.f0.size 0 (by omega) h1
        rw [show e.f0.size + (K - e.f0.size - 1) + 1 = K by omega, List.drop_zero] at this
        rw [show ((0 : Nat) : Int) = 0 from rfl] at this
        rw [this, Option.bind_some]
        simp only [h1, h2, h3, decide_true, Bool.true_and]
        cases e.f0.data.toList.all okByte <;> rfl
      · rw [if_pos (by simp; omega), Option.bind_some]
        simp [onSum, h3]
    · rw [if_neg (by simp; omega), Option.bind_some]
      simp [onSum, h2]
  · rw [if_neg (by simp; omega), Option.bind_some]
    simp [onSum, h1]
end Go.Am.Tryd
