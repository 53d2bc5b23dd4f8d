/- Every list of entries: the law's function answers true. -/
import Derived.Test.YtebbipofemjnmaaDoorTTrace14t
namespace Go.Am.Tryd
open Go.Proofs Go.Am Go.RowKit
set_option maxRecDepth 100000
set_option linter.unusedVariables false

theorem drv_check (K x : Nat) (t : List S38) (hK : 100 ≤ K) (hl : t.length ≤ 65536) : ∀ (m i : Nat), i + m = t.length →
    driver_Trace.l0 K (m + x + 1) t (t.length : Int) (i : Int) = some (if (t.drop i).all tellB then .inr ((), ()) else .inl ((ByteArray.mk #[], 140, ()), ()))
  | 0, i, hi => by
    rw [driver_Trace.l0, if_neg (by simp; omega), List.drop_eq_nil_of_le (by omega)]
    rfl
  | m + 1, i, hi => by
    have hd : t.drop i = nth t i :: t.drop (i + 1) := (List.drop_eq_getElem_cons (by omega)).trans (by
      congr 1
      unfold nth
      rw [List.getD_eq_getElem?_getD, List.getElem?_eq_getElem (by omega)]; rfl)
    rw [driver_Trace.l0, if_pos (by simp; omega), if_pos (by omega), hd, List.all_cons, Int.toNat_natCast]
    have ht := tellable_ok K (nth t i) hK
    unfold nth at ht
    rw [ht, Option.bind_some]
    cases hk : tellB (nth t i)
    · rw [if_pos (by show (!tellB (nth t i)) = true; rw [hk]; rfl)]
      rfl
    · rw [if_neg (by show ¬ (!tellB (nth t i)) = true; rw [hk]; simp), IntWalk.i64_in _ (by omega), show ((i : Int) + 1) = ((i + 1 : Nat) : Int) by omega, show m + 1 + x = m + x + 1 by omega, drv_check K x t hK hl m (i + 1) (by omega)]
      simp only [Bool.true_and]
theorem drv_cmp (K : Nat) (t : List S38) (i j : Nat) (hi : i < t.length) (hj : j ≤ t.length) (hl : t.length ≤ 65536) :
    driver_Trace.l1 K t (i : Int) (j : Int) = some (if j < t.length ∧ nth t j = nth t i then .inr ((), ()) else .inl ((), ())) := by
  unfold driver_Trace.l1
  by_cases he : j < t.length
  · rw [if_pos (by simp; omega), if_pos (by omega), if_pos (by omega), show Go.Am.Ctx.P (Go.Am.Tryd.driver_Trace.x K []) = Tryd.prog from rfl, if_pos guard38, Int.toNat_natCast, Int.toNat_natCast]
    have := same_iff (nth t j) (nth t i)
    unfold same nth at this
    by_cases hs : nth t j = nth t i
    · rw [if_pos (this.2 hs), if_pos ⟨he, hs⟩]
    · rw [if_neg (fun h => hs (this.1 h)), if_neg (fun h => hs h.2)]
  · rw [if_neg (by simp; omega), if_neg (fun h => he h.1)]
theorem drv_scan (K x : Nat) (t : List S38) (i : Nat) (hi : i < t.length) (hl : t.length ≤ 65536) : ∀ (m j : Nat), j + m = t.length → i < j → (∀ q, i ≤ q → q < j → nth t q = nth t i) →
    ∃ j' : Nat, j ≤ j' ∧ j' ≤ t.length ∧ (∀ q, i ≤ q → q < j' → nth t q = nth t i) ∧ (j' = t.length ∨ nth t j' ≠ nth t i) ∧ driver_Trace.l2 K (m + x + 1) t (i : Int) (j : Int) = some (((j' : Int), ()), ())
  | 0, j, hj, hij, hs => by
    refine ⟨j, Nat.le_refl _, by omega, hs, .inl (by omega), ?_⟩
    rw [driver_Trace.l2, drv_cmp K t i j hi (by omega) hl, Option.bind_some, if_neg (by omega)]
    rfl
  | m + 1, j, hj, hij, hs => by
    rw [show m + 1 + x + 1 = m + x + 1 + 1 by omega, driver_Trace.l2, drv_cmp K t i j hi (by omega) hl, Option.bind_some]
    by_cases he : nth t j = nth t i
    · obtain ⟨j', h1, h2, h3, h4, h5⟩ := drv_scan K x t i hi hl m (j + 1) (by omega) (by omega) (fun q h1 h2 => by
        by_cases hq : q = j
        · rw [hq]; exact he
        · exact hs q h1 (by omega))
      refine ⟨j', by omega, h2, h3, h4, ?_⟩
      rw [if_pos ⟨by omega, he⟩]
      simp only [onSum]
      rw [IntWalk.i64_in _ (by omega), show ((j : Int) + 1) = ((j + 1 : Nat) : Int) by omega, h5]
    · refine ⟨j, Nat.le_refl _, by omega, hs, .inr he, ?_⟩
      rw [if_neg (fun h => he h.2)]
      rfl
theorem nums_app (a b : ByteArray) : nums (a ++ b) = nums a ++ nums b := by unfold nums; simp
theorem nums_len (a : ByteArray) : (nums a).length = a.size := by unfold nums; rw [List.length_map]; exact Array.length_toList
theorem write_ok (K : Nat) (s : ByteArray) (xs : List Int) (h : xs.length + s.size ≤ 1000000000000) : Builder_WriteString K s xs = some ((((s.size : Int), (), ()), (), ()), ((), (), ()), xs ++ nums s, ()) := by
  unfold Builder_WriteString
  rw [if_pos (by omega)]
theorem drv_more (K i j : Nat) (xs : List Int) (hi : i < j) (hj : j ≤ 65536) (hx : xs.length ≤ 100000000) :
    driver_Trace.l3 K (i : Int) (j : Int) xs = some (((), ()), ((), (), ()), xs ++ nums (more i (j - 1)), ()) := by
  unfold driver_Trace.l3 more
  rw [IntWalk.i64_in _ (by omega)]
  by_cases hm : j - 1 > i
  · have h6 := I_size ((j - 1 : Nat) : Int) (by omega)
    have s1 : (ByteArray.mk #[(45 : UInt8)]).size = 1 := rfl
    rw [if_pos (by simp; omega), if_pos hm, IntWalk.i64_in _ (by omega), show ((j : Int) - 1) = ((j - 1 : Nat) : Int) by omega, itoa_ok K (j - 1) (by omega), Option.bind_some]
    simp only
    rw [fit (by rw [s1]; omega), write_ok K _ xs (by simp only [sz_app, s1]; omega), Option.bind_some]
    rfl
  · rw [if_neg (by simp; omega), if_neg hm]
    show _ = some (((), ()), ((), (), ()), xs ++ [], ())
    rw [List.append_nil]
theorem drv_loop (K : Nat) (t : List S38) (hK : 70000 ≤ K) (hl : t.length ≤ 65536) (ht : t.all tellB = true) : ∀ (n m x i : Nat) (xs : List Int), m ≤ n → i + m = t.length → xs.length ≤ 300 * i →
    driver_Trace.l6 K (m + x + 1) t (i : Int) xs = some (((), ()), ((), (), ()), xs ++ nums (R t m i i), ())
  | _, 0, x, i, xs, _, hi, hx => by
    rw [driver_Trace.l6, if_neg (by simp; omega), R]
    show _ = some (((), ()), ((), (), ()), xs ++ [], ())
    rw [List.append_nil]
  | 0, m + 1, x, i, xs, hn, hi, hx => by omega
  | n + 1, m + 1, x, i, xs, hn, hi, hx => by
    have hk : tellB (nth t i) = true := by
      have : nth t i ∈ t := by
        unfold nth
        rw [List.getD_eq_getElem?_getD, List.getElem?_eq_getElem (by omega)]
        exact List.getElem_mem _
      exact List.all_eq_true.1 ht _ this
    obtain ⟨j, h1, h2, h3, h4, h5⟩ := drv_scan K (K - (m + 1)) t i (by omega) hl m (i + 1) (by omega) (by omega) (fun q h1 h2 => by rw [show q = i by omega])
    rw [show m + (K - (m + 1)) + 1 = K by omega] at h5
    have hI := I_size (i : Int) (by omega)
    have h6 := more_size i (j - 1) (by omega)
    have h7 := heads_size hk; have h8 := stage_size hk
    have h9 := rest_size hk
    rw [driver_Trace.l6, if_pos (by simp; omega), IntWalk.i64_in _ (by omega), show ((i : Int) + 1) = ((i + 1 : Nat) : Int) by omega, h5, Option.bind_some, itoa_ok K i (by omega), Option.bind_some, write_ok K _ xs (by simp only; omega), Option.bind_some]
    simp only
    rw [drv_more K i j _ (by omega) (by omega) (by rw [List.length_append, nums_len]; omega), Option.bind_some, if_pos (by omega), Int.toNat_natCast]
    have e1 : driver_Trace.l4 K (nth t i).f0 = some ((heads (nth t i), ()), ()) := by
      unfold driver_Trace.l4 heads
      split <;> rfl
    have e2 : driver_Trace.l5 K t (i : Int) (ByteArray.mk #[(45 : UInt8)]) = some ((stage (nth t i), ()), ()) := by
      unfold driver_Trace.l5
      rw [Int.toNat_natCast]
      show (if 0 ≤ (i : Int) ∧ (i : Int) < (t.length : Int) then (if decide ((nth t i).f1 ≥ 0) = true then (if 0 ≤ (i : Int) ∧ (i : Int) < (t.length : Int) then Option.bind (strconv_Itoa K (nth t i).f1) (fun r0 => some ((Prod.fst r0, ()), ())) else none) else some ((dash, ()), ())) else none) = _
      rw [if_pos (by omega)]
      unfold stage
      by_cases hg : (nth t i).f1 ≥ 0
      · obtain ⟨g, hg'⟩ : ∃ g : Nat, (nth t i).f1 = (g : Int) := ⟨(nth t i).f1.toNat, by omega⟩
        have := tell_inv hk
        rw [if_pos (show decide ((nth t i).f1 ≥ 0) = true by simpa using hg), if_pos (show decide ((nth t i).f1 ≥ 0) = true by simpa using hg), if_pos (by omega), hg', itoa_ok K g (by omega)]
        rfl
      · rw [if_neg (show ¬ decide ((nth t i).f1 ≥ 0) = true by simpa using hg), if_neg (show ¬ decide ((nth t i).f1 ≥ 0) = true by simpa using hg)]
    unfold nth at e1
    rw [e1, Option.bind_some, e2, Option.bind_some]
    have s1 : (ByteArray.mk #[(32 : UInt8)]).size = 1 := rfl
    have s2 : (ByteArray.mk #[(10 : UInt8)]).size = 1 := rfl
    simp only
    change (heads (List.getD t i (S38.mk ByteArray.empty (0 : Int)))).size ≤ 64 at h7
    change (rest (List.getD t i (S38.mk ByteArray.empty (0 : Int)))).size ≤ 100 at h9
    rw [fit (by simp only [s1]; omega), fit (by simp only [sz_app, s1]; omega), fit (by simp only [sz_app, s1]; omega), fit (by simp only [sz_app, s1, s2]; omega)]
    have er : (ByteArray.mk #[(32 : UInt8)] ++ heads (List.getD t i (S38.mk ByteArray.empty (0 : Int))) ++ ByteArray.mk #[(32 : UInt8)] ++ stage (nth t i) ++ ByteArray.mk #[(10 : UInt8)]) = rest (List.getD t i (S38.mk ByteArray.empty (0 : Int))) := rfl
    rw [er, write_ok K _ _ (by simp only [List.length_append, nums_len]; omega), Option.bind_some]
    simp only
    have hR := R_stretch t i j h2 h3 h4 (j - 1 - i) i (Nat.le_refl _) (by omega)
    rw [show t.length - i = m + 1 by omega] at hR
    rw [hR, show m + 1 + x = (t.length - j) + (m + x - (t.length - j)) + 1 by omega, drv_loop K t hK hl ht n (t.length - j) _ j _ (by omega) (by omega) (by
      simp only [List.length_append, nums_len]; omega)]
    unfold lineT
    simp only [nums_app, List.append_assoc]
    rfl
theorem bytes_nums (s : ByteArray) : isBytes (nums s) = true := by
  unfold isBytes nums
  rw [List.all_eq_true]
  intro x hx
  obtain ⟨b, _, rfl⟩ := List.mem_map.1 hx
  have := b.toNat_lt
  simp only [Bool.and_eq_true, decide_eq_true_eq]
  omega
theorem str_nums (s : ByteArray) : strOfNums (nums s) = s := by
  apply ByteArray.ext
  apply Array.toList_inj.1
  rw [strOfNums_data]
  unfold nums
  rw [List.map_map]
  conv => rhs; rw [← List.map_id s.data.toList]
  apply List.map_congr_left
  intro b _
  simp only [Function.comp, Int.toNat_natCast, id]
  exact UInt8.ofNat_toNat
theorem drv_trace (K : Nat) (t : List S38) (hK : 70000 ≤ K) : driver_Trace K t = some (((told t).1, (told t).2, ()), ()) := by
  unfold driver_Trace told
  by_cases hl : t.length ≤ 65536
  · rw [if_neg (by simp; omega)]
    have := drv_check K (K - t.length - 1) t (by omega) hl t.length 0 (by omega)
    rw [show t.length + (K - t.length - 1) + 1 = K by omega, List.drop_zero] at this
    rw [show ((0 : Nat) : Int) = 0 from rfl] at this
    rw [this, Option.bind_some]
    cases hk : t.all tellB
    · simp [onSum]
    · simp only [onSum, hl, hk, and_self, if_true]
      have := drv_loop K t hK hl hk t.length t.length (K - t.length - 1) 0 [] (Nat.le_refl _) (by omega) (by simp)
      rw [show t.length + (K - t.length - 1) + 1 = K by omega, List.nil_append] at this
      rw [show ((0 : Nat) : Int) = 0 from rfl] at this
      rw [this, Option.bind_some]
      unfold Builder_String
      simp only
      rw [if_pos (bytes_nums _), Option.bind_some, str_nums]
  · rw [if_pos (by simp; omega), if_neg (by simp; omega)]
theorem same_loop (K x : Nat) (t : List S38) (hl : t.length ≤ 9223372036854775806) : ∀ (m i : Nat), i + m = t.length → junctionlaw14_SameEntries.l0 K (m + x + 1) t t (i : Int) = some (.inr ((), ()))
  | 0, i, hi => by rw [junctionlaw14_SameEntries.l0, if_neg (by simp; omega)]
  | m + 1, i, hi => by
    rw [junctionlaw14_SameEntries.l0, if_pos (by simp; omega), if_pos (by omega), if_pos (by omega), show Go.Am.Ctx.P (Go.Am.Tryd.junctionlaw14_SameEntries.x K []) = Tryd.prog from rfl, if_pos guard38, Int.toNat_natCast]
    have := (same_iff (nth t i) (nth t i)).2 rfl
    unfold same nth at this
    rw [this, if_neg (by simp), IntWalk.i64_in _ (by omega), show ((i : Int) + 1) = ((i + 1 : Nat) : Int) by omega, show m + 1 + x = m + x + 1 by omega, same_loop K x t hl m (i + 1) (by omega)]
theorem law0 (t : List S38) {p : Prop} (h : t.length * 24 ≤ 140737488351232 ∧ p) : junctionlaw14_DriverTraces (t.length + 70000) t = some (true, ()) := by
  unfold junctionlaw14_DriverTraces
  have hr := h.1
  rw [room_pos (by unfold capBytes; omega), drv_trace _ t (by omega), Option.bind_some, ref_trace _ t (by omega), Option.bind_some, if_pos (by simp), if_pos (by simp)]
  unfold junctionlaw14_SameEntries
  have := same_loop (t.length + 70000) 69999 t (by omega) t.length 0 (by omega)
  rw [show ((0 : Nat) : Int) = 0 from rfl, show t.length + 69999 + 1 = t.length + 70000 by omega] at this
  rw [if_neg (by simp), this, Option.bind_some]
  rfl
end Go.Am.Tryd
