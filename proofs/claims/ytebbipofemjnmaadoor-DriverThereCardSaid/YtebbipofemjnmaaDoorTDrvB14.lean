/- The driver's Retrace answers just the lists whose text it is given; There and Back. -/
import Derived.Test.YtebbipofemjnmaaDoorTDrvR14
namespace Go.Am.Tryd
open Go.Proofs Go.Am Go.RowKit
set_option maxRecDepth 100000
set_option linter.unusedVariables false

def RL (t : List S38) (i : Nat) : List UInt8 := (R t (t.length - i) i i).data.toList
theorem stretch_at (t : List S38) (i : Nat) (hi : i < t.length) (hl : t.length ≤ 65536) : ∃ j : Nat, i < j ∧ j ≤ t.length ∧ (∀ q, i ≤ q → q < j → nth t q = nth t i) ∧ (j = t.length ∨ nth t j ≠ nth t i) := by
  obtain ⟨j, h1, h2, h3, h4, _⟩ := drv_scan 0 0 t i hi hl (t.length - (i + 1)) (i + 1) (by omega) (by omega) (fun q h1 h2 => by rw [show q = i by omega])
  exact ⟨j, by omega, h2, h3, h4⟩
theorem RL_step (t : List S38) (i j : Nat) (hij : i < j) (hj : j ≤ t.length) (hs : ∀ q, i ≤ q → q < j → nth t q = nth t i) (he : j = t.length ∨ nth t j ≠ nth t i) : RL t i = lineL i (j - 1) (nth t i) ++ 10 :: RL t j := by
  unfold RL
  rw [R_stretch t i j hj hs he (j - 1 - i) i (Nat.le_refl _) (by omega), app_data, lineT_list, List.append_assoc]
  rfl
theorem RL_end (t : List S38) : RL t t.length = [] := by
  unfold RL
  rw [Nat.sub_self]
  rfl
theorem tell_at {t : List S38} (ht : t.all tellB = true) {i : Nat} (hi : i < t.length) : tellB (nth t i) = true := by
  have : nth t i ∈ t := by
    unfold nth
    rw [List.getD_eq_getElem?_getD, List.getElem?_eq_getElem hi]
    exact List.getElem_mem _
  exact List.all_eq_true.1 ht _ this
theorem R_size (t : List S38) (ht : t.all tellB = true) (hl : t.length ≤ 65536) : ∀ (m f i : Nat), i + m = t.length → f ≤ i → (R t m f i).size ≤ 200 * m
  | 0, f, i, _, _ => Nat.zero_le _
  | m + 1, f, i, hi, hf => by
    have h1 := lineT_size f i (tell_at ht (show i < t.length by omega)) (by omega) (by omega)
    rw [R]
    split
    · have := R_size t ht hl m (i + 1) (i + 1) (by omega) (by omega)
      rw [sz_app]; omega
    · have := R_size t ht hl m f (i + 1) (by omega) (by omega)
      omega
theorem take_more (t : List S38) (i j : Nat) (hij : i ≤ j) (hj : j ≤ t.length) (hs : ∀ q, i ≤ q → q < j → nth t q = nth t i) : t.take i ++ List.replicate (j - i) (nth t i) = t.take j := by
  have e : (t.drop i).take (j - i) = List.replicate (j - i) (nth t i) := by
    rw [List.eq_replicate_iff]
    refine ⟨by simp; omega, fun b hb => ?_⟩
    obtain ⟨k, hk, rfl⟩ := List.getElem_of_mem hb
    rw [List.getElem_take, List.getElem_drop]
    simp only [List.length_take, List.length_drop] at hk
    have := hs (i + k) (by omega) (by omega)
    rw [← this]
    unfold nth
    rw [List.getD_eq_getElem?_getD, List.getElem?_eq_getElem (by omega)]
    rfl
  rw [← e, show j = i + (j - i) by omega, List.take_add]
  simp
theorem drv_reads (K : Nat) (t : List S38) (hK : 70000 ≤ K) (hl : t.length ≤ 65536) (ht : t.all tellB = true) : ∀ (n m x i : Nat), t.length - i ≤ n → i ≤ t.length → (RL t i).length ≤ m → (RL t i).length ≤ 1000000000000000 →
    driver_Retrace.l2 K (m + x + 1) (S (RL t i)) (t.take i) = some (.inr (((), ()), t, ()))
  | n, m, x, i, hn, hi, hm, hb => by
    by_cases he : i = t.length
    · subst he
      rw [RL_end, driver_Retrace.l2, show (ByteArray.mk #[]) = S [] from rfl, isS, if_neg (by simp), List.take_length]
    · obtain ⟨j, h1, h2, h3, h4⟩ := stretch_at t i (by omega) hl
      have hk := tell_at ht (show i < t.length by omega)
      have hR := RL_step t i j h1 h2 h3 h4
      obtain ⟨b1, hs⟩ := drv_step K (m + x) (RL t i) (t.take i) hK hb (by rw [hR]; simp) (by simp; omega)
      have hcut : cutB (RL t i) 10 = (lineL i (j - 1) (nth t i), RL t j, true) := by rw [hR]; exact cut_found (line_not i (j - 1) hk)
      have htl : (t.take i).length = i := by simp; omega
      obtain ⟨r1, r2, r3⟩ := line_read i j hk h1 (by omega)
      rw [hcut] at hs
      simp only at hs
      rw [htl, r1, r2, r3, if_pos (by rfl), Int.toNat_natCast, take_more t i j (by omega) h2 h3] at hs
      rw [hs]
      have hlen : (RL t j).length + 1 ≤ (RL t i).length := by rw [hR]; simp <;> omega
      match n, m, hn, hm with
      | 0, _, hn, _ => omega
      | _, 0, _, hm => omega
      | n + 1, m + 1, hn, hm =>
        rw [show m + 1 + x = m + x + 1 by omega]
        exact drv_reads K t hK hl ht n m x j (by omega) h2 (by omega) (by omega)
theorem told_ok0 {t : List S38} (h : (told t).2 = 0) : t.length ≤ 65536 ∧ t.all tellB = true ∧ (told t).1 = S (RL t 0) := by
  unfold told at h ⊢
  split at h
  · rename_i hc
    refine ⟨hc.1, hc.2, ?_⟩
    rw [if_pos hc]
    unfold RL
    rw [S_self]; rfl
  · cases h
theorem told_cases (t : List S38) : (told t).2 = 0 ∨ (told t).2 = 140 := by
  unfold told; split
  · exact .inl rfl
  · exact .inr rfl
theorem drv_answer (K : Nat) (T : ByteArray) (hT : T.size ≤ 1000000000000000) (hK : T.size + 70000 ≤ K) : ∃ (l : List S38) (e : Int), driver_Retrace K T = some ((l, e, ()), ()) ∧ ((l = [] ∧ e = 140) ∨ (e = 0 ∧ (told l).2 = 0 ∧ (told l).1 = T)) := by
  obtain ⟨L, rfl⟩ : ∃ L, T = S L := ⟨T.data.toList, (S_self T).symm⟩
  rw [S_size] at hT hK
  unfold driver_Retrace
  have := drv_total K (by omega) L.length (K - L.length - 1) L [] (Nat.le_refl _) hT (by simp)
  rw [show L.length + (K - L.length - 1) + 1 = K by omega] at this
  rcases this with ⟨b1, h⟩ | ⟨b', hb, h⟩
  · rw [h, Option.bind_some]
    exact ⟨_, _, rfl, .inl ⟨rfl, rfl⟩⟩
  · rw [h, Option.bind_some]
    simp only [onSum]
    unfold driver_Retrace.l3
    rw [drv_trace K b' (by omega), Option.bind_some]
    simp only
    rcases told_cases b' with h0 | h0
    · rw [h0, if_pos (by decide)]
      obtain ⟨_, _, h1⟩ := told_ok0 h0
      rw [h1, isS]
      by_cases hq : RL b' 0 = L
      · rw [if_neg (by simp [hq]), Option.bind_some]
        exact ⟨_, _, rfl, .inr ⟨rfl, h0, by rw [h1, hq]⟩⟩
      · rw [if_pos (by simp [hq]), Option.bind_some]
        exact ⟨_, _, rfl, .inl ⟨rfl, rfl⟩⟩
    · rw [h0, if_neg (by decide), Option.bind_some]
      exact ⟨_, _, rfl, .inl ⟨rfl, rfl⟩⟩
theorem drv_complete (K : Nat) (t : List S38) (h : (told t).2 = 0) (hT : (told t).1.size ≤ 1000000000000000) (hK : (told t).1.size + 70000 ≤ K) : driver_Retrace K (told t).1 = some ((t, 0, ()), ()) := by
  obtain ⟨hl, ht, h1⟩ := told_ok0 h
  rw [h1, S_size] at hT hK
  unfold driver_Retrace
  have := drv_reads K t (by omega) hl ht t.length (RL t 0).length (K - (RL t 0).length - 1) 0 (by omega) (by omega) (Nat.le_refl _) hT
  rw [show (RL t 0).length + (K - (RL t 0).length - 1) + 1 = K by omega, List.take_zero] at this
  rw [h1, this, Option.bind_some]
  simp only [onSum]
  unfold driver_Retrace.l3
  rw [drv_trace K t (by omega), Option.bind_some, h, h1, isS, if_pos (by rfl), if_neg (by simp), Option.bind_some]
end Go.Am.Tryd
