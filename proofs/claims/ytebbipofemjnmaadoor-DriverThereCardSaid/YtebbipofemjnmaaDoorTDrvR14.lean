/- The driver's Retrace: total; it answers each list that can be told. -/
import Derived.Test.YtebbipofemjnmaaDoorTDrv14
namespace Go.Am.Tryd
open Go.Proofs Go.Am Go.RowKit
set_option maxRecDepth 100000
set_option linter.unusedVariables false

theorem drv_step (K j : Nat) (l : List UInt8) (b0 : List S38) (hK : 70000 ≤ K) (hl : l.length ≤ 1000000000000000) (h0 : l ≠ []) (hb : b0.length ≤ 65536) :
    ∃ b1, driver_Retrace.l2 K (j + 1) (S l) b0 = if (stOk (cutB l 10).1 b0.length && (cutB l 10).2.2) = true then driver_Retrace.l2 K j (S (cutB l 10).2.1) (b0 ++ List.replicate (stN (cutB l 10).1 b0.length).toNat (stE (cutB l 10).1)) else some (.inl (((), 140, ()), b1, [], ())) := by
  have hc := cut_len 10 l
  obtain ⟨n, e, h1, h2⟩ := stretch_ok K (cutB l 10).1 b0.length (by omega) hb (by omega)
  rw [driver_Retrace.l2, show (ByteArray.mk #[]) = S [] from rfl, isS, if_pos (by simp [h0]), show (ByteArray.mk #[(10 : UInt8)]) = S [10] from rfl, cut_ok K l 10 hl, Option.bind_some]
  simp only
  rw [h1, Option.bind_some]
  simp only
  unfold driver_Retrace.l0
  cases hok : stOk (cutB l 10).1 b0.length
  · exact ⟨_, rfl⟩
  · cases hfd : (cutB l 10).2.2
    · exact ⟨_, rfl⟩
    · obtain ⟨rfl, rfl⟩ := h2 hok
      obtain ⟨k1, k2⟩ := stOk_inv hok
      obtain ⟨N, hN⟩ : ∃ N : Nat, stN (cutB l 10).1 b0.length = (N : Int) := ⟨(stN (cutB l 10).1 b0.length).toNat, by omega⟩
      refine ⟨[], ?_⟩
      have hp := push_loop K (K - N - 1) N (by omega) (stH (cutB l 10).1) (stG (cutB l 10).1) N 0 b0 (by omega) (by omega)
      rw [show N + (K - N - 1) + 1 = K by omega] at hp
      rw [show ((0 : Nat) : Int) = 0 from rfl] at hp
      rw [if_pos (by rfl), if_neg (by simp), Option.bind_some]
      simp only [onSum]
      rw [hN, hp, Option.bind_some, if_pos (by rfl), Int.toNat_natCast]
      rfl
theorem drv_total (K : Nat) (hK : 70000 ≤ K) : ∀ (m x : Nat) (l : List UInt8) (b0 : List S38), l.length ≤ m → l.length ≤ 1000000000000000 → b0.length ≤ 65536 →
    (∃ b1, driver_Retrace.l2 K (m + x + 1) (S l) b0 = some (.inl (((), 140, ()), b1, [], ()))) ∨ ∃ b' : List S38, b'.length ≤ 65536 ∧ driver_Retrace.l2 K (m + x + 1) (S l) b0 = some (.inr (((), ()), b', ()))
  | m, x, l, b0, hm, hl, hb => by
    by_cases h0 : l = []
    · subst h0
      refine .inr ⟨b0, hb, ?_⟩
      rw [driver_Retrace.l2, show (ByteArray.mk #[]) = S [] from rfl, isS, if_neg (by simp)]
    · obtain ⟨b1, hs⟩ := drv_step K (m + x) l b0 hK hl h0 hb
      have hc := cut_len 10 l
      rw [hs]
      by_cases hok : (stOk (cutB l 10).1 b0.length && (cutB l 10).2.2) = true
      · rw [if_pos hok]
        simp only [Bool.and_eq_true] at hok
        have h3 := hc.2.2 hok.2
        obtain ⟨k1, k2⟩ := stOk_inv hok.1
        match m, hm with
        | 0, hm => omega
        | m + 1, hm =>
          rw [show m + 1 + x = m + x + 1 by omega]
          exact drv_total K hK m x _ _ (by omega) (by omega) (by simp; omega)
      · rw [if_neg hok]
        exact .inl ⟨_, rfl⟩

/-! ### Lines -/
def headsL (e : S38) : List UInt8 := (heads e).data.toList
def stageL (e : S38) : List UInt8 := (stage e).data.toList
def moreL (a b : Nat) : List UInt8 := (more a b).data.toList
def lineL (a b : Nat) (e : S38) : List UInt8 := (dec a ++ moreL a b) ++ 32 :: (headsL e ++ 32 :: stageL e)
theorem app_data (a b : ByteArray) : (a ++ b).data.toList = a.data.toList ++ b.data.toList := by simp
theorem lineT_list (a b : Nat) (e : S38) : (lineT a b e).data.toList = lineL a b e ++ [10] := by
  unfold lineT rest lineL moreL headsL stageL
  rw [I_dec]
  simp only [app_data, S_list]
  show _ ++ (([32] ++ _ ++ [32] ++ _) ++ [10]) = _
  simp
theorem heads_cases {e : S38} (h : tellB e = true) : (e.f0 = S [] ∧ headsL e = [46]) ∨ (e.f0 ≠ S [] ∧ headsL e = e.f0.data.toList ∧ (headsL e).all okByte = true) := by
  unfold headsL heads
  rw [show (ByteArray.mk #[]) = S [] from rfl, ← S_self e.f0, isS]
  by_cases h0 : e.f0.data.toList = []
  · refine .inl ⟨by rw [h0], ?_⟩
    rw [if_pos (by simpa using h0)]; rfl
  · refine .inr ⟨fun h => h0 (S_inj h), ?_, ?_⟩
    · rw [if_neg (by simpa using h0)]
    · rw [if_neg (by simpa using h0), S_list]
      unfold tellB at h
      simp only [Bool.and_eq_true] at h
      exact h.2
theorem ok_not {l : List UInt8} (h : l.all okByte = true) (c : UInt8) (hc : okByte c = false) : c ∉ l := fun e => by
  have := List.all_eq_true.1 h c e
  rw [hc] at this; cases this
theorem heads_not {e : S38} (h : tellB e = true) (c : UInt8) (hc : okByte c = false) (h46 : c ≠ 46) : c ∉ headsL e := by
  rcases heads_cases h with ⟨_, h1⟩ | ⟨_, _, h1⟩
  · rw [h1]; simpa using h46
  · exact ok_not h1 c hc
theorem heads_back {e : S38} (h : tellB e = true) : (if headsL e = [46] then ByteArray.mk #[] else S (headsL e)) = e.f0 := by
  rcases heads_cases h with ⟨h1, h2⟩ | ⟨h1, h2, h3⟩
  · rw [if_pos h2, h1]; rfl
  · rw [if_neg (fun h => by rw [h] at h3; exact absurd h3 (by decide)), h2, S_self]
theorem stage_cases {e : S38} (h : tellB e = true) : (e.f1 = -1 ∧ stageL e = [45]) ∨ ∃ g : Nat, g ≤ 255 ∧ e.f1 = (g : Int) ∧ stageL e = dec g := by
  have := tell_inv h
  unfold stageL stage
  by_cases hg : e.f1 ≥ 0
  · obtain ⟨g, hg'⟩ : ∃ g : Nat, e.f1 = (g : Int) := ⟨e.f1.toNat, by omega⟩
    refine .inr ⟨g, by omega, hg', ?_⟩
    rw [if_pos (by simpa using hg), hg', I_dec, S_list]
  · refine .inl ⟨by omega, ?_⟩
    rw [if_neg (by simpa using hg)]; rfl
theorem dec_ne (n : Nat) : dec n ≠ [45] := fun h => by
  have := dec_dig n
  rw [h] at this
  exact absurd this (by decide)
theorem stage_back {e : S38} (h : tellB e = true) : (if stageL e = [45] then -1 else num (stageL e)) = e.f1 := by
  rcases stage_cases h with ⟨h1, h2⟩ | ⟨g, h1, h2, h3⟩
  · rw [if_pos h2, h1]
  · rw [h3, if_neg (dec_ne g), num_dec g (by omega), h2]
theorem stage_not {e : S38} (h : tellB e = true) (c : UInt8) (hc : isDig c = false) (h45 : c ≠ 45) : c ∉ stageL e := by
  rcases stage_cases h with ⟨_, h1⟩ | ⟨g, _, _, h1⟩
  · rw [h1]; simpa using h45
  · rw [h1]; exact dig_not (dec_dig g) c hc
theorem more_list (a b : Nat) : moreL a b = if b > a then 45 :: dec b else [] := by
  unfold moreL more
  split
  · rw [app_data, I_dec, S_list]; rfl
  · rfl
theorem more_not (a b : Nat) (c : UInt8) (hc : isDig c = false) (h45 : c ≠ 45) : c ∉ moreL a b := by
  rw [more_list]
  split
  · simp only [List.mem_cons, not_or]
    exact ⟨h45, dig_not (dec_dig b) c hc⟩
  · simp
theorem line_not (a b : Nat) {e : S38} (h : tellB e = true) : (10 : UInt8) ∉ lineL a b e := by
  unfold lineL
  simp only [List.mem_append, List.mem_cons, not_or]
  exact ⟨⟨dig_not (dec_dig a) 10 (by decide), more_not a b 10 (by decide) (by decide)⟩, by decide, heads_not h 10 (by decide) (by decide), by decide, stage_not h 10 (by decide) (by decide)⟩
theorem line_cuts (a b : Nat) {e : S38} (h : tellB e = true) : cutB (lineL a b e) 32 = (dec a ++ moreL a b, headsL e ++ 32 :: stageL e, true) ∧ cutB (headsL e ++ 32 :: stageL e) 32 = (headsL e, stageL e, true) ∧
    cutB (dec a ++ moreL a b) 45 = (dec a, if b > a then dec b else [], decide (b > a)) := by
  refine ⟨cut_found ?_, cut_found (heads_not h 32 (by decide) (by decide)), ?_⟩
  · simp only [List.mem_append, not_or]
    exact ⟨dig_not (dec_dig a) 32 (by decide), more_not a b 32 (by decide) (by decide)⟩
  · rw [more_list]
    have hd := dig_not (dec_dig a) 45 (by decide)
    by_cases hab : b > a
    · rw [if_pos hab, if_pos hab, cut_found hd]; simp [hab]
    · rw [if_neg hab, if_neg hab, List.append_nil, cut_none hd]; simp [hab]
theorem line_read (a j : Nat) {e : S38} (h : tellB e = true) (haj : a < j) (hj : j ≤ 65536) : stOk (lineL a (j - 1) e) a = true ∧ stN (lineL a (j - 1) e) a = ((j - a : Nat) : Int) ∧ stE (lineL a (j - 1) e) = e := by
  obtain ⟨h1, h2, h3⟩ := line_cuts a (j - 1) h
  have hN : stN (lineL a (j - 1) e) a = ((j - a : Nat) : Int) := by
    unfold stN
    rw [h1]
    simp only
    rw [h3]
    simp only [decide_eq_true_eq]
    by_cases hab : j - 1 > a
    · rw [if_pos hab, if_pos hab, num_dec _ (by omega)]; omega
    · rw [if_neg hab]; omega
  have hW : stW (lineL a (j - 1) e) = stageL e := by
    unfold stW
    rw [h1]
    simp only
    rw [h2]
  have hE : stE (lineL a (j - 1) e) = e := by
    have a1 : stH (lineL a (j - 1) e) = e.f0 := by
      unfold stH
      rw [h1]
      simp only
      rw [h2]
      exact heads_back h
    have a2 : stG (lineL a (j - 1) e) = e.f1 := by
      unfold stG
      rw [hW]
      exact stage_back h
    unfold stE
    rw [a1, a2]
  refine ⟨?_, hN, hE⟩
  unfold stOk
  rw [hN, hE, hW, h1]
  simp only
  rw [h2, h3, h]
  simp only [Bool.true_and, Bool.and_true, Bool.and_eq_true, Bool.or_eq_true, decide_eq_true_eq, Bool.not_eq_true', decide_eq_false_iff_not]
  refine ⟨?_, ?_, ?_, ?_, ?_⟩
  · rcases stage_cases h with ⟨_, h4⟩ | ⟨g, h5, _, h4⟩
    · exact .inl h4
    · rw [h4, num_dec g (by omega)]; exact .inr (by omega)
  · exact num_dec a (by omega)
  · omega
  · omega
  · omega
end Go.Am.Tryd
