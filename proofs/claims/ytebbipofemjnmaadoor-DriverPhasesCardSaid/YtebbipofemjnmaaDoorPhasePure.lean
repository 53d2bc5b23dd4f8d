/- The words for the layers, of every fault: the plain law: the program's words and the document's are the same. -/
import Derived.Test.YtebbipofemjnmaaDoorPhase
namespace Go.Proofs.YtebbipofemjnmaaDoor.Phase
open Go.RowKit Go.Proofs.YtebbipofemjnmaaDoorW.PrintWords Go.Proofs.YtebbipofemjnmaaDoorW.PrintLast Go.Proofs.YtebbipofemjnmaaDoorW.PrintMore Go.Proofs.YtebbipofemjnmaaDoor.P

theorem ref_any (c x y : Int) : junctionref14_Phase.f c x y = junctionref14_Phase.f c 0 0 := rfl
set_option maxRecDepth 100000 in
theorem small : ∀ n : Fin 200, (phase (n.val : Int)).isSome = true ∧ phase (n.val : Int) = junctionref14_Phase.f (n.val : Int) 0 0 := by decide +kernel

set_option maxRecDepth 100000 in
theorem words1_none (c : Int) (h : c < 0 ∨ 200 ≤ c) : driver_words1.f c = some ⟨#[]⟩ := by
  unfold driver_words1.f
  repeat rw [if_neg (by omega)]
set_option maxRecDepth 100000 in
theorem words2_none (c : Int) (h : c < 0 ∨ 200 ≤ c) : driver_words2.f c = some ⟨#[]⟩ := by
  unfold driver_words2.f
  repeat rw [if_neg (by omega)]
set_option maxRecDepth 100000 in
theorem words3_none (c : Int) (h : c < 0 ∨ 200 ≤ c) : driver_words3.f c = some ⟨#[]⟩ := by
  unfold driver_words3.f
  repeat rw [if_neg (by omega)]
theorem wordsOf_none (c : Int) (h : c < 0 ∨ 200 ≤ c) : wordsOf c = some ⟨#[]⟩ := by
  unfold wordsOf
  rw [words1_none c h, words2_none c h, words3_none c h]
  rfl
set_option maxRecDepth 100000 in
theorem saying_none (c : Int) (h : c < 0 ∨ 200 ≤ c) : junctionref14_saying.f c = some (⟨#[]⟩, false) := by
  unfold junctionref14_saying.f
  rcases h with h | h
  · rw [if_pos (by omega)]
    unfold junctionref14_saying1.f
    repeat rw [if_neg (by omega)]
    rfl
  · rw [if_neg (by omega), if_neg (by omega), if_neg (by omega)]
    unfold junctionref14_saying4.f
    repeat rw [if_neg (by omega)]
    rfl
theorem law (c x y : Int) : ∃ r, phase c = some r ∧ junctionref14_Phase.f c x y = some r := by
  rw [ref_any]
  by_cases h : c < 0 ∨ 200 ≤ c
  · refine ⟨⟨#[117, 110, 107, 110, 111, 119, 110]⟩, ?_, ?_⟩
    · unfold phase
      rw [if_neg (by omega), wordsOf_none c h]
      simp only [Option.bind_some]
      rw [if_pos (by rw [ByteArray.toList_eq])]
    · unfold junctionref14_Phase.f
      rw [if_neg (by omega), saying_none c h]
      rfl
  · obtain ⟨n, rfl⟩ : ∃ n : Fin 200, c = (n.val : Int) := ⟨⟨c.toNat, by omega⟩, by simp; omega⟩
    obtain ⟨h1, h2⟩ := small n
    obtain ⟨r, hr⟩ := Option.isSome_iff_exists.1 h1
    exact ⟨r, hr, h2 ▸ hr⟩
end Go.Proofs.YtebbipofemjnmaaDoor.Phase
