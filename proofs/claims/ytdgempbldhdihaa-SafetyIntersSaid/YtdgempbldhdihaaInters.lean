/- Every Inter, of any tables: the plain law: what the map tells is the first row that names both. -/
import Derived.Test.YtdgempbldhdihaaMarks
import Derived.Test.YtdgempbldhdihaaPairs
import Derived.Test.YtdgempbldhdihaaP15
import Derived.Test.YtdgempbldhdihaaFit
namespace Go.Proofs.Ytdgempbldhdihaa.Marks
open Go.RowKit Go.Proofs.YtdgempbldhdihaaW.PrintWords Go.Proofs.YtdgempbldhdihaaW.PrintLast Go.Proofs.YtdgempbldhdihaaW.PrintMore Go.Proofs.Ytdgempbldhdihaa.P Go.Proofs.Ytdgempbldhdihaa.Fit

/-- The first row that names both groups. -/
def inter1 (a b : Int) : List S45 → Option Int
  | [] => none
  | c :: l => if c.f0 = a ∧ c.f1 = b then some c.f2 else if c.f0 = b ∧ c.f1 = a then some c.f3 else inter1 a b l

theorem putF_at (f : Int → Int → Option Int) (x y v a b : Int) : Pr.putF f x y v a b = if (f a b).isSome then f a b else if x = a ∧ y = b then some v else none := by
  unfold Pr.putF Pr.upd
  by_cases h : x = a ∧ y = b
  · obtain ⟨rfl, rfl⟩ := h
    cases hf : f x y <;> simp [hf]
  · have h' : ¬ (a = x ∧ b = y) := fun e => h ⟨e.1.symm, e.2.symm⟩
    split
    · cases hf : f a b <;> simp
    · simp only [if_neg h']
      cases hf : f a b <;> simp
theorem fold_at (a b : Int) : ∀ (l : List S45) (f : Int → Int → Option Int), l.foldl Pr.stepF f a b = if (f a b).isSome then f a b else inter1 a b l
  | [], f => by cases hf : f a b <;> simp [inter1, hf]
  | c :: l, f => by
    rw [List.foldl_cons, fold_at a b l]
    unfold Pr.stepF
    rw [putF_at, putF_at]
    cases hf : f a b with
    | some x => simp
    | none =>
      simp only [Option.isSome_none, inter1]
      by_cases h1 : c.f0 = a ∧ c.f1 = b
      · simp [h1]
      · by_cases h2 : c.f0 = b ∧ c.f1 = a
        · have h2' : c.f1 = a ∧ c.f0 = b := ⟨h2.2, h2.1⟩
          have h1' : ¬ (b = a ∧ a = b) := fun e => h1 ⟨h2.1.trans e.1, h2.2.trans e.2⟩
          simp [h2, h1']
        · have h2' : ¬ (c.f1 = a ∧ c.f0 = b) := fun e => h2 ⟨e.2, e.1⟩
          simp [h1, h2, h2']
theorem interF_at (l : List S45) (a b : Int) : Pr.interF l a b = inter1 a b l := by
  unfold Pr.interF
  rw [fold_at]
  simp

theorem drop_rd {l : List S45} {i : Int} (h0 : 0 ≤ i) (h : i < (l.length : Int)) : l.drop i.toNat = rd_T45 l i :: l.drop (i + 1).toNat := by
  have hl : i.toNat < l.length := by omega
  have e : (i + 1).toNat = i.toNat + 1 := by omega
  unfold rd_T45
  rw [e, List.getD_eq_getElem?_getD, List.getElem?_eq_getElem hl, List.drop_eq_getElem_cons hl]
  rfl
theorem ref_inter (l0 : List S43) (l1 : List S45) (a b : Int) (bb : l1.length ≤ 140737488351232) (d : Nat) : ∀ (k : Nat) (i : Int), 0 ≤ i → i ≤ l1.length → (l1.length : Int) - i = d → 2 * d + 1 ≤ k →
    junctionref6_Inter.l0 k a b i l0 l1 = some ((inter1 a b (l1.drop i.toNat)).getD 0, (inter1 a b (l1.drop i.toNat)).isSome) := by
  induction d with
  | zero =>
    intro k i h0 h1 hd hk
    obtain ⟨k, rfl⟩ : ∃ m, k = m + 1 := ⟨k - 1, by omega⟩
    simp only [junctionref6_Inter.l0]
    rw [if_neg (by omega), List.drop_of_length_le (by omega)]
    rfl
  | succ d ih =>
    intro k i h0 h1 hd hk
    obtain ⟨k, rfl⟩ : ∃ m, k = m + 2 := ⟨k - 2, by omega⟩
    have next := ih k (i + 1) (by omega) (by omega) (by omega) (by omega)
    have hlt : i < (l1.length : Int) := by omega
    rw [drop_rd h0 hlt]
    simp only [junctionref6_Inter.l0, junctionref6_Inter.j1]
    rw [if_pos hlt, if_pos h0, wrap_add h0 hlt bb]
    generalize rd_T45 l1 i = c at *
    by_cases m1 : c.f0 = a ∧ c.f1 = b
    · have e : inter1 a b (c :: l1.drop (i + 1).toNat) = some c.f2 := by simp only [inter1]; rw [if_pos m1]
      have hb : (c.f1 == b) = true := beq_iff_eq.mpr m1.2
      rw [e, if_pos m1.1, hb, if_pos rfl]
      rfl
    · by_cases m2 : c.f0 = b ∧ c.f1 = a
      · have e : inter1 a b (c :: l1.drop (i + 1).toNat) = some c.f3 := by simp only [inter1]; rw [if_neg m1, if_pos m2]
        rw [e]
        by_cases ha : c.f0 = a
        · have hb : (c.f1 == b) = false := beq_eq_false_iff_ne.mpr (fun h => m1 ⟨ha, h⟩)
          rw [if_pos ha, hb, if_neg (by simp), if_pos m2.1, if_pos m2.2]
          rfl
        · rw [if_neg ha, if_neg (by simp), if_pos m2.1, if_pos m2.2]
          rfl
      · have e : inter1 a b (c :: l1.drop (i + 1).toNat) = inter1 a b (l1.drop (i + 1).toNat) := by simp only [inter1]; rw [if_neg m1, if_neg m2]
        rw [e, ← next]
        have tail : (if c.f0 = b then (if c.f1 = a then (some (c.f3, true)) else (junctionref6_Inter.l0 k a b (i + 1) l0 l1)) else (junctionref6_Inter.l0 k a b (i + 1) l0 l1)) = junctionref6_Inter.l0 k a b (i + 1) l0 l1 := by
          by_cases h3 : c.f0 = b
          · rw [if_pos h3, if_neg (fun h => m2 ⟨h3, h⟩)]
          · rw [if_neg h3]
        rw [tail]
        by_cases ha : c.f0 = a
        · have hb : (c.f1 == b) = false := beq_eq_false_iff_ne.mpr (fun h => m1 ⟨ha, h⟩)
          rw [if_pos ha, hb, if_neg (by simp)]
        · rw [if_neg ha, if_neg (by simp)]

theorem okL_mk {l : List S45} (hl : l.length * 32 ≤ 140737488351232) (h : ∀ x ∈ l, ok45 x) : Pr.okL l = true := by
  unfold Pr.okL
  simp only [Bool.and_eq_true, decide_eq_true_eq, List.all_eq_true]
  refine ⟨by omega, fun c hc => ?_⟩
  obtain ⟨h0, h1, h2, h3⟩ := h c hc
  simp [Pr.okCb, h0, h1, h2, h3]
theorem inters (l0 : List S43) (l1 : List S45) (a b : Int) (h : (l0.length * 48 ≤ 140737488351232 ∧ ∀ x ∈ l0, ok43 x) ∧ (l1.length * 32 ≤ 140737488351232 ∧ ∀ x ∈ l1, ok45 x)) (wa : (Lit.int .i64 a).wf = true) (wb : (Lit.int .i64 b).wf = true) :
    ∃ k, junctionlaw6_SafetyInters.f k l0 l1 a b = some true := by
  obtain ⟨⟨b0, _⟩, b1, ho⟩ := h
  refine ⟨l0.length + 2 * l1.length + 5, ?_⟩
  unfold junctionlaw6_SafetyInters.f
  rw [roomy_f l0 l1 b0 b1]
  simp only [Option.bind_some]
  unfold safety_Inter.f junctionref6_Inter.f
  rw [if_pos (by rw [okL_mk b1 ho, wa, wb]; rfl), ref_inter l0 l1 a b (by omega) l1.length _ 0 (by omega) (by omega) (by omega) (by omega), interF_at]
  simp only [Option.bind_some, Int.toNat_zero, List.drop_zero]
  rw [if_pos trivial, if_pos (by simp), same_f l0 l1 (by omega) (by omega) _ (by omega)]
  simp only [Option.bind_some]
  rw [if_pos trivial, kept_f l0 l1 (by omega) (by omega) _ (by omega)]
  rfl
end Go.Proofs.Ytdgempbldhdihaa.Marks
