/- Every Clash, of any tables: the plain law. -/
import Derived.Test.YtdgempbldhdihaaMarks
import Derived.Test.YtdgempbldhdihaaP11
namespace Go.Proofs.Ytdgempbldhdihaa.Marks
open Go.RowKit Go.Proofs.YtdgempbldhdihaaW.PrintWords Go.Proofs.YtdgempbldhdihaaW.PrintLast Go.Proofs.YtdgempbldhdihaaW.PrintMore Go.Proofs.Ytdgempbldhdihaa.P

theorem has_some (m g : Int) : ∃ b, safety_has.f m g = some b ∧ junctionref6_has.f m g = some b := by
  unfold safety_has.f junctionref6_has.f
  by_cases h0 : g ≥ 0
  · rw [if_pos h0]
    by_cases h1 : g < 64
    · rw [if_pos h1]
      have hw : 0 ≤ IntKind.u64.wrap g := by
        have : IntKind.u64.wrap g = g := by
          simp [IntKind.wrap, IntKind.bits, IntKind.signed]
          omega
        omega
      rw [if_pos hw]
      exact ⟨_, rfl, rfl⟩
    · rw [if_neg h1]
      exact ⟨_, rfl, rfl⟩
  · rw [if_neg h0]
    exact ⟨_, rfl, rfl⟩

theorem clash_same (l0 : List S43) (l1 : List S45) (m : Int) (bb : l1.length ≤ 140737488351232) (d : Nat) : ∀ (k : Nat) (i : Int), 0 ≤ i → i ≤ l1.length → (l1.length : Int) - i = d → d < k →
    ∃ r, safety_Clash.l0 k m l1 (l1.length : Int) i l0 l1 = some r ∧ junctionref6_Clash.l0 k m (l0.length : Int) i l0 l1 = some r := by
  induction d with
  | zero =>
    intro k i h0 h1 hd hk
    obtain ⟨k, rfl⟩ : ∃ m, k = m + 1 := ⟨k - 1, by omega⟩
    simp only [safety_Clash.l0, junctionref6_Clash.l0]
    rw [if_neg (by omega), if_neg (by omega)]
    exact ⟨_, rfl, rfl⟩
  | succ d ih =>
    intro k i h0 h1 hd hk
    obtain ⟨k, rfl⟩ : ∃ m, k = m + 1 := ⟨k - 1, by omega⟩
    have next := ih k (i + 1) (by omega) (by omega) (by omega) (by omega)
    simp only [safety_Clash.l0, junctionref6_Clash.l0]
    have hlt : i < (l1.length : Int) := by omega
    rw [if_pos hlt, if_pos h0, if_pos hlt, if_pos hlt, if_pos h0, wrap_add h0 (by omega) bb]
    by_cases ha : (rd_T45 l1 i).f0 < (l0.length : Int)
    · rw [if_pos ha, if_pos ha]
      by_cases hb : (rd_T45 l1 i).f1 < (l0.length : Int)
      · rw [if_pos hb, if_pos hb]
        obtain ⟨x, x1, x2⟩ := has_some m (rd_T45 l1 i).f0
        obtain ⟨y, y1, y2⟩ := has_some m (rd_T45 l1 i).f1
        rw [x1, x2, y1, y2]
        simp only [Option.bind_some]
        cases x with
        | false => simpa using next
        | true =>
          cases y with
          | false => simpa using next
          | true => exact ⟨((rd_T45 l1 i).f0, (rd_T45 l1 i).f1, true), by simp, by simp⟩
      · rw [if_neg hb, if_neg hb]
        exact next
    · rw [if_neg ha, if_neg ha]
      exact next

theorem clashes (l0 : List S43) (l1 : List S45) (m : Int) (b0 : l0.length * 48 ≤ 140737488351232) (b1 : l1.length * 32 ≤ 140737488351232) : ∃ k, junctionlaw6_SafetyClashes.f k l0 l1 m = some true := by
  refine ⟨l0.length + l1.length + 5, ?_⟩
  unfold junctionlaw6_SafetyClashes.f
  rw [roomy_f l0 l1 b0 b1]
  simp only [Option.bind_some]
  obtain ⟨r, e1, e2⟩ := clash_same l0 l1 m (by omega) l1.length (l0.length + l1.length + 5) 0 (by omega) (by omega) (by omega) (by omega)
  unfold safety_Clash.f junctionref6_Clash.f
  rw [e1, e2]
  simp only [Option.bind_some]
  rw [if_pos trivial, if_pos trivial, if_pos (by simp), same_f l0 l1 (by omega) (by omega) _ (by omega)]
  simp only [Option.bind_some]
  rw [if_pos trivial, kept_f l0 l1 (by omega) (by omega) _ (by omega)]
  rfl
theorem clashes' {p : S43 → Prop} {q : S45 → Prop} {r : Prop} (l0 : List S43) (l1 : List S45) (m : Int) (h : (l0.length * 48 ≤ 140737488351232 ∧ ∀ x ∈ l0, p x) ∧ (l1.length * 32 ≤ 140737488351232 ∧ ∀ x ∈ l1, q x)) (_ : r) : ∃ k, junctionlaw6_SafetyClashes.f k l0 l1 m = some true :=
  clashes l0 l1 m h.1.1 h.2.1
end Go.Proofs.Ytdgempbldhdihaa.Marks
