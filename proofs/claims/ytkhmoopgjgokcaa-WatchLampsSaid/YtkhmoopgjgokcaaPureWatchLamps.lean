import Derived.Test.YtkhmoopgjgokcaaP17
namespace Go.Proofs.Ytkhmoopgjgokcaa.Pure
open Go.RowKit Go.Proofs.Ytkhmoopgjgokcaa.P Go.Proofs.YtkhmoopgjgokcaaW.PrintWords Go.Proofs.YtkhmoopgjgokcaaW.PrintLast

theorem repeatL_one (b : UInt8) : ∀ n, Lib.repeatL [b] n = List.replicate n b
  | 0 => rfl
  | n + 1 => by
    rw [List.replicate_succ, ← repeatL_one b n]
    rfl

theorem WatchLamps : junctionlaw15_WatchLamps.Pure := by
  intro a0 a1 a2 h0 h2
  unfold junctionlaw15_WatchLamps.f watch_Lamps.f junctionref15_Lamps.f
  cases a1 with
  | false => simp
  | true =>
    have e1 : (⟨#[114]⟩ : ByteArray).size = 1 := rfl
    have e2 : (⟨#[46]⟩ : ByteArray).size = 1 := rfl
    have hr : ∀ b : UInt8, strings_Repeat.f ⟨#[b]⟩ (a0.size : Int) = some ⟨(List.replicate a0.size b).toArray⟩ := by
      intro b
      unfold strings_Repeat.f
      have e : (⟨#[b]⟩ : ByteArray).size = 1 := rfl
      rw [if_pos (by rw [e]; omega)]
      show some (⟨(Lib.repeatL [b] a0.size).toArray⟩ : ByteArray) = _
      rw [repeatL_one]
    simp only [if_true, hr]
    rw [if_pos (show a0.size ≤ 9223372036854775806 by omega)]
    by_cases ht : Int.tmod a2 2 = 0 <;> simp [ht]

end Go.Proofs.Ytkhmoopgjgokcaa.Pure
