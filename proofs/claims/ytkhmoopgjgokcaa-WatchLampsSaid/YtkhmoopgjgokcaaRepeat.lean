/- strings.Repeat, by the shelf's contract. -/
import Derived.Test.YtkhmoopgjgokcaaP0
import Derived.Test.YtkhmoopgjgokcaaShelf
namespace Go.Proofs.Ytkhmoopgjgokcaa.P
open Go.RowKit Go.Proofs.YtkhmoopgjgokcaaW.PrintWords
def strings_Repeat.f (s : ByteArray) (c : Int) : Option ByteArray := if 0 ≤ c ∧ s.size * c.toNat ≤ 140737488355328 ∧ c ≤ 9223372036854775807 then some ⟨(Lib.repeatL s.data.toList c.toNat).toArray⟩ else none
theorem strings_Repeat.calls (a0 : ByteArray) (a1 : Int) (r : ByteArray) (w : World) (h : strings_Repeat.f a0 a1 = some r) :
    Calls Try.prog 38 #[.string a0, .int .i64 a1] w fun e w' => e = .returned (.string r) ∧ Below w.heap.size w w' := by
  unfold strings_Repeat.f at h
  split at h
  · rename_i hc
    obtain ⟨h0, h1, h2⟩ := hc
    obtain rfl := Option.some.inj h
    obtain ⟨c, rfl⟩ := Int.eq_ofNat_of_zero_le h0
    have e : (c : Int).toNat = c := by omega
    rw [e] at h1 ⊢
    exact Try.strings_Repeat a0 c w (by omega) h1
  · exact absurd h (by simp)
end Go.Proofs.Ytkhmoopgjgokcaa.P
