/- Tables with marks: what roomyTables, SameTables and kept tell, in lists and numbers. -/
import Derived.Test.YtdgempbldhdihaaP3
import Derived.Test.YtdgempbldhdihaaP4
import Derived.Test.YtdgempbldhdihaaP9
import Derived.Test.YtdgempbldhdihaaP10
namespace Go.Proofs.Ytdgempbldhdihaa.Marks
open Go.RowKit Go.Proofs.YtdgempbldhdihaaW.PrintWords Go.Proofs.YtdgempbldhdihaaW.PrintLast Go.Proofs.YtdgempbldhdihaaW.PrintMore Go.Proofs.Ytdgempbldhdihaa.P

def mg : S43 := ⟨⟨#[]⟩, 0, 77, 0, 0⟩
def mc : S45 := ⟨0, 0, 77, 0⟩
theorem wrap_add {i : Int} {n : Nat} (h0 : 0 ≤ i) (h : i < (n : Int)) (hn : n ≤ 140737488351232) : wrap64 (i + 1) = i + 1 := by
  unfold wrap64
  omega
theorem wrap_of {i : Int} (h0 : 0 ≤ i) (h : i ≤ 281474976710656) : wrap64 i = i := by
  unfold wrap64
  omega

theorem copied_f (l0 : List S43) (l1 : List S45) (b0 : l0.length * 48 ≤ 140737488351232) (b1 : l1.length * 32 ≤ 140737488351232) : junctionlaw6_copied.f l0 l1 = some (l0, l1) := by
  unfold junctionlaw6_copied.f
  rw [if_pos (by simp; omega), if_pos (by simp; omega)]
  simp
theorem roomy_f (l0 : List S43) (l1 : List S45) (b0 : l0.length * 48 ≤ 140737488351232) (b1 : l1.length * 32 ≤ 140737488351232) :
    junctionlaw6_roomyTables.f l0 l1 = some (l0, l1, l0 ++ [mg, mg], l1 ++ [mc, mc], [], []) := by
  unfold junctionlaw6_roomyTables.f
  rw [copied_f l0 l1 b0 b1]
  simp only [Option.bind_some]
  rw [if_pos (by simp; omega), if_pos (by simp; omega), if_pos (by omega), if_pos (by simp; omega), if_pos (by omega), if_pos (by simp; omega)]
  simp [mg, mc]

theorem same_l1 (a : List S43) (b : List S45) (bb : b.length ≤ 140737488351232) (d : Nat) : ∀ (k : Nat) (i : Int), 0 ≤ i → i ≤ b.length → (b.length : Int) - i = d → d < k → junctionref5_SameTables.l1 k i a b a b = some true := by
  induction d with
  | zero =>
    intro k i h0 h1 hd hk
    obtain ⟨k, rfl⟩ : ∃ m, k = m + 1 := ⟨k - 1, by omega⟩
    simp only [junctionref5_SameTables.l1]
    rw [if_neg (by omega)]
  | succ d ih =>
    intro k i h0 h1 hd hk
    obtain ⟨k, rfl⟩ : ∃ m, k = m + 1 := ⟨k - 1, by omega⟩
    simp only [junctionref5_SameTables.l1]
    rw [if_pos (by omega), if_pos h0, if_pos (by omega), if_neg (by simp), wrap_add h0 (by omega) bb]
    exact ih k (i + 1) (by omega) (by omega) (by omega) (by omega)
theorem same_l0 (a : List S43) (b : List S45) (ba : a.length ≤ 140737488351232) (bb : b.length ≤ 140737488351232) (d : Nat) : ∀ (k : Nat) (i : Int), 0 ≤ i → i ≤ a.length → (a.length : Int) - i = d → d + b.length + 1 < k → junctionref5_SameTables.l0 k i a b a b = some true := by
  induction d with
  | zero =>
    intro k i h0 h1 hd hk
    obtain ⟨k, rfl⟩ : ∃ m, k = m + 1 := ⟨k - 1, by omega⟩
    simp only [junctionref5_SameTables.l0]
    rw [if_neg (by omega)]
    exact same_l1 a b bb b.length k 0 (by omega) (by omega) (by omega) (by omega)
  | succ d ih =>
    intro k i h0 h1 hd hk
    obtain ⟨k, rfl⟩ : ∃ m, k = m + 1 := ⟨k - 1, by omega⟩
    simp only [junctionref5_SameTables.l0]
    rw [if_pos (by omega), if_pos h0, if_pos (by omega), if_neg (by simp), wrap_add h0 (by omega) ba]
    exact ih k (i + 1) (by omega) (by omega) (by omega) (by omega)
theorem same_f (a : List S43) (b : List S45) (ba : a.length ≤ 140737488351232) (bb : b.length ≤ 140737488351232) (k : Nat) (hk : a.length + b.length + 2 < k) : junctionref5_SameTables.f k a b a b = some true := by
  unfold junctionref5_SameTables.f
  rw [if_pos rfl]
  obtain ⟨k, rfl⟩ : ∃ m, k = m + 1 := ⟨k - 1, by omega⟩
  simp only [junctionref5_SameTables.j0]
  rw [if_neg (by simp)]
  exact same_l0 a b ba bb a.length k 0 (by omega) (by omega) (by omega) (by omega)

theorem rd43_end (l : List S43) (j : Nat) (hj : j < 2) : rd_T43 (l ++ [mg, mg]) ((l.length : Int) + j) = mg := by
  unfold rd_T43
  have : ((l.length : Int) + j).toNat = l.length + j := by omega
  rw [this, List.getD_eq_getElem?_getD, List.getElem?_append_right (by omega)]
  have : l.length + j - l.length = j := by omega
  rw [this]
  match j, hj with
  | 0, _ => rfl
  | 1, _ => rfl
theorem rd45_end (l : List S45) (j : Nat) (hj : j < 2) : rd_T45 (l ++ [mc, mc]) ((l.length : Int) + j) = mc := by
  unfold rd_T45
  have : ((l.length : Int) + j).toNat = l.length + j := by omega
  rw [this, List.getD_eq_getElem?_getD, List.getElem?_append_right (by omega)]
  have : l.length + j - l.length = j := by omega
  rw [this]
  match j, hj with
  | 0, _ => rfl
  | 1, _ => rfl
theorem kept_f (a : List S43) (b : List S45) (ba : a.length ≤ 140737488351232) (bb : b.length ≤ 140737488351232) (k : Nat) (hk : 2 ≤ k) : junctionlaw6_Room_kept.f k (a ++ [mg, mg]) (b ++ [mc, mc]) [] [] = some true := by
  unfold junctionlaw6_Room_kept.f
  have ea : ((a ++ [mg, mg]).length : Int) = (a.length : Int) + 2 := by simp
  have eb : ((b ++ [mc, mc]).length : Int) = (b.length : Int) + 2 := by simp
  have e1 : wrap64 ((a.length : Int) + 2 - 1) = (a.length : Int) + (1 : Nat) := by unfold wrap64; omega
  have e2 : wrap64 ((a.length : Int) + 2 - 2) = (a.length : Int) + (0 : Nat) := by unfold wrap64; omega
  have e3 : wrap64 ((b.length : Int) + 2 - 1) = (b.length : Int) + (1 : Nat) := by unfold wrap64; omega
  have e4 : wrap64 ((b.length : Int) + 2 - 2) = (b.length : Int) + (0 : Nat) := by unfold wrap64; omega
  rw [ea, eb, e1, e2, e3, e4, rd43_end _ _ (by omega), rd43_end _ _ (by omega), rd45_end _ _ (by omega), rd45_end _ _ (by omega)]
  have hg : mg.f2 = 77 := rfl
  have hc : mc.f2 = 77 := rfl
  rw [if_pos (by omega), if_pos (by omega), if_pos hg, if_pos (by omega), if_pos (by omega), if_pos hg, if_pos (by omega), if_pos (by omega), if_pos hc, if_pos (by omega), if_pos (by omega)]
  obtain ⟨k, rfl⟩ : ∃ m, k = m + 2 := ⟨k - 2, by omega⟩
  simp [junctionlaw6_Room_kept.j0, junctionlaw6_Room_kept.l0, mc]
end Go.Proofs.Ytdgempbldhdihaa.Marks
