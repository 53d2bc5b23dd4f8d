/- Tables with marks: what roomyTables, SameTables and kept tell, in lists and numbers. Every Inter, of any tables: the plain law: what the map tells is the first row that names both. Every Clash, of any tables: the plain law. Sound tables: the two tests tell the same, and what they tell. The bits of masks. The reference's move and Hold answer the same greatest numbers. Every Span, Longest and Hold: the plain law. The library's table lies where the row says so; the law's contract with that as a condition. -/
import Derived.Test.YtdgempbldhdihaaDoorP3
import Derived.Test.YtdgempbldhdihaaDoorP4
import Derived.Test.YtdgempbldhdihaaDoorP28
import Derived.Test.YtdgempbldhdihaaDoorP29
import Derived.Test.YtdgempbldhdihaaDoorPairs
import Derived.Test.YtdgempbldhdihaaDoorP20
import Derived.Test.YtdgempbldhdihaaDoorFit
import Derived.Test.YtdgempbldhdihaaDoorP6
import Derived.Test.YtdgempbldhdihaaDoorP18
import Derived.Test.YtdgempbldhdihaaDoorP8
import Derived.Test.YtdgempbldhdihaaDoorP16
import Derived.Test.YtdgempbldhdihaaDoorSpanA
import Derived.Test.YtdgempbldhdihaaDoorP17
import Derived.Test.YtdgempbldhdihaaDoorP22
import Derived.Test.YtdgempbldhdihaaDoorP27
import Derived.Test.YtdgempbldhdihaaDoorP30
import Derived.Test.YtdgempbldhdihaaDoorRows
import Derived.ProofKit
import Derived.LaidMore
import Derived.OpenShut
import Derived.Stop.Joined
import Derived.SevenTiedAt
import Derived.Test.YtdgempbldhdihaaDoorOpen
namespace Go.Proofs.YtdgempbldhdihaaDoor.Marks
open Go.RowKit Go.Proofs.YtdgempbldhdihaaDoorW.PrintWords Go.Proofs.YtdgempbldhdihaaDoorW.PrintLast Go.Proofs.YtdgempbldhdihaaDoorW.PrintMore Go.Proofs.YtdgempbldhdihaaDoor.P

def mg : S42 := ⟨⟨#[]⟩, 0, 77, 0, 0⟩
def mc : S47 := ⟨0, 0, 77, 0⟩
theorem wrap_add {i : Int} {n : Nat} (h0 : 0 ≤ i) (h : i < (n : Int)) (hn : n ≤ 140737488351232) : wrap64 (i + 1) = i + 1 := by
  unfold wrap64
  omega
theorem wrap_of {i : Int} (h0 : 0 ≤ i) (h : i ≤ 281474976710656) : wrap64 i = i := by
  unfold wrap64
  omega

theorem copied_f (l0 : List S42) (l1 : List S47) (b0 : l0.length * 48 ≤ 140737488351232) (b1 : l1.length * 32 ≤ 140737488351232) : junctionlaw6_copied.f l0 l1 = some (l0, l1) := by
  unfold junctionlaw6_copied.f
  rw [if_pos (by simp; omega), if_pos (by simp; omega)]
  simp
theorem roomy_f (l0 : List S42) (l1 : List S47) (b0 : l0.length * 48 ≤ 140737488351232) (b1 : l1.length * 32 ≤ 140737488351232) :
    junctionlaw6_roomyTables.f l0 l1 = some (l0, l1, l0 ++ [mg, mg], l1 ++ [mc, mc], [], []) := by
  unfold junctionlaw6_roomyTables.f
  rw [copied_f l0 l1 b0 b1]
  simp only [Option.bind_some]
  rw [if_pos (by simp; omega), if_pos (by simp; omega), if_pos (by omega), if_pos (by simp; omega), if_pos (by omega), if_pos (by simp; omega)]
  simp [mg, mc]

theorem same_l1 (a : List S42) (b : List S47) (bb : b.length ≤ 140737488351232) (d : Nat) : ∀ (k : Nat) (i : Int), 0 ≤ i → i ≤ b.length → (b.length : Int) - i = d → d < k → junctionref5_SameTables.l1 k i a b a b = some true := by
  induction d with
  | zero =>
    intro k i h0 h1 hd hk
    obtain ⟨k, rfl⟩ : ∃ m, k = m + 1 := ⟨k - 1, by omega⟩
    simp only [junctionref5_SameTables.l1]
    rw [if_neg (by omega)]
  | succ d ih =>
    intro k i h0 h1 hd hk
    obtain ⟨k, rfl⟩ : ∃ m, k = m + 1 := ⟨k - 1, by omega⟩
    simp only [junctionref5_SameTables.l1]
    rw [if_pos (by omega), if_pos h0, if_pos (by omega), if_neg (by simp), wrap_add h0 (by omega) bb]
    exact ih k (i + 1) (by omega) (by omega) (by omega) (by omega)
theorem same_l0 (a : List S42) (b : List S47) (ba : a.length ≤ 140737488351232) (bb : b.length ≤ 140737488351232) (d : Nat) : ∀ (k : Nat) (i : Int), 0 ≤ i → i ≤ a.length → (a.length : Int) - i = d → d + b.length + 1 < k → junctionref5_SameTables.l0 k i a b a b = some true := by
  induction d with
  | zero =>
    intro k i h0 h1 hd hk
    obtain ⟨k, rfl⟩ : ∃ m, k = m + 1 := ⟨k - 1, by omega⟩
    simp only [junctionref5_SameTables.l0]
    rw [if_neg (by omega)]
    exact same_l1 a b bb b.length k 0 (by omega) (by omega) (by omega) (by omega)
  | succ d ih =>
    intro k i h0 h1 hd hk
    obtain ⟨k, rfl⟩ : ∃ m, k = m + 1 := ⟨k - 1, by omega⟩
    simp only [junctionref5_SameTables.l0]
    rw [if_pos (by omega), if_pos h0, if_pos (by omega), if_neg (by simp), wrap_add h0 (by omega) ba]
    exact ih k (i + 1) (by omega) (by omega) (by omega) (by omega)
theorem same_f (a : List S42) (b : List S47) (ba : a.length ≤ 140737488351232) (bb : b.length ≤ 140737488351232) (k : Nat) (hk : a.length + b.length + 2 < k) : junctionref5_SameTables.f k a b a b = some true := by
  unfold junctionref5_SameTables.f
  rw [if_pos rfl]
  obtain ⟨k, rfl⟩ : ∃ m, k = m + 1 := ⟨k - 1, by omega⟩
  simp only [junctionref5_SameTables.j0]
  rw [if_neg (by simp)]
  exact same_l0 a b ba bb a.length k 0 (by omega) (by omega) (by omega) (by omega)

theorem rd42_end (l : List S42) (j : Nat) (hj : j < 2) : rd_T42 (l ++ [mg, mg]) ((l.length : Int) + j) = mg := by
  unfold rd_T42
  have : ((l.length : Int) + j).toNat = l.length + j := by omega
  rw [this, List.getD_eq_getElem?_getD, List.getElem?_append_right (by omega)]
  have : l.length + j - l.length = j := by omega
  rw [this]
  match j, hj with
  | 0, _ => rfl
  | 1, _ => rfl
theorem rd47_end (l : List S47) (j : Nat) (hj : j < 2) : rd_T47 (l ++ [mc, mc]) ((l.length : Int) + j) = mc := by
  unfold rd_T47
  have : ((l.length : Int) + j).toNat = l.length + j := by omega
  rw [this, List.getD_eq_getElem?_getD, List.getElem?_append_right (by omega)]
  have : l.length + j - l.length = j := by omega
  rw [this]
  match j, hj with
  | 0, _ => rfl
  | 1, _ => rfl
theorem kept_f (a : List S42) (b : List S47) (ba : a.length ≤ 140737488351232) (bb : b.length ≤ 140737488351232) (k : Nat) (hk : 2 ≤ k) : junctionlaw6_Room_kept.f k (a ++ [mg, mg]) (b ++ [mc, mc]) [] [] = some true := by
  unfold junctionlaw6_Room_kept.f
  have ea : ((a ++ [mg, mg]).length : Int) = (a.length : Int) + 2 := by simp
  have eb : ((b ++ [mc, mc]).length : Int) = (b.length : Int) + 2 := by simp
  have e1 : wrap64 ((a.length : Int) + 2 - 1) = (a.length : Int) + (1 : Nat) := by unfold wrap64; omega
  have e2 : wrap64 ((a.length : Int) + 2 - 2) = (a.length : Int) + (0 : Nat) := by unfold wrap64; omega
  have e3 : wrap64 ((b.length : Int) + 2 - 1) = (b.length : Int) + (1 : Nat) := by unfold wrap64; omega
  have e4 : wrap64 ((b.length : Int) + 2 - 2) = (b.length : Int) + (0 : Nat) := by unfold wrap64; omega
  rw [ea, eb, e1, e2, e3, e4, rd42_end _ _ (by omega), rd42_end _ _ (by omega), rd47_end _ _ (by omega), rd47_end _ _ (by omega)]
  have hg : mg.f2 = 77 := rfl
  have hc : mc.f2 = 77 := rfl
  rw [if_pos (by omega), if_pos (by omega), if_pos hg, if_pos (by omega), if_pos (by omega), if_pos hg, if_pos (by omega), if_pos (by omega), if_pos hc, if_pos (by omega), if_pos (by omega)]
  obtain ⟨k, rfl⟩ : ∃ m, k = m + 2 := ⟨k - 2, by omega⟩
  simp [junctionlaw6_Room_kept.j0, junctionlaw6_Room_kept.l0, mc]
end Go.Proofs.YtdgempbldhdihaaDoor.Marks

namespace Go.Proofs.YtdgempbldhdihaaDoor.Marks
open Go.RowKit Go.Proofs.YtdgempbldhdihaaDoorW.PrintWords Go.Proofs.YtdgempbldhdihaaDoorW.PrintLast Go.Proofs.YtdgempbldhdihaaDoorW.PrintMore Go.Proofs.YtdgempbldhdihaaDoor.P Go.Proofs.YtdgempbldhdihaaDoor.Fit

/-- The first row that names both groups. -/
def inter1 (a b : Int) : List S47 → Option Int
  | [] => none
  | c :: l => if c.f0 = a ∧ c.f1 = b then some c.f2 else if c.f0 = b ∧ c.f1 = a then some c.f3 else inter1 a b l

theorem putF_at (f : Int → Int → Option Int) (x y v a b : Int) : Pr.putF f x y v a b = if (f a b).isSome then f a b else if x = a ∧ y = b then some v else none := by
  unfold Pr.putF Pr.upd
  by_cases h : x = a ∧ y = b
  · obtain ⟨rfl, rfl⟩ := h
    cases hf : f x y <;> simp [hf]
  · have h' : ¬ (a = x ∧ b = y) := fun e => h ⟨e.1.symm, e.2.symm⟩
    split
    · cases hf : f a b <;> simp
    · simp only [if_neg h']
      cases hf : f a b <;> simp
theorem fold_at (a b : Int) : ∀ (l : List S47) (f : Int → Int → Option Int), l.foldl Pr.stepF f a b = if (f a b).isSome then f a b else inter1 a b l
  | [], f => by cases hf : f a b <;> simp [inter1, hf]
  | c :: l, f => by
    rw [List.foldl_cons, fold_at a b l]
    unfold Pr.stepF
    rw [putF_at, putF_at]
    cases hf : f a b with
    | some x => simp
    | none =>
      simp only [Option.isSome_none, inter1]
      by_cases h1 : c.f0 = a ∧ c.f1 = b
      · simp [h1]
      · by_cases h2 : c.f0 = b ∧ c.f1 = a
        · have h2' : c.f1 = a ∧ c.f0 = b := ⟨h2.2, h2.1⟩
          have h1' : ¬ (b = a ∧ a = b) := fun e => h1 ⟨h2.1.trans e.1, h2.2.trans e.2⟩
          simp [h2, h1']
        · have h2' : ¬ (c.f1 = a ∧ c.f0 = b) := fun e => h2 ⟨e.2, e.1⟩
          simp [h1, h2, h2']
theorem interF_at (l : List S47) (a b : Int) : Pr.interF l a b = inter1 a b l := by
  unfold Pr.interF
  rw [fold_at]
  simp

theorem drop_rd {l : List S47} {i : Int} (h0 : 0 ≤ i) (h : i < (l.length : Int)) : l.drop i.toNat = rd_T47 l i :: l.drop (i + 1).toNat := by
  have hl : i.toNat < l.length := by omega
  have e : (i + 1).toNat = i.toNat + 1 := by omega
  unfold rd_T47
  rw [e, List.getD_eq_getElem?_getD, List.getElem?_eq_getElem hl, List.drop_eq_getElem_cons hl]
  rfl
theorem ref_inter (l0 : List S42) (l1 : List S47) (a b : Int) (bb : l1.length ≤ 140737488351232) (d : Nat) : ∀ (k : Nat) (i : Int), 0 ≤ i → i ≤ l1.length → (l1.length : Int) - i = d → 2 * d + 1 ≤ k →
    junctionref6_Inter.l0 k a b i l0 l1 = some ((inter1 a b (l1.drop i.toNat)).getD 0, (inter1 a b (l1.drop i.toNat)).isSome) := by
  induction d with
  | zero =>
    intro k i h0 h1 hd hk
    obtain ⟨k, rfl⟩ : ∃ m, k = m + 1 := ⟨k - 1, by omega⟩
    simp only [junctionref6_Inter.l0]
    rw [if_neg (by omega), List.drop_of_length_le (by omega)]
    rfl
  | succ d ih =>
    intro k i h0 h1 hd hk
    obtain ⟨k, rfl⟩ : ∃ m, k = m + 2 := ⟨k - 2, by omega⟩
    have next := ih k (i + 1) (by omega) (by omega) (by omega) (by omega)
    have hlt : i < (l1.length : Int) := by omega
    rw [drop_rd h0 hlt]
    simp only [junctionref6_Inter.l0, junctionref6_Inter.j1]
    rw [if_pos hlt, if_pos h0, wrap_add h0 hlt bb]
    generalize rd_T47 l1 i = c at *
    by_cases m1 : c.f0 = a ∧ c.f1 = b
    · have e : inter1 a b (c :: l1.drop (i + 1).toNat) = some c.f2 := by simp only [inter1]; rw [if_pos m1]
      have hb : (c.f1 == b) = true := beq_iff_eq.mpr m1.2
      rw [e, if_pos m1.1, hb, if_pos rfl]
      rfl
    · by_cases m2 : c.f0 = b ∧ c.f1 = a
      · have e : inter1 a b (c :: l1.drop (i + 1).toNat) = some c.f3 := by simp only [inter1]; rw [if_neg m1, if_pos m2]
        rw [e]
        by_cases ha : c.f0 = a
        · have hb : (c.f1 == b) = false := beq_eq_false_iff_ne.mpr (fun h => m1 ⟨ha, h⟩)
          rw [if_pos ha, hb, if_neg (by simp), if_pos m2.1, if_pos m2.2]
          rfl
        · rw [if_neg ha, if_neg (by simp), if_pos m2.1, if_pos m2.2]
          rfl
      · have e : inter1 a b (c :: l1.drop (i + 1).toNat) = inter1 a b (l1.drop (i + 1).toNat) := by simp only [inter1]; rw [if_neg m1, if_neg m2]
        rw [e, ← next]
        have tail : (if c.f0 = b then (if c.f1 = a then (some (c.f3, true)) else (junctionref6_Inter.l0 k a b (i + 1) l0 l1)) else (junctionref6_Inter.l0 k a b (i + 1) l0 l1)) = junctionref6_Inter.l0 k a b (i + 1) l0 l1 := by
          by_cases h3 : c.f0 = b
          · rw [if_pos h3, if_neg (fun h => m2 ⟨h3, h⟩)]
          · rw [if_neg h3]
        rw [tail]
        by_cases ha : c.f0 = a
        · have hb : (c.f1 == b) = false := beq_eq_false_iff_ne.mpr (fun h => m1 ⟨ha, h⟩)
          rw [if_pos ha, hb, if_neg (by simp)]
        · rw [if_neg ha, if_neg (by simp)]

theorem okL_mk {l : List S47} (hl : l.length * 32 ≤ 140737488351232) (h : ∀ x ∈ l, ok47 x) : Pr.okL l = true := by
  unfold Pr.okL
  simp only [Bool.and_eq_true, decide_eq_true_eq, List.all_eq_true]
  refine ⟨by omega, fun c hc => ?_⟩
  obtain ⟨h0, h1, h2, h3⟩ := h c hc
  simp [Pr.okCb, h0, h1, h2, h3]
end Go.Proofs.YtdgempbldhdihaaDoor.Marks

namespace Go.Proofs.YtdgempbldhdihaaDoor.Marks
open Go.RowKit Go.Proofs.YtdgempbldhdihaaDoorW.PrintWords Go.Proofs.YtdgempbldhdihaaDoorW.PrintLast Go.Proofs.YtdgempbldhdihaaDoorW.PrintMore Go.Proofs.YtdgempbldhdihaaDoor.P

theorem has_some (m g : Int) : ∃ b, safety_has.f m g = some b ∧ junctionref6_has.f m g = some b := by
  unfold safety_has.f junctionref6_has.f
  by_cases h0 : g ≥ 0
  · rw [if_pos h0]
    by_cases h1 : g < 64
    · rw [if_pos h1]
      have hw : 0 ≤ IntKind.u64.wrap g := by
        have : IntKind.u64.wrap g = g := by
          simp [IntKind.wrap, IntKind.bits, IntKind.signed]
          omega
        omega
      rw [if_pos hw]
      exact ⟨_, rfl, rfl⟩
    · rw [if_neg h1]
      exact ⟨_, rfl, rfl⟩
  · rw [if_neg h0]
    exact ⟨_, rfl, rfl⟩

theorem clash_same (l0 : List S42) (l1 : List S47) (m : Int) (bb : l1.length ≤ 140737488351232) (d : Nat) : ∀ (k : Nat) (i : Int), 0 ≤ i → i ≤ l1.length → (l1.length : Int) - i = d → d < k →
    ∃ r, safety_Clash.l0 k m l1 (l1.length : Int) i l0 l1 = some r ∧ junctionref6_Clash.l0 k m (l0.length : Int) i l0 l1 = some r := by
  induction d with
  | zero =>
    intro k i h0 h1 hd hk
    obtain ⟨k, rfl⟩ : ∃ m, k = m + 1 := ⟨k - 1, by omega⟩
    simp only [safety_Clash.l0, junctionref6_Clash.l0]
    rw [if_neg (by omega), if_neg (by omega)]
    exact ⟨_, rfl, rfl⟩
  | succ d ih =>
    intro k i h0 h1 hd hk
    obtain ⟨k, rfl⟩ : ∃ m, k = m + 1 := ⟨k - 1, by omega⟩
    have next := ih k (i + 1) (by omega) (by omega) (by omega) (by omega)
    simp only [safety_Clash.l0, junctionref6_Clash.l0]
    have hlt : i < (l1.length : Int) := by omega
    rw [if_pos hlt, if_pos h0, if_pos hlt, if_pos hlt, if_pos h0, wrap_add h0 (by omega) bb]
    by_cases ha : (rd_T47 l1 i).f0 < (l0.length : Int)
    · rw [if_pos ha, if_pos ha]
      by_cases hb : (rd_T47 l1 i).f1 < (l0.length : Int)
      · rw [if_pos hb, if_pos hb]
        obtain ⟨x, x1, x2⟩ := has_some m (rd_T47 l1 i).f0
        obtain ⟨y, y1, y2⟩ := has_some m (rd_T47 l1 i).f1
        rw [x1, x2, y1, y2]
        simp only [Option.bind_some]
        cases x with
        | false => simpa using next
        | true =>
          cases y with
          | false => simpa using next
          | true => exact ⟨((rd_T47 l1 i).f0, (rd_T47 l1 i).f1, true), by simp, by simp⟩
      · rw [if_neg hb, if_neg hb]
        exact next
    · rw [if_neg ha, if_neg ha]
      exact next

end Go.Proofs.YtdgempbldhdihaaDoor.Marks

namespace Go.Proofs.YtdgempbldhdihaaDoor.Marks
open Go.RowKit Go.Proofs.YtdgempbldhdihaaDoorW.PrintWords Go.Proofs.YtdgempbldhdihaaDoorW.PrintLast Go.Proofs.YtdgempbldhdihaaDoorW.PrintMore Go.Proofs.YtdgempbldhdihaaDoor.P

def inB (x lo hi : Int) : Bool := decide (lo ≤ x ∧ x ≤ hi)
theorem in_f (x lo hi : Int) : check_in.f x lo hi = some (inB x lo hi) := by
  unfold check_in.f inB
  by_cases h : x ≥ lo
  · rw [if_pos h]
    by_cases h2 : x ≤ hi
    · simp [h2]; omega
    · simp [h2]
  · rw [if_neg h]
    have : ¬ (lo ≤ x ∧ x ≤ hi) := by omega
    simp [this]
theorem within_f (x lo hi : Int) : junctionref5_within.f x lo hi = some (inB x lo hi) := in_f x lo hi
def gB (g : S42) : Bool := inB g.f1 1 2 && (inB g.f2 1 3600 && (inB g.f3 0 60 && inB g.f4 0 60))
def cB (n : Int) (c : S47) : Bool := decide (0 ≤ c.f0) && (decide (c.f0 < c.f1) && (decide (c.f1 < n) && (inB c.f2 0 3600 && inB c.f3 0 3600)))

theorem grid_l1 (l0 : List S42) (l1 : List S47) (bb : l1.length ≤ 140737488351232) (d : Nat) : ∀ (k : Nat) (i a b : Int), 0 ≤ i → i ≤ l1.length → (l1.length : Int) - i = d → 2 * d < k →
    (i = 0 → a = -1 ∧ b = -1) → (0 < i → a = (rd_T47 l1 (i - 1)).f0 ∧ b = (rd_T47 l1 (i - 1)).f1) →
    ∃ r, check_Grid.l1 k a b l1 (l1.length : Int) i l0 l1 = some r ∧ junctionref5_Grid.l1 k (l0.length : Int) i l0 l1 = some r ∧ (r = true → ∀ j : Int, i ≤ j → j < l1.length → cB l0.length (rd_T47 l1 j) = true) := by
  induction d with
  | zero =>
    intro k i a b h0 h1 hd hk _ _
    obtain ⟨k, rfl⟩ : ∃ m, k = m + 1 := ⟨k - 1, by omega⟩
    simp only [check_Grid.l1, junctionref5_Grid.l1]
    rw [if_neg (by omega), if_neg (by omega)]
    exact ⟨true, rfl, rfl, fun _ j hj hj2 => by omega⟩
  | succ d ih =>
    intro k i a b h0 h1 hd hk ha hb
    obtain ⟨k, rfl⟩ : ∃ m, k = m + 2 := ⟨k - 2, by omega⟩
    have hlt : i < (l1.length : Int) := by omega
    have next := ih k (i + 1) (rd_T47 l1 i).f0 (rd_T47 l1 i).f1 (by omega) (by omega) (by omega) (by omega) (fun h => by omega) (fun _ => by rw [show i + 1 - 1 = i by omega]; exact ⟨rfl, rfl⟩)
    simp only [check_Grid.l1, junctionref5_Grid.l1, in_f, within_f, Option.bind_some]
    rw [if_pos hlt, if_pos h0, if_pos hlt, if_pos hlt, if_pos h0]
    generalize hc : rd_T47 l1 i = c at *
    by_cases c1 : c.f0 < 0
    · rw [if_pos c1, if_pos c1]
      exact ⟨false, by simp [check_Grid.j2], by simp [junctionref5_Grid.j2], fun h => by cases h⟩
    rw [if_neg c1, if_neg c1]
    by_cases c2 : c.f1 ≤ c.f0
    · rw [if_pos c2, if_pos c2]
      exact ⟨false, by simp [check_Grid.j2], by simp [junctionref5_Grid.j2], fun h => by cases h⟩
    rw [if_neg c2, if_neg c2]
    by_cases c3 : c.f1 ≥ (l0.length : Int)
    · rw [if_pos c3, if_pos c3]
      exact ⟨false, by simp [check_Grid.j2], by simp [junctionref5_Grid.j2], fun h => by cases h⟩
    rw [if_neg c3, if_neg c3]
    cases c4 : inB c.f2 0 3600 with
    | false => exact ⟨false, by simp [check_Grid.j2], by simp [junctionref5_Grid.j2], fun h => by cases h⟩
    | true =>
      rw [if_pos rfl, if_pos rfl]
      cases c5 : inB c.f3 0 3600 with
      | false => exact ⟨false, by simp [check_Grid.j2], by simp [junctionref5_Grid.j2], fun h => by cases h⟩
      | true =>
        have hcB : cB (l0.length : Int) c = true := by
          unfold cB
          rw [c4, c5]
          simp
          omega
        have hgo : ∃ r, check_Grid.l1 k c.f0 c.f1 l1 (l1.length : Int) (wrap64 (i + 1)) l0 l1 = some r ∧ junctionref5_Grid.l1 k (l0.length : Int) (wrap64 (i + 1)) l0 l1 = some r ∧ (r = true → ∀ j : Int, i ≤ j → j < l1.length → cB l0.length (rd_T47 l1 j) = true) := by
          rw [wrap_add h0 (by omega) bb]
          obtain ⟨r, e1, e2, e3⟩ := next
          refine ⟨r, e1, e2, fun hr j hj hj2 => ?_⟩
          by_cases e : j = i
          · subst e
            rw [hc]
            exact hcB
          · exact e3 hr j (by omega) hj2
        simp only [check_Grid.j2, junctionref5_Grid.j2, Bool.not_true, Bool.false_eq_true, if_false]
        by_cases hi : i = 0
        · obtain ⟨rfl, rfl⟩ := ha hi
          rw [if_neg (show ¬ c.f0 < -1 by omega), if_neg (show ¬ c.f0 = -1 by omega), if_neg (show ¬ i > 0 by omega)]
          exact hgo
        · obtain ⟨rfl, rfl⟩ := hb (by omega)
          have hw : wrap64 (i - 1) = i - 1 := wrap_of (by omega) (by omega)
          rw [hw, if_pos (show i > 0 by omega), if_pos (show (0 : Int) ≤ i - 1 by omega), if_pos (show i - 1 < (l1.length : Int) by omega)]
          by_cases e1 : c.f0 < (rd_T47 l1 (i - 1)).f0
          · rw [if_pos e1, if_pos e1]
            exact ⟨false, rfl, rfl, fun h => by cases h⟩
          rw [if_neg e1, if_neg e1]
          by_cases e2 : c.f0 = (rd_T47 l1 (i - 1)).f0
          · rw [if_pos e2, if_pos e2]
            by_cases e3 : c.f1 ≤ (rd_T47 l1 (i - 1)).f1
            · rw [if_pos e3, if_pos e3]
              exact ⟨false, rfl, rfl, fun h => by cases h⟩
            · rw [if_neg e3, if_neg e3]
              exact hgo
          · rw [if_neg e2, if_neg e2]
            exact hgo

theorem grid_l0 (l0 : List S42) (l1 : List S47) (b0 : l0.length ≤ 140737488351232) (bb : l1.length ≤ 140737488351232) (d : Nat) : ∀ (k : Nat) (i : Int), 0 ≤ i → i ≤ l0.length → (l0.length : Int) - i = d → 2 * l1.length + d + 1 < k →
    ∃ r, check_Grid.l0 k l0 (l0.length : Int) i l0 l1 = some r ∧ junctionref5_Grid.l0 k (l0.length : Int) i l0 l1 = some r ∧ (r = true → (∀ j : Int, i ≤ j → j < l0.length → gB (rd_T42 l0 j) = true) ∧ ∀ j : Int, 0 ≤ j → j < l1.length → cB l0.length (rd_T47 l1 j) = true) := by
  induction d with
  | zero =>
    intro k i h0 h1 hd hk
    obtain ⟨k, rfl⟩ : ∃ m, k = m + 1 := ⟨k - 1, by omega⟩
    simp only [check_Grid.l0, junctionref5_Grid.l0]
    rw [if_neg (by omega), if_neg (by omega)]
    obtain ⟨r, e1, e2, e3⟩ := grid_l1 l0 l1 bb l1.length k 0 (-1) (-1) (by omega) (by omega) (by omega) (by omega) (fun _ => ⟨rfl, rfl⟩) (fun h => by omega)
    exact ⟨r, e1, e2, fun hr => ⟨fun j hj hj2 => by omega, e3 hr⟩⟩
  | succ d ih =>
    intro k i h0 h1 hd hk
    obtain ⟨k, rfl⟩ : ∃ m, k = m + 1 := ⟨k - 1, by omega⟩
    have hlt : i < (l0.length : Int) := by omega
    obtain ⟨r, e1, e2, e3⟩ := ih k (i + 1) (by omega) (by omega) (by omega) (by omega)
    simp only [check_Grid.l0, junctionref5_Grid.l0, in_f, within_f, Option.bind_some]
    rw [if_pos hlt, if_pos h0, if_pos hlt, if_pos hlt, if_pos h0, if_pos hlt, wrap_add h0 (by omega) b0]
    cases g1 : inB (rd_T42 l0 i).f1 1 2 with
    | false => exact ⟨false, rfl, rfl, fun h => by cases h⟩
    | true =>
      cases g2 : inB (rd_T42 l0 i).f2 1 3600 with
      | false => exact ⟨false, rfl, rfl, fun h => by cases h⟩
      | true =>
        cases g3 : inB (rd_T42 l0 i).f3 0 60 with
        | false => exact ⟨false, rfl, rfl, fun h => by cases h⟩
        | true =>
          cases g4 : inB (rd_T42 l0 i).f4 0 60 with
          | false => exact ⟨false, rfl, rfl, fun h => by cases h⟩
          | true =>
            refine ⟨r, e1, e2, fun hr => ⟨fun j hj hj2 => ?_, (e3 hr).2⟩⟩
            by_cases e : j = i
            · subst e
              unfold gB
              rw [g1, g2, g3, g4]
              rfl
            · exact (e3 hr).1 j (by omega) hj2

theorem grid_f (l0 : List S42) (l1 : List S47) (b0 : l0.length ≤ 140737488351232) (bb : l1.length ≤ 140737488351232) (k : Nat) (hk : 2 * l1.length + l0.length + 1 < k) :
    ∃ r, check_Grid.f k l0 l1 = some r ∧ junctionref5_Grid.f k l0 l1 = some r ∧ (r = true → l0.length ≤ 64 ∧ (∀ j : Int, 0 ≤ j → j < l0.length → gB (rd_T42 l0 j) = true) ∧ ∀ j : Int, 0 ≤ j → j < l1.length → cB l0.length (rd_T47 l1 j) = true) := by
  unfold check_Grid.f junctionref5_Grid.f
  by_cases h : (l0.length : Int) > 64
  · rw [if_pos h, if_pos h]
    exact ⟨false, rfl, rfl, fun h => by cases h⟩
  · rw [if_neg h, if_neg h]
    obtain ⟨r, e1, e2, e3⟩ := grid_l0 l0 l1 b0 bb l0.length k 0 (by omega) (by omega) (by omega) (by omega)
    exact ⟨r, e1, e2, fun hr => ⟨by omega, (e3 hr).1, (e3 hr).2⟩⟩
end Go.Proofs.YtdgempbldhdihaaDoor.Marks

namespace Go.Proofs.YtdgempbldhdihaaDoor.P
open Go.RowKit Go.Proofs.YtdgempbldhdihaaDoorW.PrintWords Go.Proofs.YtdgempbldhdihaaDoorW.PrintLast Go.Proofs.YtdgempbldhdihaaDoorW.PrintMore

theorem ref_has_f (o g : Int) : junctionref6_has.f o g = some (hasB o g) := has_f o g

theorem hasB_nat (x i : Nat) (hx : x < 18446744073709551616) (hi : i < 64) : hasB x i = x.testBit i := by
  unfold hasB
  have h1 : decide ((0 : Int) ≤ (i : Int)) = true := decide_eq_true (by omega)
  have h2 : decide ((i : Int) < 64) = true := decide_eq_true (by omega)
  rw [h1, h2]
  simp only [Bool.true_and]
  have e : shr .u64 (x : Int) (i : Int) = ((x >>> i : Nat) : Int) := by
    unfold shr
    have hm : min (i : Int).toNat IntKind.u64.bits = i := by
      have : IntKind.u64.bits = 64 := rfl
      omega
    rw [hm, Nat.shiftRight_eq_div_pow]
    simp
  rw [e, show (1 : Int) = ((1 : Nat) : Int) from rfl, bits_and_u64_nat _ _ (Nat.lt_of_le_of_lt (Nat.shiftRight_le x i) hx) (by decide)]
  rw [Nat.and_one_is_mod, Nat.shiftRight_eq_div_pow, Nat.testBit_eq_decide_div_mod_eq]
  have h2 : x / 2 ^ i % 2 < 2 := Nat.mod_lt _ (by decide)
  generalize x / 2 ^ i % 2 = b at *
  match b, h2 with
  | 0, _ => rfl
  | 1, _ => rfl
theorem lostF_bit (x y i : Nat) (hi : i < 64) : (lostF x y).testBit i = (x.testBit i && !y.testBit i) := by
  unfold lostF
  have e : bits .andNot .u64 (x : Int) (y : Int) = IntKind.u64.wrap ((BitVec.ofInt 64 (x : Int) &&& ~~~ BitVec.ofInt 64 (y : Int)).toNat : Int) := rfl
  rw [e, IntKind.wrap_u64]
  have hlt : (BitVec.ofInt 64 (x : Int) &&& ~~~ BitVec.ofInt 64 (y : Int)).toNat < 18446744073709551616 := (BitVec.ofInt 64 (x : Int) &&& ~~~ BitVec.ofInt 64 (y : Int)).isLt
  generalize hv : (BitVec.ofInt 64 (x : Int) &&& ~~~ BitVec.ofInt 64 (y : Int)) = v at *
  have e2 : ((v.toNat : Int) % 18446744073709551616).toNat = v.toNat := by omega
  rw [e2, ← BitVec.getLsbD, ← hv]
  rw [BitVec.getLsbD_and, BitVec.getLsbD_not, BitVec.ofInt_natCast, BitVec.ofInt_natCast, BitVec.getLsbD_ofNat, BitVec.getLsbD_ofNat]
  simp [hi]
end Go.Proofs.YtdgempbldhdihaaDoor.P

namespace Go.Proofs.YtdgempbldhdihaaDoor.Marks
open Go.RowKit Go.Proofs.YtdgempbldhdihaaDoorW.PrintWords Go.Proofs.YtdgempbldhdihaaDoorW.PrintLast Go.Proofs.YtdgempbldhdihaaDoorW.PrintMore Go.Proofs.YtdgempbldhdihaaDoor.P

theorem mx_max (a b : Int) : mx a b = max a b := by
  unfold mx
  split <;> omega
theorem wrap_small {x : Int} (h0 : 0 ≤ x) (h1 : x ≤ 10000000) : wrap64 x = x := wrap_of h0 (by omega)

theorem ref_wait (l0 : List S42) (l1 : List S47) (hg : Gr l0 l1) (k : Nat) (hk : 2 * l1.length + 1 ≤ k) (o : Nat) (g : Int) (ho : o < l0.length) :
    junctionref6_wait.f k l0 l1 o g = some (match Pr.interF l1 o g with | some v => max v (rd_T42 l0 o).f3 | none => 0) := by
  unfold junctionref6_wait.f junctionref6_Inter.f
  rw [ref_inter l0 l1 o g hg.k l1.length k 0 (by omega) (by omega) (by omega) hk, interF_at]
  simp only [Option.bind_some, Int.toNat_zero, List.drop_zero]
  cases inter1 o g l1 with
  | none => rfl
  | some v =>
    simp only [Option.isSome_some, Option.getD_some, if_true]
    rw [if_pos (by omega), if_pos (by omega)]
    split
    · congr 1; omega
    · congr 1; omega

theorem inner (l0 : List S42) (l1 : List S47) (hg : Gr l0 l1) (a b foes : Int) (all : Bool) (x9 R : Int) (g : Nat) (hgn : g < l0.length) (hfoes : ∀ o : Nat, o < l0.length → hasB foes o = (all || (hasB a o && !hasB b o)))
    (K : Nat) (hK : ∀ k, K ≤ k → junctionref6_move.l0 k a b all (mx x9 (1 + wtF l0 l1 foes g + (rd_T42 l0 g).f4)) (g + 1) l0 l1 = some R) (d : Nat) : ∀ o : Nat, o ≤ l0.length → l0.length - o = d →
    ∀ k, K + 2 * l1.length + 2 + d ≤ k → junctionref6_move.l1 k a b all x9 g (waitF l0 (Pr.interF l1) foes g o) o l0 l1 = some R := by
  have hn := hg.n
  induction d with
  | zero =>
    intro o ho hd k hk
    obtain ⟨k, rfl⟩ : ∃ m, k = m + 1 := ⟨k - 1, by omega⟩
    have he : o = l0.length := by omega
    subst he
    simp only [junctionref6_move.l1]
    have hw := wtF_is hg foes g hgn
    have h4 := (hg.g g hgn).2.2
    have e : waitF l0 (Pr.interF l1) foes g l0.length = wtF l0 l1 foes g := rfl
    have hw0 := hw.1.1
    rw [if_neg (by omega), if_pos (by omega), if_pos (by omega), e, wrap_small (x := 1 + wtF l0 l1 foes g) (by omega) (by omega), wrap_small (by omega) (by omega), wrap_small (x := (g : Int) + 1) (by omega) (by omega)]
    exact hK k (by omega)
  | succ d ih =>
    intro o ho hd k hk
    obtain ⟨k, rfl⟩ : ∃ m, k = m + 1 := ⟨k - 1, by omega⟩
    have hlt : o < l0.length := by omega
    have next := ih (o + 1) (by omega) (by omega) k (by omega)
    have hf := hfoes o hlt
    simp only [junctionref6_move.l1, ref_has_f, Option.bind_some]
    rw [if_pos (by omega), wrap_small (x := (o : Int) + 1) (by omega) (by omega), ref_wait l0 l1 hg k (by omega) o g hlt]
    have hpos : 0 ≤ waitF l0 (Pr.interF l1) foes g o := by
      clear next ih hK hf
      generalize o = n
      induction n with
      | zero => exact Int.le_refl _
      | succ n ihn => simp only [waitF]; split <;> omega
    have take : hasB foes o = true → junctionref6_move.l1 k a b all x9 g (mx (waitF l0 (Pr.interF l1) foes g o) (match Pr.interF l1 o g with | some v => max v (rd_T42 l0 o).f3 | none => 0)) (o + 1) l0 l1 = some R := by
      intro h
      rw [← next]
      congr 1
      simp only [waitF, wval]
      rw [mx_max]
      cases Pr.interF l1 o g with
      | none => simp only; omega
      | some v => simp only [h, beq_self_eq_true, Bool.and_self, if_true]
    have skip : hasB foes o = false → junctionref6_move.l1 k a b all x9 g (waitF l0 (Pr.interF l1) foes g o) (o + 1) l0 l1 = some R := by
      intro h
      rw [← next]
      congr 1
      simp only [waitF, wval]
      cases Pr.interF l1 o g with
      | none => rfl
      | some v => simp [h]
    simp only [Option.bind_some]
    cases hp : hasB a o <;> cases hq : hasB b o <;> cases all <;> simp only [hp, hq, if_true, if_false, Bool.false_eq_true] at * <;> first | exact take hf | exact skip hf

theorem maxB_max (n : Nat) (h : Nat → Int) (m : Nat) (c d : Int) : maxB n h m (max c d) = max (maxB n h m c) d := by
  induction n with
  | zero => rfl
  | succ n ih =>
    rw [maxB_succ, maxB_succ, ih]
    split <;> omega

theorem outer (l0 : List S42) (l1 : List S47) (hg : Gr l0 l1) (x y : Nat) (foes : Int) (all : Bool) (hx : x < 18446744073709551616) (hy : y < 18446744073709551616) (hfoes : ∀ o : Nat, o < l0.length → hasB foes o = (all || (hasB x o && !hasB y o)))
    (Q : Nat → Int) (hQ : ∀ i, Q i = maxB i (fun i => 1 + wtF l0 l1 foes i + (rd_T42 l0 i).f4) (lostF y x) (maxB i (fun i => 1 + (rd_T42 l0 i).f3) (lostF x y) 0)) (d : Nat) : ∀ g : Nat, g ≤ l0.length → l0.length - g = d →
    ∃ K, ∀ k, K ≤ k → junctionref6_move.l0 k x y all (Q g) g l0 l1 = some (Q l0.length) := by
  have hn := hg.n
  induction d with
  | zero =>
    intro g hgl hd
    refine ⟨1, fun k hk => ?_⟩
    obtain ⟨k, rfl⟩ : ∃ m, k = m + 1 := ⟨k - 1, by omega⟩
    have he : g = l0.length := by omega
    subst he
    simp only [junctionref6_move.l0]
    rw [if_neg (by omega)]
  | succ d ih =>
    intro g hgl hd
    have hlt : g < l0.length := by omega
    obtain ⟨K, hK⟩ := ih (g + 1) (by omega) (by omega)
    have h4 := hg.g g hlt
    have hbx := hasB_nat x g hx (by omega)
    have hby := hasB_nat y g hy (by omega)
    have hl := lostF_bit x y g (by omega)
    have hl2 := lostF_bit y x g (by omega)
    have hq0 : 0 ≤ Q g := by
      rw [hQ]
      have h1 := (maxB_is (fun i => 1 + (rd_T42 l0 i).f3) (lostF x y) 0 g).1
      have h2 := (maxB_is (fun i => 1 + wtF l0 l1 foes i + (rd_T42 l0 i).f4) (lostF y x) (maxB g (fun i => 1 + (rd_T42 l0 i).f3) (lostF x y) 0) g).1
      omega
    refine ⟨K + 2 * l1.length + 2 + l0.length + 5, fun k hk => ?_⟩
    obtain ⟨k, rfl⟩ : ∃ m, k = m + 4 := ⟨k - 4, by omega⟩
    simp only [junctionref6_move.l0, junctionref6_move.j1, junctionref6_move.j2, junctionref6_move.j3, ref_has_f, Option.bind_some]
    rw [if_pos (by omega), wrap_small (x := (g : Int) + 1) (by omega) (by omega), wrap_small (x := 1 + (rd_T42 l0 g).f3) (by omega) (by omega)]
    cases hp : hasB x g <;> cases hq : hasB y g
    · rw [hp] at hbx; rw [hq] at hby
      rw [← hbx, ← hby] at hl hl2
      have e : Q (g + 1) = mx (Q g) 0 := by
        rw [mx_max, hQ, hQ, maxB_succ, maxB_succ, hl, hl2] at *
        simp at hq0 ⊢
        omega
      simp only [Bool.false_eq_true, if_false]
      rw [← e]
      exact hK k (by omega)
    · rw [hp] at hbx; rw [hq] at hby
      rw [← hbx, ← hby] at hl hl2
      have e : Q (g + 1) = mx (Q g) (1 + wtF l0 l1 foes g + (rd_T42 l0 g).f4) := by
        rw [mx_max, hQ, hQ, maxB_succ, maxB_succ, hl, hl2]
        simp
      simp only [Bool.false_eq_true, if_false, if_true, Bool.not_false]
      exact inner l0 l1 hg x y foes all (Q g) _ g hlt hfoes K (fun k hk => by rw [← e]; exact hK k hk) l0.length 0 (by omega) (by omega) k (by omega)
    · rw [hp] at hbx; rw [hq] at hby
      rw [← hbx, ← hby] at hl hl2
      have e : Q (g + 1) = mx (Q g) (1 + (rd_T42 l0 g).f3) := by
        rw [mx_max, hQ, hQ, maxB_succ, maxB_succ, hl, hl2]
        simp [maxB_max]
      simp only [Bool.false_eq_true, if_false, if_true, Bool.not_false]
      rw [if_pos (by omega), if_pos (by omega), ← e]
      exact hK k (by omega)
    · rw [hp] at hbx; rw [hq] at hby
      rw [← hbx, ← hby] at hl hl2
      have e : Q (g + 1) = mx (Q g) 0 := by
        rw [mx_max, hQ, hQ, maxB_succ, maxB_succ, hl, hl2] at *
        simp at hq0 ⊢
        omega
      simp only [Bool.false_eq_true, if_false, if_true, Bool.not_true]
      rw [← e]
      exact hK k (by omega)
end Go.Proofs.YtdgempbldhdihaaDoor.Marks

namespace Go.Proofs.YtdgempbldhdihaaDoor.Marks
open Go.RowKit Go.Proofs.YtdgempbldhdihaaDoorW.PrintWords Go.Proofs.YtdgempbldhdihaaDoorW.PrintLast Go.Proofs.YtdgempbldhdihaaDoorW.PrintMore Go.Proofs.YtdgempbldhdihaaDoor.P Go.Proofs.YtdgempbldhdihaaDoor.Fit

theorem hold_l0 (l0 : List S42) (l1 : List S47) (hg : Gr l0 l1) (x y : Nat) (hx : x < 18446744073709551616) (hy : y < 18446744073709551616)
    (Q : Nat → Int) (hQ : ∀ i, Q i = maxB i (fun i => (rd_T42 l0 i).f2 - 1) (lostF x y) 0) (d : Nat) : ∀ g : Nat, g ≤ l0.length → l0.length - g = d →
    ∀ k, d + 1 ≤ k → junctionref6_Hold.l0 k x y (Q g) g l0 l1 = some (Q l0.length, 0) := by
  have hn := hg.n
  induction d with
  | zero =>
    intro g hgl hd k hk
    obtain ⟨k, rfl⟩ : ∃ m, k = m + 1 := ⟨k - 1, by omega⟩
    have he : g = l0.length := by omega
    subst he
    simp only [junctionref6_Hold.l0]
    rw [if_neg (by omega)]
  | succ d ih =>
    intro g hgl hd k hk
    have hlt : g < l0.length := by omega
    obtain ⟨k, rfl⟩ : ∃ m, k = m + 1 := ⟨k - 1, by omega⟩
    have next := ih (g + 1) (by omega) (by omega) k (by omega)
    have h4 := hg.g g hlt
    have hbx := hasB_nat x g hx (by omega)
    have hby := hasB_nat y g hy (by omega)
    have hl := lostF_bit x y g (by omega)
    have e1 : wrap64 ((rd_T42 l0 g).f2 - 1) = (rd_T42 l0 g).f2 - 1 := by unfold wrap64; omega
    simp only [junctionref6_Hold.l0, ref_has_f, Option.bind_some]
    rw [if_pos (by omega), wrap_small (x := (g : Int) + 1) (by omega) (by omega), e1]
    have e : Q (g + 1) = if (hasB x g && !hasB y g) = true then mx (Q g) ((rd_T42 l0 g).f2 - 1) else Q g := by
      rw [hQ, hQ, maxB_succ, hl, hbx, hby, mx_max]
    rw [e] at next
    cases hp : hasB x g <;> cases hq : hasB y g <;> rw [hp, hq] at next <;> simp only [Bool.false_eq_true, if_false, if_true, Bool.not_false, Bool.not_true, Bool.and_true, Bool.and_false, Bool.and_self] at next ⊢
    · exact next
    · exact next
    · rw [if_pos (by omega)]
      exact next
    · exact next

theorem grB_mk {l0 : List S42} {l1 : List S47} (bb : l1.length ≤ 140737488351232) (h : l0.length ≤ 64 ∧ (∀ j : Int, 0 ≤ j → j < l0.length → gB (rd_T42 l0 j) = true) ∧ ∀ j : Int, 0 ≤ j → j < l1.length → cB l0.length (rd_T47 l1 j) = true) : grB l0 l1 = true := by
  obtain ⟨h1, h2, h3⟩ := h
  simp only [grB, Bool.and_eq_true, decide_eq_true_eq, List.all_eq_true]
  refine ⟨h1, fun g hg => ?_, fun c hc => ?_, bb⟩
  · obtain ⟨i, hi, rfl⟩ := List.getElem_of_mem hg
    have e : rd_T42 l0 (i : Int) = l0[i] := by
      unfold rd_T42
      rw [Int.toNat_natCast, List.getD_eq_getElem?_getD, List.getElem?_eq_getElem hi]
      rfl
    have := h2 i (by omega) (by omega)
    rw [e] at this
    simp only [gB, inB, Bool.and_eq_true, decide_eq_true_eq] at this
    omega
  · obtain ⟨i, hi, rfl⟩ := List.getElem_of_mem hc
    have e : rd_T47 l1 (i : Int) = l1[i] := by
      unfold rd_T47
      rw [Int.toNat_natCast, List.getD_eq_getElem?_getD, List.getElem?_eq_getElem hi]
      rfl
    have := h3 i (by omega) (by omega)
    rw [e] at this
    simp only [cB, inB, Bool.and_eq_true, decide_eq_true_eq] at this
    omega

theorem upG {l0 : List S42} {l1 : List S47} {k k' : Nat} {r : Bool} (hk : k ≤ k') (h : check_Grid.f k l0 l1 = some r) : check_Grid.f k' l0 l1 = some r :=
  at_rounds (g := fun k => check_Grid.f k l0 l1) (fun k => check_Grid.mono l0 l1 k) hk h
theorem upR {l0 : List S42} {l1 : List S47} {k k' : Nat} {r : Bool} (hk : k ≤ k') (h : junctionref5_Grid.f k l0 l1 = some r) : junctionref5_Grid.f k' l0 l1 = some r :=
  at_rounds (g := fun k => junctionref5_Grid.f k l0 l1) (fun k => junctionref5_Grid.mono l0 l1 k) hk h
theorem upC {l0 : List S42} {l1 : List S47} {m : Int} {k k' : Nat} {r : Int × Int × Bool} (hk : k ≤ k') (h : safety_Clash.f k l0 l1 m = some r) : safety_Clash.f k' l0 l1 m = some r :=
  at_rounds (g := fun k => safety_Clash.f k l0 l1 m) (fun k => safety_Clash.mono l0 l1 m k) hk h
theorem upD {l0 : List S42} {l1 : List S47} {m : Int} {k k' : Nat} {r : Int × Int × Bool} (hk : k ≤ k') (h : junctionref6_Clash.f k l0 l1 m = some r) : junctionref6_Clash.f k' l0 l1 m = some r :=
  at_rounds (g := fun k => junctionref6_Clash.f k l0 l1 m) (fun k => junctionref6_Clash.mono l0 l1 m k) hk h

/-- What all three answer, and their documents with them. -/
theorem three (l0 : List S42) (l1 : List S47) (b0 : l0.length ≤ 140737488351232) (b1 : l1.length ≤ 140737488351232) (a b : Int) (ha : u64B a = true) (hb : u64B b = true) :
    ∃ K r1 r2 r3, ∀ k, K ≤ k → safety_Span.f k l0 l1 a b = some r1 ∧ junctionref6_Span.f k l0 l1 a b = some r1 ∧ safety_Longest.f k l0 l1 a b = some r2 ∧ junctionref6_Longest.f k l0 l1 a b = some r2 ∧ safety_Hold.f k l0 l1 a b = some r3 ∧ junctionref6_Hold.f k l0 l1 a b = some r3 := by
  obtain ⟨g, hg0, hg1, hgt⟩ := grid_f l0 l1 b0 b1 (2 * l1.length + l0.length + 2) (by omega)
  have hG : ∀ k, 2 * l1.length + l0.length + 2 ≤ k → check_Grid.f k l0 l1 = some g ∧ junctionref5_Grid.f k l0 l1 = some g := by
    intro k hk
    exact ⟨upG hk hg0, upR hk hg1⟩
  cases g with
  | false =>
    refine ⟨2 * l1.length + l0.length + 2, (0, 70), (0, 70), (0, 70), fun k hk => ?_⟩
    obtain ⟨e1, e2⟩ := hG k hk
    unfold safety_Span.f safety_Longest.f safety_Hold.f refF junctionref6_Span.f junctionref6_Longest.f junctionref6_Hold.f
    rw [e1, e2]
    exact ⟨rfl, rfl, rfl, rfl, rfl, rfl⟩
  | true =>
    have hgr := grB_mk b1 (hgt rfl)
    have hg := gr_of hgr
    have hn := hg.n
    have ha' := ha
    have hb' := hb
    simp only [u64B, decide_eq_true_eq] at ha' hb'
    obtain ⟨x, rfl⟩ := Int.eq_ofNat_of_zero_le ha'.1
    obtain ⟨y, rfl⟩ := Int.eq_ofNat_of_zero_le hb'.1
    obtain ⟨c1, p1, q1⟩ := clash_same l0 l1 x b1 l1.length (l1.length + 1) 0 (by omega) (by omega) (by omega) (by omega)
    obtain ⟨c2, p2, q2⟩ := clash_same l0 l1 y b1 l1.length (l1.length + 1) 0 (by omega) (by omega) (by omega) (by omega)
    have e1 := lostF_eq x y
    have f1 : ∀ o : Nat, o < l0.length → hasB (bits .andNot .u64 (x : Int) (y : Int)) o = (false || (hasB x o && !hasB y o)) := by
      intro o ho
      rw [e1.1, hasB_nat _ _ e1.2 (by omega), lostF_bit x y o (by omega), hasB_nat x o (by omega) (by omega), hasB_nat y o (by omega) (by omega)]
      rfl
    have f2 : ∀ o : Nat, o < l0.length → hasB 18446744073709551615 o = (true || (hasB x o && !hasB y o)) := by
      intro o ho
      rw [show (18446744073709551615 : Int) = ((18446744073709551615 : Nat) : Int) from rfl, hasB_nat _ _ (by decide) (by omega), show (18446744073709551615 : Nat) = 2 ^ 64 - 1 from rfl, Nat.testBit_two_pow_sub_one]
      simp
      omega
    obtain ⟨K1, m1⟩ := outer l0 l1 hg x y _ false (by omega) (by omega) f1 _ (fun _ => rfl) l0.length 0 (by omega) (by omega)
    obtain ⟨K2, m2⟩ := outer l0 l1 hg x y _ true (by omega) (by omega) f2 _ (fun _ => rfl) l0.length 0 (by omega) (by omega)
    have hh := hold_l0 l0 l1 hg x y (by omega) (by omega) _ (fun _ => rfl) l0.length 0 (by omega) (by omega)
    refine ⟨2 * l1.length + l0.length + 2 + K1 + K2, if (c1.2.2 || c2.2.2) = true then (0, 60) else (throughF l0 l1 x y (bits .andNot .u64 (x : Int) (y : Int)), 0), if (c1.2.2 || c2.2.2) = true then (0, 60) else (throughF l0 l1 x y 18446744073709551615, 0), (holdF l0 x y, 0), fun k hk => ?_⟩
    obtain ⟨g1, g2⟩ := hG k (by omega)
    have hp1 : safety_Clash.f k l0 l1 x = some c1 := upC (show l1.length + 1 ≤ k by omega) (show safety_Clash.f (l1.length + 1) l0 l1 x = some c1 from p1)
    have hp2 : safety_Clash.f k l0 l1 y = some c2 := upC (show l1.length + 1 ≤ k by omega) (show safety_Clash.f (l1.length + 1) l0 l1 y = some c2 from p2)
    have hq1 : junctionref6_Clash.f k l0 l1 x = some c1 := upD (show l1.length + 1 ≤ k by omega) (show junctionref6_Clash.f (l1.length + 1) l0 l1 x = some c1 from q1)
    have hq2 : junctionref6_Clash.f k l0 l1 y = some c2 := upD (show l1.length + 1 ≤ k by omega) (show junctionref6_Clash.f (l1.length + 1) l0 l1 y = some c2 from q2)
    have hm1 : junctionref6_move.f k l0 l1 x y false = some (throughF l0 l1 x y (bits .andNot .u64 (x : Int) (y : Int))) := m1 k (by omega)
    have hm2 : junctionref6_move.f k l0 l1 x y true = some (throughF l0 l1 x y 18446744073709551615) := m2 k (by omega)
    have hh1 : junctionref6_Hold.l0 k x y 0 0 l0 l1 = some (holdF l0 x y, 0) := hh k (by omega)
    have hok : (grB l0 l1 && (u64B (x : Int) && u64B (y : Int))) = true := by rw [hgr, ha, hb]; rfl
    have hcl : junctionref6_clashes.f k l0 l1 x y = some (c1.2.2 || c2.2.2) := by
      unfold junctionref6_clashes.f
      rw [hq1, hq2]
      simp only [Option.bind_some]
      cases c1.2.2 <;> rfl
    unfold safety_Span.f safety_Longest.f safety_Hold.f refF junctionref6_Span.f junctionref6_Longest.f junctionref6_Hold.f
    rw [g1, g2]
    simp only [Option.bind_some, if_true]
    rw [if_pos hok, if_pos hok, if_pos hok, hp1, hp2, hcl, hm1, hm2, hh1]
    simp only [Option.bind_some]
    cases (c1.2.2 || c2.2.2) <;> simp

theorem spans (l0 : List S42) (l1 : List S47) (a b : Int) (h : (l0.length * 48 ≤ 140737488351232 ∧ ∀ x ∈ l0, ok42 x) ∧ (l1.length * 32 ≤ 140737488351232 ∧ ∀ x ∈ l1, ok47 x)) (wa : (Lit.int .u64 a).wf = true) (wb : (Lit.int .u64 b).wf = true) :
    ∃ k, junctionlaw6_SafetySpans.f k l0 l1 a b = some true := by
  have u : ∀ x : Int, (Lit.int .u64 x).wf = true → u64B x = true := by
    intro x hx
    have := (Lit.wf_int_iff .u64 x).1 hx
    simp [IntKind.min, IntKind.max, IntKind.signed, IntKind.bits] at this
    simp only [u64B, decide_eq_true_eq]
    omega
  have b0 := h.1.1
  have b1 := h.2.1
  obtain ⟨K, r1, r2, r3, hK⟩ := three l0 l1 (by omega) (by omega) a b (u a wa) (u b wb)
  obtain ⟨s1, s2, _⟩ := hK (K + l0.length + l1.length + 7) (by omega)
  obtain ⟨_, _, s3, s4, _⟩ := hK (K + l0.length + l1.length + 6) (by omega)
  obtain ⟨_, _, _, _, s5, s6⟩ := hK (K + l0.length + l1.length + 5) (by omega)
  refine ⟨K + l0.length + l1.length + 7, ?_⟩
  unfold junctionlaw6_SafetySpans.f
  rw [roomy_f l0 l1 (by omega) (by omega)]
  simp only [Option.bind_some]
  rw [s1, s2]
  simp only [Option.bind_some, if_true, bne_self_eq_false, junctionlaw6_SafetySpans.j0, Bool.false_eq_true, if_false]
  rw [s3, s4]
  simp only [Option.bind_some, if_true, bne_self_eq_false, junctionlaw6_SafetySpans.j1, Bool.false_eq_true, if_false]
  rw [s5, s6]
  simp only [Option.bind_some, if_true]
  rw [same_f l0 l1 (by omega) (by omega) _ (by omega)]
  simp only [Option.bind_some, if_true]
  rw [kept_f l0 l1 (by omega) (by omega) _ (by omega)]
  rfl
end Go.Proofs.YtdgempbldhdihaaDoor.Marks

namespace Go.Proofs.YtdgempbldhdihaaDoor.P
open Go.ChangeShapes Go.WideShapes Go.ChangeAt Go.RowKit
open Go.Proofs.YtdgempbldhdihaaDoorW.PrintWords Go.Proofs.YtdgempbldhdihaaDoorW.PrintLast Go.Proofs.YtdgempbldhdihaaDoorW.PrintMore
theorem gT : Tryd.prog.globalNamed "math/bits.deBruijn64tab" = some 1 := by kernel_rfl
theorem tT : (Tryd.prog.globals[1]?).map (·.type) = some 156 := by kernel_rfl
theorem cells5 : Tryd.prog.cellsOf 5 = 1 := by kernel_rfl
theorem int_of {H : Type} {enc : TypeId × Value → H} {P : Program} {w : World} {base : Nat} {sp : Nat → Bool} {held : Bool} {fuel : Nat} {t : TypeId} {q : IntKind} {cs : List Value} {y : DataW H × List MemPlace}
    (ht : P.underlying t = some (.int q)) (h : DataW.trod enc P w base sp held fuel t cs = some y) : ∃ n : Int, cs = [.int q n] ∧ y.1 = .lit (.int q n) := by
  obtain ⟨s, h1, h2, _⟩ := DataW.trod_int ht h
  exact ⟨s, h1, by rw [h2]⟩
set_option maxRecDepth 100000 in
theorem tab_of {W : World} (h : laidMetH Tryd.prog Rows.safetySpansRow.laid W) : Tab W ∧ 1 < W.heap.size := by
  rw [MakeChecks.laidMetH_plain _ _ _ (by kernel_rfl)] at h
  obtain ⟨ps, ⟨g0, t0, cs0, f0, p0, q0, hg0, ht0, hv0, hd0, _, _⟩, _⟩ := h
  obtain rfl := Option.some.inj (gT.symm.trans hg0)
  obtain rfl := Option.some.inj (tT.symm.trans ht0)
  have hT : Tab W := by
    intro i hi
    obtain ⟨xs, m1, rfl, hx1, hlen, hn3, hel⟩ := DataW.trod_array Tryd.underlying156 hd0
    have hc := World.var?_cell hg0 hv0 i
    have hx2 : xs.map (·.1) = Lib.deBruijn64tab.map (fun s : Nat => (DataW.lit (.int .u8 (s : Int)) : DataW Unit)) := by
      have := congrArg Prod.fst hx1
      simp only [Rows.laid_math_bits_deBruijn64tab] at this
      injection this with this
      rw [← this]
      rfl
    have hi64 : i < 64 := hi
    have h1 := hel i hi64
    rw [cells5] at h1
    have hxi : i < xs.length := by omega
    rw [List.getElem?_eq_getElem hxi] at h1
    obtain ⟨s, hs, hd⟩ := int_of Tryd.underlying5 h1
    have h3 : (xs.map (·.1))[i]? = (Lib.deBruijn64tab.map (fun s : Nat => (DataW.lit (.int .u8 (s : Int)) : DataW Unit)))[i]? := by rw [hx2]
    rw [List.getElem?_map, List.getElem?_map, List.getElem?_eq_getElem hxi, List.getElem?_eq_getElem hi] at h3
    simp only [Option.map_some, Option.some.injEq] at h3
    rw [hd] at h3
    injection h3 with h3
    injection h3 with _ h3
    rw [hc]
    have h5 : cs0.toList[i]? = some (.int .u8 s) := by
      have := congrArg (fun l : List Value => l[0]?) hs
      simpa [List.getElem?_take, List.getElem?_drop] using this
    rw [Array.getElem?_toList] at h5
    rw [h5, h3, List.getD_eq_getElem?_getD, List.getElem?_eq_getElem hi]
    rfl
  exact ⟨hT, World.block_lt_of_cell? W _ (hT 0 (by decide))⟩

theorem spans_calls (k : Nat) (A0_0 : Option Addr) (c0_0 : Nat) (l0_0 : List (S42)) (A0_1 : Option Addr) (c0_1 : Nat) (l0_1 : List (S47)) (a1 : Int) (a2 : Int) (r : Bool) (w : World) (hr0_0 : Kd.C k42 w A0_0 l0_0.length l0_0) (hc0_0 : l0_0.length ≤ c0_0) (hr0_1 : Kd.C k47 w A0_1 l0_1.length l0_1) (hc0_1 : l0_1.length ≤ c0_1) (ht : Tab w ∧ 1 < w.heap.size) (h : junctionlaw6_SafetySpans.f k l0_0 l0_1 a1 a2 = some r) :
    Calls Tryd.prog 3 #[.agg #[.slice A0_0 l0_0.length c0_0, .slice A0_1 l0_1.length c0_1], .int .u64 a1, .int .u64 a2] w fun e w' => e = .returned (.bool r) ∧ Below w.heap.size w w' :=
  junctionlaw6_SafetySpans.calls k A0_0 c0_0 l0_0 A0_1 c0_1 l0_1 a1 a2 r w hr0_0 hc0_0 hr0_1 hc0_1 h ht.1 ht.2
end Go.Proofs.YtdgempbldhdihaaDoor.P
