/- Parts of this work, put into one text: Turn0 TurnA TurnB TurnC TurnD TurnE -/
import Derived.Test.YtdgempbldhdihaaDoorSpanA
import Derived.Test.YtdgempbldhdihaaDoorTFn6t
section
namespace Go.Proofs.YtdgempbldhdihaaDoor.P
open Go.RowKit Go.Proofs.YtdgempbldhdihaaDoorW.PrintWords Go.Proofs.YtdgempbldhdihaaDoorW.PrintLast Go.Proofs.YtdgempbldhdihaaDoorW.PrintMore
theorem hasB_nat (x i : Nat) (hx : x < 18446744073709551616) (hi : i < 64) : hasB x i = x.testBit i := by
  unfold hasB
  have h1 : decide ((0 : Int) ≤ (i : Int)) = true := decide_eq_true (by omega)
  have h2 : decide ((i : Int) < 64) = true := decide_eq_true (by omega)
  rw [h1, h2]
  simp only [Bool.true_and]
  have e : shr .u64 (x : Int) (i : Int) = ((x >>> i : Nat) : Int) := by
    unfold shr
    have hm : min (i : Int).toNat IntKind.u64.bits = i := by
      have : IntKind.u64.bits = 64 := rfl
      omega
    rw [hm, Nat.shiftRight_eq_div_pow]
    simp
  rw [e, show (1 : Int) = ((1 : Nat) : Int) from rfl, bits_and_u64_nat _ _ (Nat.lt_of_le_of_lt (Nat.shiftRight_le x i) hx) (by decide)]
  rw [Nat.and_one_is_mod, Nat.shiftRight_eq_div_pow, Nat.testBit_eq_decide_div_mod_eq]
  have h2 : x / 2 ^ i % 2 < 2 := Nat.mod_lt _ (by decide)
  generalize x / 2 ^ i % 2 = b at *
  match b, h2 with
  | 0, _ => rfl
  | 1, _ => rfl
theorem lostF_bit (x y i : Nat) (hi : i < 64) : (lostF x y).testBit i = (x.testBit i && !y.testBit i) := by
  unfold lostF
  have e : bits .andNot .u64 (x : Int) (y : Int) = IntKind.u64.wrap ((BitVec.ofInt 64 (x : Int) &&& ~~~ BitVec.ofInt 64 (y : Int)).toNat : Int) := rfl
  rw [e, IntKind.wrap_u64]
  have hlt : (BitVec.ofInt 64 (x : Int) &&& ~~~ BitVec.ofInt 64 (y : Int)).toNat < 18446744073709551616 := (BitVec.ofInt 64 (x : Int) &&& ~~~ BitVec.ofInt 64 (y : Int)).isLt
  generalize hv : (BitVec.ofInt 64 (x : Int) &&& ~~~ BitVec.ofInt 64 (y : Int)) = v at *
  have e2 : ((v.toNat : Int) % 18446744073709551616).toNat = v.toNat := by omega
  rw [e2, ← BitVec.getLsbD, ← hv]
  rw [BitVec.getLsbD_and, BitVec.getLsbD_not, BitVec.ofInt_natCast, BitVec.ofInt_natCast, BitVec.getLsbD_ofNat, BitVec.getLsbD_ofNat]
  simp [hi]
/-- The first row that names both groups. -/
def inter1 (a b : Int) : List S47 → Option Int
  | [] => none
  | c :: l => if c.f0 = a ∧ c.f1 = b then some c.f2 else if c.f0 = b ∧ c.f1 = a then some c.f3 else inter1 a b l

theorem putF_at (f : Int → Int → Option Int) (x y v a b : Int) : Pr.putF f x y v a b = if (f a b).isSome then f a b else if x = a ∧ y = b then some v else none := by
  unfold Pr.putF Pr.upd
  by_cases h : x = a ∧ y = b
  · obtain ⟨rfl, rfl⟩ := h
    cases hf : f x y <;> simp [hf]
  · have h' : ¬ (a = x ∧ b = y) := fun e => h ⟨e.1.symm, e.2.symm⟩
    split
    · cases hf : f a b <;> simp
    · simp only [if_neg h']
      cases hf : f a b <;> simp
theorem fold_at (a b : Int) : ∀ (l : List S47) (f : Int → Int → Option Int), l.foldl Pr.stepF f a b = if (f a b).isSome then f a b else inter1 a b l
  | [], f => by cases hf : f a b <;> simp [inter1, hf]
  | c :: l, f => by
    rw [List.foldl_cons, fold_at a b l]
    unfold Pr.stepF
    rw [putF_at, putF_at]
    cases hf : f a b with
    | some x => simp
    | none =>
      simp only [Option.isSome_none, inter1]
      by_cases h1 : c.f0 = a ∧ c.f1 = b
      · simp [h1]
      · by_cases h2 : c.f0 = b ∧ c.f1 = a
        · have h2' : c.f1 = a ∧ c.f0 = b := ⟨h2.2, h2.1⟩
          have h1' : ¬ (b = a ∧ a = b) := fun e => h1 ⟨h2.1.trans e.1, h2.2.trans e.2⟩
          simp [h2, h1']
        · have h2' : ¬ (c.f1 = a ∧ c.f0 = b) := fun e => h2 ⟨e.2, e.1⟩
          simp [h1, h2, h2']
theorem interF_at (l : List S47) (a b : Int) : Pr.interF l a b = inter1 a b l := by
  unfold Pr.interF
  rw [fold_at]
  simp

end Go.Proofs.YtdgempbldhdihaaDoor.P
end

section
namespace Go.Am.Tryd
open Go.Proofs Go.Am Go.RowKit Go.Proofs.YtdgempbldhdihaaDoor.P
set_option maxRecDepth 100000
set_option linter.unusedVariables false

def inB (x lo hi : Int) : Bool := decide (x ≥ lo) && decide (x ≤ hi)
theorem in_ok (K : Nat) (x lo hi : Int) : check_in K x lo hi = some (inB x lo hi, ()) := by
  unfold check_in inB
  cases decide (x ≥ lo) <;> rfl
theorem within_ok (K : Nat) (x lo hi : Int) : junctionref5_within K x lo hi = some (inB x lo hi, ()) := by
  unfold junctionref5_within inB
  cases decide (x ≥ lo) <;> rfl
def gOk (g : Am.Tryd.S42) : Bool := inB g.f1 1 2 && (inB g.f2 1 3600 && (inB g.f3 0 60 && inB g.f4 0 60))
def cOk (n : Int) (c : Am.Tryd.S47) : Bool := !decide (c.f0 < 0) && (!decide (c.f1 ≤ c.f0) && (!decide (c.f1 ≥ n) && (inB c.f2 0 3600 && inB c.f3 0 3600)))
def aft (a b : Int) (c : Am.Tryd.S47) : Bool := !decide (c.f0 < a) && !(c.f0 == a && decide (c.f1 ≤ b))
def chain (n : Int) : Int → Int → List Am.Tryd.S47 → Bool
  | _, _, [] => true
  | a, b, c :: l => cOk n c && (aft a b c && chain n c.f0 c.f1 l)
def gridB (G : List Am.Tryd.S42) (C : List Am.Tryd.S47) : Bool := decide (G.length ≤ 64) && (G.all gOk && chain G.length (-1) (-1) C)
theorem getD_drop {α : Type} {L : List α} {i : Nat} {g d : α} {r : List α} (h : L.drop i = g :: r) : L.getD i d = g := by
  have hi : i < L.length := by
    rcases Nat.lt_or_ge i L.length with h' | h'
    · exact h'
    · rw [List.drop_eq_nil_of_le h'] at h; cases h
  rw [List.drop_eq_getElem_cons hi] at h
  rw [List.getD_eq_getElem?_getD, List.getElem?_eq_getElem hi]
  exact (List.cons.inj h).1
theorem drop_next {α : Type} {L : List α} {i : Nat} {g : α} {r : List α} (h : L.drop i = g :: r) : L.drop (i + 1) = r := by rw [← List.drop_drop, h]; rfl
theorem grid_groups (K : Nat) (G : List Am.Tryd.S42) (hG : G.length ≤ 64) : ∀ (r : List Am.Tryd.S42) (x i : Nat), G.drop i = r → i + r.length = G.length →
    check_Grid.l0 K (r.length + x + 1) G (G.length : Int) (i : Int) = some (if r.all gOk = true then .inr ((), ()) else .inl ((false, ()), ()))
  | [], x, i, hd, hi => by
    rw [check_Grid.l0, if_neg (by simp at hi ⊢; omega)]
    rfl
  | g :: r, x, i, hd, hi => by
    simp only [List.length_cons] at hi
    rw [List.length_cons, show r.length + 1 + x + 1 = r.length + x + 1 + 1 by omega, check_Grid.l0, if_pos (by simp; omega), if_pos (by omega), Int.toNat_natCast, getD_drop hd, in_ok, Option.bind_some, in_ok, Option.bind_some, in_ok, Option.bind_some, in_ok, Option.bind_some, IntWalk.i64_in _ (by omega), show ((i : Int) + 1) = ((i + 1 : Nat) : Int) by omega,
      grid_groups K G hG r x (i + 1) (drop_next hd) (by omega), List.all_cons]
    unfold gOk
    cases inB g.f1 1 2 <;> cases inB g.f2 1 3600 <;> cases inB g.f3 0 60 <;> cases inB g.f4 0 60 <;> rfl
theorem grid_pair (K : Nat) (G : List Am.Tryd.S42) (C : List Am.Tryd.S47) (c : Am.Tryd.S47) : check_Grid.l1 K G C c.f0 c.f1 c.f2 c.f3 = some (if cOk G.length c = true then .inr (((), ()), (c.f0, c.f1, c.f2, c.f3, ()), ()) else .inl ((false, ()), (c.f0, c.f1, c.f2, c.f3, ()), ())) := by
  unfold check_Grid.l1 cOk
  rw [in_ok, Option.bind_some, in_ok, Option.bind_some]
  cases decide (c.f0 < 0) <;> cases decide (c.f1 ≤ c.f0) <;> cases decide (c.f1 ≥ (G.length : Int)) <;> cases inB c.f2 0 3600 <;> cases inB c.f3 0 3600 <;> rfl
theorem grid_after (K : Nat) (a b : Int) (c : Am.Tryd.S47) : check_Grid.l2 K a b c.f0 c.f1 c.f2 c.f3 = some (if aft a b c = true then .inr (((), ()), (c.f0, c.f1, c.f2, c.f3, ()), ()) else .inl ((false, ()), (c.f0, c.f1, c.f2, c.f3, ()), ())) := by
  unfold check_Grid.l2 aft
  cases decide (c.f0 < a) <;> cases (c.f0 == a) <;> cases decide (c.f1 ≤ b) <;> rfl
theorem grid_pairs (K : Nat) (G : List Am.Tryd.S42) (C : List Am.Tryd.S47) (hC : C.length ≤ 1000000000000000) : ∀ (r : List Am.Tryd.S47) (x i : Nat) (a b : Int), C.drop i = r → i + r.length = C.length →
    check_Grid.l3 K (r.length + x + 1) G C a b C (C.length : Int) (i : Int) = some (if chain G.length a b r = true then .inr ((), ()) else .inl ((false, ()), ()))
  | [], x, i, a, b, hd, hi => by
    rw [check_Grid.l3, if_neg (by simp at hi ⊢; omega)]
    rfl
  | c :: r, x, i, a, b, hd, hi => by
    simp only [List.length_cons] at hi
    rw [List.length_cons, show r.length + 1 + x + 1 = r.length + x + 1 + 1 by omega, check_Grid.l3, if_pos (by simp; omega), if_pos (by omega), Int.toNat_natCast, getD_drop hd, grid_pair, Option.bind_some, chain]
    cases hc : cOk G.length c
    · rfl
    · simp only [if_true, onSum]
      rw [grid_after, Option.bind_some]
      cases ha : aft a b c
      · rfl
      · simp only [if_true, onSum]
        rw [IntWalk.i64_in _ (by omega), show ((i : Int) + 1) = ((i + 1 : Nat) : Int) by omega, grid_pairs K G C hC r x (i + 1) c.f0 c.f1 (drop_next hd) (by omega)]
        simp
theorem grid_ok (K : Nat) (G : List Am.Tryd.S42) (C : List Am.Tryd.S47) (hC : C.length ≤ 1000000000000000) (hK : C.length + 100 ≤ K) : check_Grid K G C = some (gridB G C, ()) := by
  unfold check_Grid gridB
  by_cases hG : G.length ≤ 64
  · have h1 := grid_groups K G hG G (K - G.length - 1) 0 rfl (by omega)
    rw [show G.length + (K - G.length - 1) + 1 = K by omega, show ((0 : Nat) : Int) = 0 from rfl] at h1
    have h2 := grid_pairs K G C hC C (K - C.length - 1) 0 (-1) (-1) rfl (by omega)
    rw [show C.length + (K - C.length - 1) + 1 = K by omega, show ((0 : Nat) : Int) = 0 from rfl] at h2
    rw [if_neg (by simp; omega), h1, Option.bind_some, h2, Option.bind_some]
    simp only [hG, decide_true, Bool.true_and]
    cases G.all gOk <;> cases chain G.length (-1) (-1) C <;> rfl
  · rw [if_pos (by simp; omega)]
    simp [hG]

/-! ### The document's -/
theorem rgrid_group (K : Nat) (G : List Am.Tryd.S42) (C : List Am.Tryd.S47) (i : Nat) (g : Am.Tryd.S42) (r : List Am.Tryd.S42) (hd : G.drop i = g :: r) (hi : i < G.length) : junctionref5_Grid.l0 K G C (i : Int) = some (if gOk g = true then .inr ((), ()) else .inl ((false, ()), ())) := by
  unfold junctionref5_Grid.l0 gOk
  rw [if_pos (by omega), Int.toNat_natCast, getD_drop hd, within_ok, Option.bind_some, within_ok, Option.bind_some, within_ok, Option.bind_some, within_ok, Option.bind_some]
  cases inB g.f1 1 2 <;> cases inB g.f2 1 3600 <;> cases inB g.f3 0 60 <;> cases inB g.f4 0 60 <;> rfl
theorem rgrid_groups (K : Nat) (G : List Am.Tryd.S42) (C : List Am.Tryd.S47) (hG : G.length ≤ 64) : ∀ (r : List Am.Tryd.S42) (x i : Nat), G.drop i = r → i + r.length = G.length →
    junctionref5_Grid.l1 K (r.length + x + 1) G C (G.length : Int) (i : Int) = some (if r.all gOk = true then .inr ((), ()) else .inl ((false, ()), ()))
  | [], x, i, hd, hi => by
    rw [junctionref5_Grid.l1, if_neg (by simp at hi ⊢; omega)]
    rfl
  | g :: r, x, i, hd, hi => by
    simp only [List.length_cons] at hi
    rw [List.length_cons, show r.length + 1 + x + 1 = r.length + x + 1 + 1 by omega, junctionref5_Grid.l1, if_pos (by simp; omega), rgrid_group K G C i g r hd (by omega), Option.bind_some, List.all_cons]
    cases hg : gOk g
    · rfl
    · simp only [if_true, onSum]
      rw [IntWalk.i64_in _ (by omega), show ((i : Int) + 1) = ((i + 1 : Nat) : Int) by omega, rgrid_groups K G C hG r x (i + 1) (drop_next hd) (by omega)]
      simp
theorem rgrid_pair (K : Nat) (n : Int) (c : Am.Tryd.S47) : junctionref5_Grid.l2 K n c.f0 c.f1 c.f2 c.f3 = some (if cOk n c = true then .inr (((), ()), (c.f0, c.f1, c.f2, c.f3, ()), ()) else .inl ((false, ()), (c.f0, c.f1, c.f2, c.f3, ()), ())) := by
  unfold junctionref5_Grid.l2 cOk
  rw [within_ok, Option.bind_some, within_ok, Option.bind_some]
  cases decide (c.f0 < 0) <;> cases decide (c.f1 ≤ c.f0) <;> cases decide (c.f1 ≥ n) <;> cases inB c.f2 0 3600 <;> cases inB c.f3 0 3600 <;> rfl
theorem rgrid_pairs (K : Nat) (G : List Am.Tryd.S42) (C : List Am.Tryd.S47) (n : Int) (hC : C.length ≤ 1000000000000000) : ∀ (r : List Am.Tryd.S47) (x i : Nat) (a b : Int), C.drop i = r → i + r.length = C.length →
    (i = 0 → a = -1 ∧ b = -1) → (∀ j, i = j + 1 → (C.getD j ⟨0, 0, 0, 0⟩).f0 = a ∧ (C.getD j ⟨0, 0, 0, 0⟩).f1 = b) →
    junctionref5_Grid.l4 K (r.length + x + 1) G C n (i : Int) = some (if chain n a b r = true then .inr ((), ()) else .inl ((false, ()), ()))
  | [], x, i, a, b, hd, hi, h0, h1 => by
    rw [junctionref5_Grid.l4, if_neg (by simp at hi ⊢; omega)]
    rfl
  | c :: r, x, i, a, b, hd, hi, h0, h1 => by
    simp only [List.length_cons] at hi
    have hn := rgrid_pairs K G C n hC r x (i + 1) c.f0 c.f1 (drop_next hd) (by omega) (fun h => by omega) (fun j hj => by
      obtain rfl : i = j := by omega
      rw [getD_drop hd]; exact ⟨rfl, rfl⟩)
    rw [List.length_cons, show r.length + 1 + x + 1 = r.length + x + 1 + 1 by omega, junctionref5_Grid.l4, if_pos (by simp; omega)]
    unfold junctionref5_Grid.l3
    rw [if_pos (by omega), Int.toNat_natCast, getD_drop hd, rgrid_pair, Option.bind_some, chain]
    cases hc : cOk n c
    · rfl
    · simp only [if_true, onSum]
      have hc0 : 0 ≤ c.f0 := by
        unfold cOk at hc
        simp only [Bool.and_eq_true, Bool.not_eq_true', decide_eq_false_iff_not] at hc
        omega
      by_cases hz : i = 0
      · obtain ⟨rfl, rfl⟩ := h0 hz
        have ha : aft (-1) (-1) c = true := by
          unfold aft
          have h1 : ¬ c.f0 < -1 := by omega
          have h2 : c.f0 ≠ -1 := by omega
          simp [h1, h2]
        rw [if_neg (by simp [hz]), Option.bind_some, ha]
        rw [IntWalk.i64_in _ (by omega), show ((i : Int) + 1) = ((i + 1 : Nat) : Int) by omega, hn]
        simp
      · obtain ⟨j, rfl⟩ : ∃ j, i = j + 1 := ⟨i - 1, by omega⟩
        obtain ⟨rfl, rfl⟩ := h1 j rfl
        rw [if_pos (show decide (((j + 1 : Nat) : Int) > 0) = true by simp), IntWalk.i64_in _ (by omega), show (((j + 1 : Nat) : Int) - 1) = (j : Int) by omega, if_pos (by omega), Int.toNat_natCast]
        generalize C.getD j ⟨0, 0, 0, 0⟩ = p at *
        rw [IntWalk.i64_in (((j + 1 : Nat) : Int) + 1) (by omega), show (((j + 1 : Nat) : Int) + 1) = ((j + 1 + 1 : Nat) : Int) by omega, hn]
        unfold aft
        cases decide (c.f0 < p.f0) <;> cases (c.f0 == p.f0) <;> cases decide (c.f1 ≤ p.f1) <;> simp
theorem rgrid_ok (K : Nat) (G : List Am.Tryd.S42) (C : List Am.Tryd.S47) (hC : C.length ≤ 1000000000000000) (hK : C.length + 100 ≤ K) : junctionref5_Grid K G C = some (gridB G C, ()) := by
  unfold junctionref5_Grid gridB
  by_cases hG : G.length ≤ 64
  · have h1 := rgrid_groups K G C hG G (K - G.length - 1) 0 rfl (by omega)
    rw [show G.length + (K - G.length - 1) + 1 = K by omega, show ((0 : Nat) : Int) = 0 from rfl] at h1
    have h2 := rgrid_pairs K G C G.length hC C (K - C.length - 1) 0 (-1) (-1) rfl (by omega) (fun _ => ⟨rfl, rfl⟩) (fun j hj => by omega)
    rw [show C.length + (K - C.length - 1) + 1 = K by omega, show ((0 : Nat) : Int) = 0 from rfl] at h2
    rw [if_neg (by simp; omega), h1, Option.bind_some, h2, Option.bind_some]
    simp only [hG, decide_true, Bool.true_and]
    cases G.all gOk <;> cases chain G.length (-1) (-1) C <;> rfl
  · rw [if_pos (by simp; omega)]
    simp [hG]
end Go.Am.Tryd
end

section
namespace Go.Am.Tryd
open Go.Proofs Go.Am Go.RowKit Go.Proofs.YtdgempbldhdihaaDoor.P
set_option maxRecDepth 100000
set_option linter.unusedVariables false

/-- Does a mask hold a group? -/
def hasM (m : Nat) (g : Int) : Bool := decide (0 ≤ g) && (decide (g < 64) && m.testBit g.toNat)
theorem has_ok (K : Nat) (m : Nat) (hm : m < 18446744073709551616) (g : Int) : safety_has K (m : Int) g = some (hasM m g, ()) := by
  unfold safety_has hasM
  by_cases h0 : 0 ≤ g
  · rw [if_pos (by simpa using h0)]
    by_cases h1 : g < 64
    · obtain ⟨i, rfl⟩ := Int.eq_ofNat_of_zero_le h0
      have hb := hasB_nat m i hm (by omega)
      unfold hasB at hb
      have e : IntKind.u64.wrap (i : Int) = (i : Int) := by rw [IntKind.wrap_u64]; omega
      have es : Am.shr .u64 (m : Int) (i : Int) = Go.Proofs.YtdgempbldhdihaaDoorW.PrintWords.shr .u64 (m : Int) (i : Int) := by
        unfold Am.shr Go.Proofs.YtdgempbldhdihaaDoorW.PrintWords.shr
        rw [Int.fdiv_eq_ediv_of_nonneg _ (Int.le_of_lt (Int.pow_pos (by decide)))]
      rw [if_pos (by simpa using h1), e, if_neg (by omega), es]
      have h2 : decide ((0 : Int) ≤ (i : Int)) = true := decide_eq_true (by omega)
      have h3 : decide ((i : Int) < 64) = true := decide_eq_true (by omega)
      rw [h2, h3] at hb ⊢
      simp only [Bool.true_and] at hb ⊢
      rw [Int.toNat_natCast, ← hb]
      rfl
    · simp [h0, h1]
  · simp [h0]
def clashB (n : Int) (m : Nat) (c : Am.Tryd.S47) : Bool := decide (c.f0 < n) && (decide (c.f1 < n) && (hasM m c.f0 && hasM m c.f1))
theorem clash_one (K : Nat) (G : List Am.Tryd.S42) (C : List Am.Tryd.S47) (m : Nat) (hm : m < 18446744073709551616) (c : Am.Tryd.S47) : safety_Clash.l0 K (m : Int) G C c.f0 c.f1 c.f2 c.f3 = some ((clashB G.length m c, (), ()), (c.f0, c.f1, c.f2, c.f3, ()), ()) := by
  unfold safety_Clash.l0 clashB
  rw [has_ok K m hm, Option.bind_some, has_ok K m hm, Option.bind_some]
  cases decide (c.f0 < (G.length : Int)) <;> cases decide (c.f1 < (G.length : Int)) <;> cases hasM m c.f0 <;> cases hasM m c.f1 <;> rfl
theorem clash_loop (K : Nat) (G : List Am.Tryd.S42) (C : List Am.Tryd.S47) (m : Nat) (hm : m < 18446744073709551616) (hC : C.length ≤ 1000000000000000) : ∀ (r : List Am.Tryd.S47) (x i : Nat), C.drop i = r → i + r.length = C.length →
    (r.any (clashB G.length m) = true ∧ ∃ a b, safety_Clash.l1 K (r.length + x + 1) (m : Int) G C C (C.length : Int) (i : Int) = some (.inl ((a, b, true, ()), ()))) ∨ (r.any (clashB G.length m) = false ∧ safety_Clash.l1 K (r.length + x + 1) (m : Int) G C C (C.length : Int) (i : Int) = some (.inr ((), ())))
  | [], x, i, hd, hi => by
    refine .inr ⟨rfl, ?_⟩
    rw [safety_Clash.l1, if_neg (by simp at hi ⊢; omega)]
  | c :: r, x, i, hd, hi => by
    simp only [List.length_cons] at hi
    rw [List.length_cons, show r.length + 1 + x + 1 = r.length + x + 1 + 1 by omega, safety_Clash.l1, if_pos (by simp; omega), if_pos (by omega), Int.toNat_natCast, getD_drop hd, clash_one K G C m hm, Option.bind_some, List.any_cons]
    cases hc : clashB G.length m c
    · have := clash_loop K G C m hm hC r x (i + 1) (drop_next hd) (by omega)
      rw [if_neg (by simp), IntWalk.i64_in _ (by omega), show ((i : Int) + 1) = ((i + 1 : Nat) : Int) by omega, Bool.false_or]
      exact this
    · exact .inl ⟨rfl, _, _, rfl⟩
theorem clash_ok (K : Nat) (G : List Am.Tryd.S42) (C : List Am.Tryd.S47) (m : Nat) (hm : m < 18446744073709551616) (hC : C.length ≤ 1000000000000000) (hK : C.length + 100 ≤ K) : ∃ a b, safety_Clash K G C (m : Int) = some ((a, b, C.any (clashB G.length m), ()), ()) := by
  unfold safety_Clash
  have := clash_loop K G C m hm hC C (K - C.length - 1) 0 rfl (by omega)
  rw [show C.length + (K - C.length - 1) + 1 = K by omega, show ((0 : Nat) : Int) = 0 from rfl] at this
  rcases this with ⟨h1, a, b, h2⟩ | ⟨h1, h2⟩
  · rw [h2, h1]; exact ⟨_, _, rfl⟩
  · rw [h2, h1]; exact ⟨_, _, rfl⟩
def refusedM (G : List Am.Tryd.S42) (C : List Am.Tryd.S47) (a b : Nat) : Int := if gridB G C then (if C.any (clashB G.length a) || C.any (clashB G.length b) then 60 else 0) else 70
theorem refused_ok (K : Nat) (G : List Am.Tryd.S42) (C : List Am.Tryd.S47) (a b : Nat) (ha : a < 18446744073709551616) (hb : b < 18446744073709551616) (hC : C.length ≤ 1000000000000000) (hK : C.length + 100 ≤ K) : safety_refused K G C (a : Int) (b : Int) = some (refusedM G C a b, ()) := by
  unfold safety_refused refusedM
  rw [grid_ok K G C hC hK, Option.bind_some]
  cases gridB G C
  · rfl
  · obtain ⟨x, y, h1⟩ := clash_ok K G C a ha hC hK
    obtain ⟨u, v, h2⟩ := clash_ok K G C b hb hC hK
    obtain ⟨k, hk⟩ : ∃ k, K = k + 3 := ⟨K - 3, by omega⟩
    rw [if_neg (by simp)]
    have hl : safety_refused.l0 K K G C (a : Int) (b : Int) 0 = some (if C.any (clashB G.length a) || C.any (clashB G.length b) then .inl ((60, ()), ()) else .inr ((), ())) := by
      conv => lhs; arg 2; rw [hk]
      rw [safety_refused.l0, if_pos (by decide), if_pos (by rfl), h1, Option.bind_some]
      cases C.any (clashB G.length a)
      · simp only [Bool.false_or]
        rw [if_neg (by simp), show IntKind.wrap IntKind.i64 (0 + 1) = 1 from by rfl, safety_refused.l0, if_pos (by decide), if_neg (by simp), if_pos (by simp), h2, Option.bind_some]
        cases C.any (clashB G.length b)
        · rw [if_neg (by simp), show IntKind.wrap IntKind.i64 (1 + 1) = 2 from by rfl, safety_refused.l0, if_neg (by decide)]
          rfl
        · rfl
      · rfl
    rw [hl, Option.bind_some]
    cases C.any (clashB G.length a) || C.any (clashB G.length b) <;> rfl

theorem okB_of {G : List Am.Tryd.S42} {C : List Am.Tryd.S47} (h : gridB G C = true) (hC : C.length ≤ 140737488351232) : okB G C = true := by
  unfold gridB at h
  simp only [Bool.and_eq_true, decide_eq_true_eq] at h
  obtain ⟨h1, h2, h3⟩ := h
  unfold okB grB
  simp only [Bool.and_eq_true, decide_eq_true_eq, List.length_map, List.all_map, List.all_eq_true, Function.comp]
  refine ⟨h1, fun g hg => ?_, ?_, hC⟩
  · have := List.all_eq_true.1 h2 g hg
    unfold gOk inB at this
    simp only [Bool.and_eq_true, decide_eq_true_eq] at this
    simp only [o42]
    omega
  · have hc : ∀ (l : List Am.Tryd.S47) (a b : Int), chain G.length a b l = true → ∀ c ∈ l, cOk G.length c = true := by
      intro l
      induction l with
      | nil => intro a b _ c hc; simp at hc
      | cons d l ih =>
        intro a b h c hc
        simp only [chain, Bool.and_eq_true] at h
        rcases List.mem_cons.1 hc with rfl | hc
        · exact h.1
        · exact ih _ _ h.2.2 c hc
    intro c hm
    have := hc _ _ _ h3 c hm
    unfold cOk inB at this
    simp only [Bool.and_eq_true, decide_eq_true_eq, Bool.not_eq_true', decide_eq_false_iff_not] at this
    simp only [o47]
    omega
theorem u64_nat (n : Nat) (h : n < 18446744073709551616) : u64B (n : Int) = true := by unfold u64B; exact decide_eq_true ⟨by omega, by omega⟩
def spanM (G : List Am.Tryd.S42) (C : List Am.Tryd.S47) (a b foes : Nat) : Int := throughF (G.map o42) (C.map o47) (a : Int) (b : Int) (foes : Int)
theorem through_ok (K : Nat) (G : List Am.Tryd.S42) (C : List Am.Tryd.S47) (a b f : Nat) (ha : a < 18446744073709551616) (hb : b < 18446744073709551616) (hf : f < 18446744073709551616) (hC : C.length ≤ 140737488351232) (hg : gridB G C = true) :
    safety_through K G C (a : Int) (b : Int) (f : Int) = some (spanM G C a b f, ()) := by
  unfold safety_through
  rw [okB_of hg hC, u64_nat a ha, u64_nat b hb, u64_nat f hf]
  rfl
def answer (e : Int) (v : Int) : Option ((Int × Int × Unit) × Unit) := some ((if e = 0 then v else 0, e, ()), ())
theorem span_ok (K : Nat) (G : List Am.Tryd.S42) (C : List Am.Tryd.S47) (a b : Nat) (ha : a < 18446744073709551616) (hb : b < 18446744073709551616) (hC : C.length ≤ 140737488351232) (hK : C.length + 100 ≤ K) :
    safety_Span K G C (a : Int) (b : Int) = answer (refusedM G C a b) (spanM G C a b (lostF a b)) := by
  unfold safety_Span answer
  rw [refused_ok K G C a b ha hb (by omega) hK, Option.bind_some]
  by_cases hr : refusedM G C a b = 0
  · have hg : gridB G C = true := by
      unfold refusedM at hr
      split at hr
      · assumption
      · cases hr
    obtain ⟨e1, e2⟩ := lostF_eq a b
    have e3 : (IntKind.wrap IntKind.u64 (((BitVec.ofInt (IntKind.bits IntKind.u64) (a : Int) &&& ~~~BitVec.ofInt (IntKind.bits IntKind.u64) (b : Int)).toNat : Nat) : Int)) = (lostF a b : Int) := e1
    rw [hr, if_neg (by simp), e3, through_ok K G C a b _ ha hb e2 hC hg]
    rfl
  · rw [if_pos (by simpa using hr), if_neg hr]
theorem longest_ok (K : Nat) (G : List Am.Tryd.S42) (C : List Am.Tryd.S47) (a b : Nat) (ha : a < 18446744073709551616) (hb : b < 18446744073709551616) (hC : C.length ≤ 140737488351232) (hK : C.length + 100 ≤ K) :
    safety_Longest K G C (a : Int) (b : Int) = answer (refusedM G C a b) (spanM G C a b 18446744073709551615) := by
  unfold safety_Longest answer
  rw [refused_ok K G C a b ha hb (by omega) hK, Option.bind_some]
  by_cases hr : refusedM G C a b = 0
  · have hg : gridB G C = true := by
      unfold refusedM at hr
      split at hr
      · assumption
      · cases hr
    rw [hr, if_neg (by simp), show (18446744073709551615 : Int) = ((18446744073709551615 : Nat) : Int) from rfl, through_ok K G C a b _ ha hb (by decide) hC hg]
    rfl
  · rw [if_pos (by simpa using hr), if_neg hr]

/-! ### Hold -/
def g0 : Am.Tryd.S42 := ⟨ByteArray.empty, 0, 0, 0, 0⟩
def minM (G : List Am.Tryd.S42) (i : Nat) : Int := (G.getD i g0).f2 - 1
def holdM (G : List Am.Tryd.S42) (a b : Nat) : Int := maxB G.length (minM G) (lostF a b) 0
theorem and_nat (x y : Nat) (hx : x < 18446744073709551616) (hy : y < 18446744073709551616) : IntKind.wrap IntKind.u64 (((BitVec.ofInt (IntKind.bits IntKind.u64) (x : Int) &&& BitVec.ofInt (IntKind.bits IntKind.u64) (y : Int)).toNat : Nat) : Int) = ((x &&& y : Nat) : Int) := bits_and_u64_nat x y hx hy
theorem getD_mem {G : List Am.Tryd.S42} {i : Nat} (h : i < G.length) (d : Am.Tryd.S42) : G.getD i d ∈ G := by
  rw [List.getD_eq_getElem?_getD, List.getElem?_eq_getElem h]
  exact List.getElem_mem _
theorem low_zero (x : Nat) (hx : x < 18446744073709551616) (h0 : x ≠ 0) (i : Nat) (hi : i < Lib.ctz 64 x) : x.testBit i = false := by
  obtain ⟨m, hm, hk⟩ := Lib.ctzFrom_spec 64 x (by omega) hx
  have e : Lib.ctz 64 x = Lib.ctzFrom 64 x := by unfold Lib.ctz; rw [if_neg h0]
  rw [e] at hi
  generalize Lib.ctzFrom 64 x = k at *
  rw [hm, Nat.mul_comm, Nat.testBit_mul_two_pow]
  have : ¬ k ≤ i := by omega
  simp [this]
theorem members_ok (K : Nat) (G : List Am.Tryd.S42) (C : List Am.Tryd.S47) (hG : G.all gOk = true) : ∀ (x t : Nat) (m : Nat) (c r : Int), m < 18446744073709551616 → (∀ i, i < t → m.testBit i = false) → IsMaxB G.length (minM G) m c r →
    safety_members.l1 K ((64 - t) + x + 1) (m : Int) G C c G C = some ((((), (), ()), ()), (r, ()), (G, C, ()), ())
  | x, t, m, c, r, hm, ht, hr => by
    by_cases h0 : m = 0
    · subst h0
      have := hr.done
      subst this
      rw [safety_members.l1, if_neg (by simp)]
    · obtain ⟨b1, b2, b3⟩ := lowbit m hm h0
      have hlt : t ≤ Lib.ctz 64 m := by
        rcases Nat.lt_or_ge (Lib.ctz 64 m) t with h | h
        · rw [ht _ h] at b1; cases b1
        · exact h
      have hs := hr.step hm h0
      have hm' : m &&& (m - 1) < 18446744073709551616 := Nat.lt_of_le_of_lt Nat.and_le_left hm
      have hrec := members_ok K G C hG (x + (Lib.ctz 64 m - t)) (Lib.ctz 64 m + 1) (m &&& (m - 1)) _ r hm' (fun i hi => by
        rw [b3]
        by_cases hc : i = Lib.ctz 64 m
        · simp [hc]
        · cases hb : m.testBit i
          · rfl
          · exfalso
            rw [low_zero m hm h0 i (by omega)] at hb
            cases hb) hs
      rw [show (64 - t) + x + 1 = (64 - (Lib.ctz 64 m + 1)) + (x + (Lib.ctz 64 m - t)) + 1 + 1 by omega, safety_members.l1, if_pos (by simpa using h0)]
      have e0 : safety_members.l0 K (m : Int) G C c G C = some ((((), (), ()), ()), ((if Lib.ctz 64 m < G.length then max c (minM G (Lib.ctz 64 m)) else c), ()), (G, C, ()), ()) := by
        unfold safety_members.l0 bits_TrailingZeros64
        rw [if_pos (by omega), Option.bind_some, Int.toNat_natCast]
        by_cases hl : Lib.ctz 64 m < G.length
        · have hg := List.all_eq_true.1 hG _ (getD_mem hl g0)
          unfold gOk inB at hg
          simp only [Bool.and_eq_true, decide_eq_true_eq] at hg
          rw [if_pos (by simpa using hl), if_pos hl]
          unfold safety_Hold_1
          rw [if_pos (by simpa using hl), Int.toNat_natCast]
          change Option.bind (some (((), (), (), ()), (max c (IntKind.wrap IntKind.i64 ((G.getD (Lib.ctz 64 m) g0).f2 - 1)), ()), (G, C, ()), ())) _ = _
          rw [IntWalk.i64_in _ (by omega)]
          rfl
        · rw [if_neg (by simpa using hl), if_neg hl]
      rw [e0, Option.bind_some]
      simp only
      have hw : IntKind.wrap IntKind.u64 ((m : Int) - 1) = ((m - 1 : Nat) : Int) := by rw [IntKind.wrap_u64]; omega
      rw [hw, and_nat m (m - 1) hm (by omega)]
      exact hrec
  termination_by _ _ m => m
  decreasing_by exact and_lt m h0
theorem hold_ok (K : Nat) (G : List Am.Tryd.S42) (C : List Am.Tryd.S47) (a b : Nat) (hC : C.length ≤ 140737488351232) (hK : C.length + 100 ≤ K) :
    safety_Hold K G C (a : Int) (b : Int) = answer (if gridB G C then 0 else 70) (holdM G a b) := by
  unfold safety_Hold answer
  rw [grid_ok K G C (by omega) hK, Option.bind_some]
  cases hg : gridB G C
  · rfl
  · have hG : G.all gOk = true := by
      unfold gridB at hg
      simp only [Bool.and_eq_true] at hg
      exact hg.2.1
    obtain ⟨e1, e2⟩ := lostF_eq a b
    have e3 : (IntKind.wrap IntKind.u64 (((BitVec.ofInt (IntKind.bits IntKind.u64) (a : Int) &&& ~~~BitVec.ofInt (IntKind.bits IntKind.u64) (b : Int)).toNat : Nat) : Int)) = (lostF a b : Int) := e1
    have hm := members_ok K G C hG (K - 65) 0 (lostF a b) 0 (holdM G a b) e2 (fun i hi => by omega) (maxB_is _ _ _ _)
    rw [show 64 - 0 + (K - 65) + 1 = K by omega] at hm
    rw [if_neg (by simp), e3]
    unfold safety_members
    rw [hm, Option.bind_some, Option.bind_some]
    rfl
def aG : List Am.Tryd.S42 := [⟨ByteArray.mk #[], 1, 5, 3, 1⟩, ⟨ByteArray.mk #[], 1, 6, 4, 0⟩]
def aC : List Am.Tryd.S47 := [⟨0, 1, 7, 4⟩]
theorem alive_ok (x : Nat) : junctionlaw6_alive (x + 200) = some (true, ()) := by
  have hsp : safety_Span (x + 200) aG aC 1 2 = some ((8, 0, ()), ()) := (span_ok (x + 200) aG aC 1 2 (by decide) (by decide) (by decide) (by simp [aC])).trans (by kernel_rfl)
  have hlo : safety_Longest (x + 200) aG aC 2 1 = some ((6, 0, ()), ()) := (longest_ok (x + 200) aG aC 2 1 (by decide) (by decide) (by decide) (by simp [aC])).trans (by kernel_rfl)
  have hho : safety_Hold (x + 200) aG aC 2 1 = some ((5, 0, ()), ()) := (hold_ok (x + 200) aG aC 2 1 (by decide) (by simp [aC])).trans (by kernel_rfl)
  have hcl : safety_Clash (x + 200) aG aC 3 = some ((0, 1, true, ()), ()) := by kernel_rfl
  unfold junctionlaw6_alive
  change Option.bind (safety_Clash (x + 200) aG aC 3) _ = _
  rw [hcl, Option.bind_some]
  change Option.bind (safety_Span (x + 200) aG aC 1 2) _ = _
  rw [hsp, Option.bind_some]
  change Option.bind (safety_Longest (x + 200) aG aC 2 1) _ = _
  rw [hlo, Option.bind_some]
  change Option.bind (safety_Hold (x + 200) aG aC 2 1) _ = _
  rw [hho]
  rfl
end Go.Am.Tryd
end

section
namespace Go.Am.Tryd
open Go.Proofs Go.Am Go.RowKit Go.Proofs.YtdgempbldhdihaaDoor.P
set_option maxRecDepth 100000
set_option linter.unusedVariables false

abbrev Cf := Am.Tryd.S47
def lt47 (c d : Cf) : Prop := c.f0 < d.f0 ∨ (c.f0 = d.f0 ∧ c.f1 < d.f1)
theorem aft_iff {a b : Int} {c : Cf} : aft a b c = true ↔ a < c.f0 ∨ (a = c.f0 ∧ b < c.f1) := by
  unfold aft
  simp only [Bool.and_eq_true, Bool.not_eq_true', decide_eq_false_iff_not, Bool.and_eq_false_iff, beq_eq_false_iff_ne, ne_eq]
  omega
/-- Rows in their order, each sound. -/
structure Sorted (n : Int) (L : List Cf) : Prop where
  ok : ∀ c ∈ L, cOk n c = true
  lt : L.Pairwise lt47
theorem cOk_iff {n : Int} {c : Cf} : cOk n c = true ↔ 0 ≤ c.f0 ∧ c.f0 < c.f1 ∧ c.f1 < n ∧ (0 ≤ c.f2 ∧ c.f2 ≤ 3600) ∧ (0 ≤ c.f3 ∧ c.f3 ≤ 3600) := by
  unfold cOk inB
  simp only [Bool.and_eq_true, Bool.not_eq_true', decide_eq_false_iff_not, decide_eq_true_eq]
  omega
theorem chain_sorted {n : Int} : ∀ {L : List Cf} {a b : Int}, chain n a b L = true → Sorted n L ∧ ∀ c ∈ L, a < c.f0 ∨ (a = c.f0 ∧ b < c.f1)
  | [], a, b, _ => ⟨⟨fun c h => by simp at h, .nil⟩, fun c h => by simp at h⟩
  | c :: L, a, b, h => by
    simp only [chain, Bool.and_eq_true] at h
    obtain ⟨h1, h2, h3⟩ := h
    obtain ⟨⟨k1, k2⟩, k3⟩ := chain_sorted h3
    have h2' := aft_iff.1 h2
    refine ⟨⟨fun d hd => ?_, .cons k3 k2⟩, fun d hd => ?_⟩
    · rcases List.mem_cons.1 hd with rfl | hd
      · exact h1
      · exact k1 d hd
    · rcases List.mem_cons.1 hd with rfl | hd
      · exact h2'
      · have := k3 d hd; omega
theorem sorted_chain {n : Int} : ∀ {L : List Cf} {a b : Int}, Sorted n L → (∀ c ∈ L, a < c.f0 ∨ (a = c.f0 ∧ b < c.f1)) → chain n a b L = true
  | [], a, b, _, _ => rfl
  | c :: L, a, b, ⟨h1, h2⟩, h3 => by
    rw [List.pairwise_cons] at h2
    simp only [chain, Bool.and_eq_true]
    exact ⟨h1 c List.mem_cons_self, aft_iff.2 (h3 c List.mem_cons_self), sorted_chain ⟨fun d hd => h1 d (List.mem_cons_of_mem _ hd), h2.2⟩ fun d hd => h2.1 d hd⟩

def iM (L : List Cf) (a b : Int) : Option Int := inter1 a b (L.map o47)
theorem iM_interF (L : List Cf) (a b : Int) : Pr.interF (L.map o47) a b = iM L a b := interF_at _ a b
theorem iM_cons (c : Cf) (L : List Cf) (a b : Int) : iM (c :: L) a b = if c.f0 = a ∧ c.f1 = b then some c.f2 else if c.f0 = b ∧ c.f1 = a then some c.f3 else iM L a b := rfl
theorem iM_up {n : Int} : ∀ {L : List Cf}, Sorted n L → ∀ {a b v : Int}, a < b → (iM L a b = some v ↔ ∃ c ∈ L, c.f0 = a ∧ c.f1 = b ∧ c.f2 = v)
  | [], _, a, b, v, _ => by simp [iM, inter1]
  | c :: L, ⟨h1, h2⟩, a, b, v, hab => by
    rw [List.pairwise_cons] at h2
    have ih := iM_up (L := L) ⟨fun d hd => h1 d (List.mem_cons_of_mem _ hd), h2.2⟩ (v := v) hab
    have hc := cOk_iff.1 (h1 c List.mem_cons_self)
    rw [iM_cons]
    by_cases h : c.f0 = a ∧ c.f1 = b
    · rw [if_pos h]
      constructor
      · intro hv; exact ⟨c, List.mem_cons_self, h.1, h.2, Option.some.inj hv⟩
      · rintro ⟨d, hd, d1, d2, d3⟩
        rcases List.mem_cons.1 hd with rfl | hd
        · rw [d3]
        · have := h2.1 d hd; unfold lt47 at this; omega
    · rw [if_neg h, if_neg (by omega), ih]
      constructor
      · rintro ⟨d, hd, h⟩; exact ⟨d, List.mem_cons_of_mem _ hd, h⟩
      · rintro ⟨d, hd, d1, d2, d3⟩
        rcases List.mem_cons.1 hd with rfl | hd
        · exact absurd ⟨d1, d2⟩ h
        · exact ⟨d, hd, d1, d2, d3⟩
theorem iM_down {n : Int} : ∀ {L : List Cf}, Sorted n L → ∀ {a b v : Int}, a < b → (iM L b a = some v ↔ ∃ c ∈ L, c.f0 = a ∧ c.f1 = b ∧ c.f3 = v)
  | [], _, a, b, v, _ => by simp [iM, inter1]
  | c :: L, ⟨h1, h2⟩, a, b, v, hab => by
    rw [List.pairwise_cons] at h2
    have ih := iM_down (L := L) ⟨fun d hd => h1 d (List.mem_cons_of_mem _ hd), h2.2⟩ (v := v) hab
    have hc := cOk_iff.1 (h1 c List.mem_cons_self)
    rw [iM_cons]
    by_cases h : c.f0 = a ∧ c.f1 = b
    · rw [if_neg (by omega), if_pos h]
      constructor
      · intro hv; exact ⟨c, List.mem_cons_self, h.1, h.2, Option.some.inj hv⟩
      · rintro ⟨d, hd, d1, d2, d3⟩
        rcases List.mem_cons.1 hd with rfl | hd
        · rw [d3]
        · have := h2.1 d hd; unfold lt47 at this; omega
    · rw [if_neg (by omega), if_neg h, ih]
      constructor
      · rintro ⟨d, hd, h⟩; exact ⟨d, List.mem_cons_of_mem _ hd, h⟩
      · rintro ⟨d, hd, d1, d2, d3⟩
        rcases List.mem_cons.1 hd with rfl | hd
        · exact absurd ⟨d1, d2⟩ h
        · exact ⟨d, hd, d1, d2, d3⟩
theorem iM_self {n : Int} : ∀ {L : List Cf}, Sorted n L → ∀ a, iM L a a = none
  | [], _, a => rfl
  | c :: L, ⟨h1, h2⟩, a => by
    have hc := cOk_iff.1 (h1 c List.mem_cons_self)
    rw [List.pairwise_cons] at h2
    rw [iM_cons, if_neg (by omega), if_neg (by omega)]
    exact iM_self ⟨fun d hd => h1 d (List.mem_cons_of_mem _ hd), h2.2⟩ a
/-- Two groups are in conflict just where a row names both. -/
theorem iM_some {n : Int} {L : List Cf} (h : Sorted n L) (a b : Int) : (iM L a b).isSome = true ↔ ∃ c ∈ L, (c.f0 = a ∧ c.f1 = b) ∨ (c.f0 = b ∧ c.f1 = a) := by
  rw [Option.isSome_iff_exists]
  rcases Int.lt_trichotomy a b with hab | hab | hab
  · constructor
    · rintro ⟨v, hv⟩
      obtain ⟨c, hc, h1, h2, _⟩ := (iM_up h hab).1 hv
      exact ⟨c, hc, .inl ⟨h1, h2⟩⟩
    · rintro ⟨c, hc, h1 | h1⟩
      · exact ⟨_, (iM_up h hab).2 ⟨c, hc, h1.1, h1.2, rfl⟩⟩
      · have := cOk_iff.1 (h.ok c hc); omega
  · subst hab
    constructor
    · rintro ⟨v, hv⟩; rw [iM_self h] at hv; cases hv
    · rintro ⟨c, hc, h1⟩
      have := cOk_iff.1 (h.ok c hc); omega
  · constructor
    · rintro ⟨v, hv⟩
      obtain ⟨c, hc, h1, h2, _⟩ := (iM_down h hab).1 hv
      exact ⟨c, hc, .inr ⟨h1, h2⟩⟩
    · rintro ⟨c, hc, h1 | h1⟩
      · have := cOk_iff.1 (h.ok c hc); omega
      · exact ⟨_, (iM_down h hab).2 ⟨c, hc, h1.1, h1.2, rfl⟩⟩
theorem iM_symm {n : Int} {L : List Cf} (h : Sorted n L) (a b : Int) : (iM L a b).isSome = (iM L b a).isSome := by
  rw [Bool.eq_iff_iff, iM_some h, iM_some h]
  constructor <;> rintro ⟨c, hc, h1⟩ <;> exact ⟨c, hc, h1.symm⟩
theorem iM_range {n : Int} {L : List Cf} (h : Sorted n L) {a b v : Int} (hv : iM L a b = some v) : (0 ≤ a ∧ a < n) ∧ (0 ≤ b ∧ b < n) ∧ 0 ≤ v ∧ v ≤ 3600 := by
  obtain ⟨c, hc, h1⟩ := (iM_some h a b).1 (by rw [hv]; rfl)
  have hk := cOk_iff.1 (h.ok c hc)
  rcases h1 with h1 | h1
  · obtain ⟨d, hd, d1, d2, d3⟩ := (iM_up h (by omega : a < b)).1 hv
    have := cOk_iff.1 (h.ok d hd); omega
  · obtain ⟨d, hd, d1, d2, d3⟩ := (iM_down h (by omega : b < a)).1 hv
    have := cOk_iff.1 (h.ok d hd); omega

/-! ### Turned -/
def sw (i j : Nat) (g : Nat) : Nat := if g = i then j else if g = j then i else g
theorem sw_sw (i j g : Nat) : sw i j (sw i j g) = g := by unfold sw; (repeat' split) <;> omega
theorem sw_lt {i j n g : Nat} (hi : i < n) (hj : j < n) (h : g < n) : sw i j g < n := by unfold sw; (repeat' split) <;> omega
theorem sw_inj {i j a b : Nat} (h : sw i j a = sw i j b) : a = b := by rw [← sw_sw i j a, h, sw_sw]
theorem turned_ok (K : Nat) (i j g : Nat) : junctionlaw6_turned K (g : Int) (i : Int) (j : Int) = some (((sw i j g : Nat) : Int), ()) := by
  unfold junctionlaw6_turned sw
  by_cases h1 : g = i
  · rw [if_pos (by simp [h1]), if_pos h1]
  · rw [if_neg (by simp; omega), if_neg h1]
    by_cases h2 : g = j
    · rw [if_pos (by simp [h2]), if_pos h2]
    · rw [if_neg (by simp; omega), if_neg h2]
def uRow (C : List Cf) (i j a b : Nat) : List Cf := match iM C (sw i j a : Nat) (sw i j b : Nat) with
  | some v => [⟨a, b, v, (iM C (sw i j b : Nat) (sw i j a : Nat)).getD 0⟩]
  | none => []
def uLine (C : List Cf) (i j n a : Nat) : List Cf := (List.range' (a + 1) (n - (a + 1))).flatMap (uRow C i j a)
def uAll (C : List Cf) (i j n : Nat) : List Cf := (List.range' 0 n).flatMap (uLine C i j n)
theorem uRow_mem {C : List Cf} {i j a b : Nat} {c : Cf} (h : c ∈ uRow C i j a b) : c.f0 = a ∧ c.f1 = b ∧ iM C (sw i j a : Nat) (sw i j b : Nat) = some c.f2 ∧ c.f3 = (iM C (sw i j b : Nat) (sw i j a : Nat)).getD 0 := by
  unfold uRow at h
  split at h
  · rename_i v hv
    simp only [List.mem_singleton] at h
    subst h
    exact ⟨rfl, rfl, hv, rfl⟩
  · simp at h
theorem uAll_mem {C : List Cf} {i j n : Nat} {c : Cf} : c ∈ uAll C i j n ↔ ∃ a b : Nat, a < b ∧ b < n ∧ c ∈ uRow C i j a b := by
  unfold uAll uLine
  simp only [List.mem_flatMap, List.mem_range'_1]
  constructor
  · rintro ⟨a, ha, b, hb, hc⟩; exact ⟨a, b, by omega, by omega, hc⟩
  · rintro ⟨a, b, h1, h2, hc⟩; exact ⟨a, by omega, b, by omega, hc⟩
theorem uAll_has {C : List Cf} {i j n a b : Nat} {v : Int} (hab : a < b) (hb : b < n) (h : iM C (sw i j a : Nat) (sw i j b : Nat) = some v) : (⟨a, b, v, (iM C (sw i j b : Nat) (sw i j a : Nat)).getD 0⟩ : Cf) ∈ uAll C i j n := by
  refine uAll_mem.2 ⟨a, b, hab, hb, ?_⟩
  unfold uRow
  rw [h]
  simp
theorem uAll_sorted {C : List Cf} {i j n : Nat} (h : Sorted n C) : Sorted n (uAll C i j n) := by
  refine ⟨fun c hc => ?_, ?_⟩
  · obtain ⟨a, b, hab, hb, hm⟩ := uAll_mem.1 hc
    obtain ⟨h1, h2, h3, h4⟩ := uRow_mem hm
    have r1 := iM_range h h3
    have hs : (iM C (sw i j b : Nat) (sw i j a : Nat)).isSome = true := by rw [iM_symm h, h3]; rfl
    obtain ⟨w, hw⟩ := Option.isSome_iff_exists.1 hs
    have r2 := iM_range h hw
    rw [hw] at h4
    simp only [Option.getD_some] at h4
    rw [cOk_iff]
    omega
  · unfold uAll
    rw [List.pairwise_flatMap]
    refine ⟨fun a _ => ?_, ?_⟩
    · unfold uLine
      rw [List.pairwise_flatMap]
      refine ⟨fun b _ => ?_, ?_⟩
      · unfold uRow
        split
        · exact List.pairwise_singleton _ _
        · exact .nil
      · refine List.Pairwise.imp ?_ (List.pairwise_lt_range' (step := 1) (by decide))
        intro b b' hlt x hx y hy
        obtain ⟨h1, h2, _⟩ := uRow_mem hx
        obtain ⟨h3, h4, _⟩ := uRow_mem hy
        exact .inr ⟨by omega, by omega⟩
    · refine List.Pairwise.imp ?_ (List.pairwise_lt_range' (step := 1) (by decide))
      intro a a' hlt x hx y hy
      unfold uLine at hx hy
      obtain ⟨b, _, hx⟩ := List.mem_flatMap.1 hx
      obtain ⟨b', _, hy⟩ := List.mem_flatMap.1 hy
      obtain ⟨h1, h2, _⟩ := uRow_mem hx
      obtain ⟨h3, h4, _⟩ := uRow_mem hy
      exact .inl (by omega)
/-- What the turned list tells. -/
theorem uAll_iM {C : List Cf} {i j n : Nat} (h : Sorted n C) {a b : Nat} (ha : a < n) (hb : b < n) : iM (uAll C i j n) a b = iM C (sw i j a : Nat) (sw i j b : Nat) := by
  have hU := uAll_sorted (i := i) (j := j) h
  apply Option.ext
  intro v
  rcases Nat.lt_trichotomy a b with hab | hab | hab
  · rw [iM_up hU (by omega : (a : Int) < b)]
    constructor
    · rintro ⟨c, hc, h1, h2, h3⟩
      obtain ⟨a', b', _, _, hm⟩ := uAll_mem.1 hc
      obtain ⟨k1, k2, k3, k4⟩ := uRow_mem hm
      obtain rfl : a' = a := by omega
      obtain rfl : b' = b := by omega
      rw [k3, h3]
    · intro hv; exact ⟨_, uAll_has hab hb hv, rfl, rfl, rfl⟩
  · subst hab
    rw [iM_self hU, iM_self h]
  · rw [iM_down hU (by omega : (b : Int) < a)]
    constructor
    · rintro ⟨c, hc, h1, h2, h3⟩
      obtain ⟨a', b', _, _, hm⟩ := uAll_mem.1 hc
      obtain ⟨k1, k2, k3, k4⟩ := uRow_mem hm
      obtain rfl : a' = b := by omega
      obtain rfl : b' = a := by omega
      have hs : (iM C (sw i j b' : Nat) (sw i j a' : Nat)).isSome = true := by rw [iM_symm h, k3]; rfl
      obtain ⟨w, hw⟩ := Option.isSome_iff_exists.1 hs
      rw [hw] at k4 ⊢
      rw [← h3, k4]; rfl
    · intro hv
      have hs : (iM C (sw i j b : Nat) (sw i j a : Nat)).isSome = true := by rw [iM_symm h, hv]; rfl
      obtain ⟨w, hw⟩ := Option.isSome_iff_exists.1 hs
      refine ⟨_, uAll_has hab ha hw, rfl, rfl, ?_⟩
      simp [hv]
theorem nodup_le {α : Type} [DecidableEq α] : ∀ {l m : List α}, l.Nodup → (∀ x ∈ l, x ∈ m) → l.length ≤ m.length
  | [], m, _, _ => Nat.zero_le _
  | x :: l, m, hn, hs => by
    rw [List.nodup_cons] at hn
    have hx := hs x List.mem_cons_self
    have := nodup_le (l := l) (m := m.erase x) hn.2 fun y hy => (List.mem_erase_of_ne (fun e => hn.1 (by rw [← e]; exact hy))).2 (hs y (List.mem_cons_of_mem _ hy))
    rw [List.length_erase_of_mem hx] at this
    have hpos := List.length_pos_of_mem hx
    simp only [List.length_cons]
    omega
def key (c : Cf) : Nat × Nat := (c.f0.toNat, c.f1.toNat)
def skey (i j : Nat) (c : Cf) : Nat × Nat := (min (sw i j c.f0.toNat) (sw i j c.f1.toNat), max (sw i j c.f0.toNat) (sw i j c.f1.toNat))
theorem uAll_length {C : List Cf} {i j n : Nat} (hi : i < n) (hj : j < n) (h : Sorted n C) : (uAll C i j n).length = C.length := by
  have hU := uAll_sorted (i := i) (j := j) h
  have n1 : ((uAll C i j n).map key).Nodup := by
    rw [List.nodup_iff_pairwise_ne, List.pairwise_map]
    refine List.Pairwise.imp_of_mem ?_ hU.lt
    intro c d hc hd hlt e
    have k1 := cOk_iff.1 (hU.ok c hc)
    have k2 := cOk_iff.1 (hU.ok d hd)
    simp only [key, Prod.mk.injEq] at e
    unfold lt47 at hlt
    omega
  have n2 : (C.map (skey i j)).Nodup := by
    rw [List.nodup_iff_pairwise_ne, List.pairwise_map]
    refine List.Pairwise.imp_of_mem ?_ h.lt
    intro c d hc hd hlt e
    have k1 := cOk_iff.1 (h.ok c hc)
    have k2 := cOk_iff.1 (h.ok d hd)
    simp only [skey, Prod.mk.injEq] at e
    unfold lt47 at hlt
    have hcases : (sw i j c.f0.toNat = sw i j d.f0.toNat ∧ sw i j c.f1.toNat = sw i j d.f1.toNat) ∨ (sw i j c.f0.toNat = sw i j d.f1.toNat ∧ sw i j c.f1.toNat = sw i j d.f0.toNat) := by omega
    rcases hcases with ⟨e1, e2⟩ | ⟨e1, e2⟩
    · have := sw_inj e1; have := sw_inj e2; omega
    · have := sw_inj e1; have := sw_inj e2; omega
  have s1 : ∀ x ∈ (uAll C i j n).map key, x ∈ C.map (skey i j) := by
    intro x hx
    obtain ⟨c, hc, rfl⟩ := List.mem_map.1 hx
    obtain ⟨a, b, hab, hb, hm⟩ := uAll_mem.1 hc
    obtain ⟨k1, k2, k3, k4⟩ := uRow_mem hm
    obtain ⟨d, hd, hk⟩ := (iM_some h _ _).1 (by rw [k3]; rfl)
    refine List.mem_map.2 ⟨d, hd, ?_⟩
    simp only [key, skey, k1, k2, Int.toNat_natCast, Prod.mk.injEq]
    rcases hk with ⟨e1, e2⟩ | ⟨e1, e2⟩
    · rw [e1, e2, Int.toNat_natCast, Int.toNat_natCast, sw_sw, sw_sw]; omega
    · rw [e1, e2, Int.toNat_natCast, Int.toNat_natCast, sw_sw, sw_sw]; omega
  have s2 : ∀ x ∈ C.map (skey i j), x ∈ (uAll C i j n).map key := by
    intro x hx
    obtain ⟨c, hc, rfl⟩ := List.mem_map.1 hx
    have k1 := cOk_iff.1 (h.ok c hc)
    obtain ⟨p, hp⟩ := Int.eq_ofNat_of_zero_le k1.1
    obtain ⟨q, hq⟩ := Int.eq_ofNat_of_zero_le (show 0 ≤ c.f1 by omega)
    have hpn : sw i j p < n := sw_lt hi hj (by omega)
    have hqn : sw i j q < n := sw_lt hi hj (by omega)
    have hne : sw i j p ≠ sw i j q := fun e => by have := sw_inj e; omega
    simp only [skey, hp, hq, Int.toNat_natCast]
    rcases Nat.lt_or_gt_of_ne hne with hlt | hlt
    · have hs : (iM C (sw i j (sw i j p) : Nat) (sw i j (sw i j q) : Nat)).isSome = true := by
        rw [sw_sw, sw_sw]; exact (iM_some h _ _).2 ⟨c, hc, .inl ⟨hp, hq⟩⟩
      obtain ⟨v, hv⟩ := Option.isSome_iff_exists.1 hs
      refine List.mem_map.2 ⟨_, uAll_has hlt hqn hv, ?_⟩
      simp only [key, Int.toNat_natCast, Prod.mk.injEq]
      omega
    · have hs : (iM C (sw i j (sw i j q) : Nat) (sw i j (sw i j p) : Nat)).isSome = true := by
        rw [sw_sw, sw_sw]; exact (iM_some h _ _).2 ⟨c, hc, .inr ⟨hp, hq⟩⟩
      obtain ⟨v, hv⟩ := Option.isSome_iff_exists.1 hs
      refine List.mem_map.2 ⟨_, uAll_has hlt hpn hv, ?_⟩
      simp only [key, Int.toNat_natCast, Prod.mk.injEq]
      omega
  have h1 := nodup_le n1 s1
  have h2 := nodup_le n2 s2
  simp only [List.length_map] at h1 h2
  omega
end Go.Am.Tryd
end

section
namespace Go.Am.Tryd
open Go.Proofs Go.Am Go.RowKit Go.Proofs.YtdgempbldhdihaaDoor.P
set_option maxRecDepth 100000
set_option linter.unusedVariables false

/-! ### Masks -/
abbrev B6 := BitVec (IntKind.bits IntKind.u64)
def tmV (V : B6) (i j : Nat) : B6 := (((V &&& ~~~((1 : B6) <<< i)) &&& ~~~((1 : B6) <<< j)) ||| (((V >>> i) &&& (1 : B6)) <<< j)) ||| (((V >>> j) &&& (1 : B6)) <<< i)
def tm (m i j : Nat) : Nat := (tmV (BitVec.ofNat (IntKind.bits IntKind.u64) m) i j).toNat
theorem wrap_bv (v : B6) : IntKind.wrap IntKind.u64 ((v.toNat : Nat) : Int) = ((v.toNat : Nat) : Int) := by
  have : v.toNat < 18446744073709551616 := v.isLt
  rw [IntKind.wrap_u64]; omega
theorem ofInt_bv (v : B6) : BitVec.ofInt (IntKind.bits IntKind.u64) ((v.toNat : Nat) : Int) = v := by
  rw [BitVec.ofInt_natCast, BitVec.ofNat_toNat]
  simp
theorem shl_bv (v : B6) (i : Nat) (hi : i < 64) : Am.shl IntKind.u64 ((v.toNat : Nat) : Int) (i : Int) = (((v <<< i).toNat : Nat) : Int) := by
  unfold Am.shl
  have hm : min (i : Int).toNat IntKind.u64.bits = i := by
    have : IntKind.u64.bits = 64 := rfl
    omega
  rw [hm, IntKind.wrap_u64, BitVec.toNat_shiftLeft, Nat.shiftLeft_eq]
  have : ((v.toNat : Int) * 2 ^ i) = ((v.toNat * 2 ^ i : Nat) : Int) := by simp
  rw [this]
  show _ = ((v.toNat * 2 ^ i % 18446744073709551616 : Nat) : Int)
  omega
theorem shr_bv (v : B6) (i : Nat) (hi : i < 64) : Am.shr IntKind.u64 ((v.toNat : Nat) : Int) (i : Int) = (((v >>> i).toNat : Nat) : Int) := by
  unfold Am.shr
  have hm : min (i : Int).toNat IntKind.u64.bits = i := by
    have : IntKind.u64.bits = 64 := rfl
    omega
  rw [hm, Int.fdiv_eq_ediv_of_nonneg _ (Int.le_of_lt (Int.pow_pos (show (0 : Int) < 2 by decide))), BitVec.toNat_ushiftRight, Nat.shiftRight_eq_div_pow]
  simp
theorem mask_ok (K : Nat) (m i j : Nat) (hm : m < 18446744073709551616) (hi : i < 64) (hj : j < 64) : junctionlaw6_turnedMask K (m : Int) (i : Int) (j : Int) = some (((tm m i j : Nat) : Int), ()) := by
  have hV : (m : Int) = (((BitVec.ofNat (IntKind.bits IntKind.u64) m).toNat : Nat) : Int) := by rw [BitVec.toNat_ofNat, show 2 ^ IntKind.bits IntKind.u64 = 18446744073709551616 from rfl, Nat.mod_eq_of_lt hm]
  unfold junctionlaw6_turnedMask tm
  rw [if_neg (by omega), if_neg (by omega), if_neg (by omega), if_neg (by omega), if_neg (by omega), if_neg (by omega), hV]
  generalize BitVec.ofNat (IntKind.bits IntKind.u64) m = V
  rw [show (1 : Int) = ((((1 : B6)).toNat : Nat) : Int) from rfl, shl_bv _ i hi, shl_bv _ j hj, shr_bv _ i hi, shr_bv _ j hj]
  simp only [ofInt_bv, wrap_bv]
  rw [shl_bv _ i hi, shl_bv _ j hj]
  simp only [ofInt_bv, wrap_bv]
  rfl
theorem tm_lt (m i j : Nat) : tm m i j < 18446744073709551616 := (tmV (BitVec.ofNat (IntKind.bits IntKind.u64) m) i j).isLt
theorem tm_bit (m i j g : Nat) (hm : m < 18446744073709551616) (hi : i < 64) (hj : j < 64) (hg : g < 64) : (tm m i j).testBit g = m.testBit (sw i j g) := by
  have e : ∀ t, (BitVec.ofNat 64 m).getLsbD t = m.testBit t := fun t => by
    rw [BitVec.getLsbD_ofNat]
    by_cases ht : t < 64
    · simp [ht]
    · have : m.testBit t = false := Nat.testBit_lt_two_pow (Nat.lt_of_lt_of_le (show m < 2 ^ 64 from hm) (Nat.pow_le_pow_right (show 0 < 2 by decide) (by omega : 64 ≤ t)))
      simp [ht, this]
  change (((((BitVec.ofNat 64 m &&& ~~~(1#64 <<< i)) &&& ~~~(1#64 <<< j)) ||| (((BitVec.ofNat 64 m >>> i) &&& 1#64) <<< j)) ||| (((BitVec.ofNat 64 m >>> j) &&& 1#64) <<< i) : BitVec 64)).getLsbD g = _
  have one : ∀ t, (1#64).getLsbD t = decide (t = 0) := fun t => by
    cases t with
    | zero => rfl
    | succ t => simp [BitVec.getLsbD_one]
  simp only [BitVec.getLsbD_or, BitVec.getLsbD_and, BitVec.getLsbD_not, BitVec.getLsbD_shiftLeft, BitVec.getLsbD_ushiftRight, one, e, hg, decide_true, Bool.true_and]
  unfold sw
  by_cases h1 : g = i
  · subst h1
    by_cases h2 : g = j
    · subst h2; simp
    · rw [if_pos rfl]
      by_cases h3 : g < j
      · simp [h3]
      · have : ¬ g - j = 0 := by omega
        simp [h3, this]
  · rw [if_neg h1]
    by_cases h2 : g = j
    · subst h2
      rw [if_pos rfl]
      by_cases h3 : g < i
      · simp [h3]
      · have : ¬ g - i = 0 := by omega
        simp [h3, this]
    · rw [if_neg h2]
      have a1 : (decide (g < i) || !decide (g - i = 0)) = true := by
        by_cases h : g < i
        · simp [h]
        · have : ¬ g - i = 0 := by omega
          simp [this]
      have a2 : (decide (g < j) || !decide (g - j = 0)) = true := by
        by_cases h : g < j
        · simp [h]
        · have : ¬ g - j = 0 := by omega
          simp [this]
      revert a1 a2
      cases decide (g < i) <;> cases decide (g - i = 0) <;> cases decide (g < j) <;> cases decide (g - j = 0) <;> simp

/-! ### What is greatest -/
theorem IsMaxB.uniq {n : Nat} {h : Nat → Int} {m : Nat} {c r r' : Int} (a : IsMaxB n h m c r) (b : IsMaxB n h m c r') : r = r' := by
  obtain ⟨a1, a2, a3⟩ := a
  obtain ⟨b1, b2, b3⟩ := b
  have x1 : r ≤ r' := by
    rcases a3 with rfl | ⟨i, hi, hb, rfl⟩
    · exact b1
    · exact b2 i hi hb
  have x2 : r' ≤ r := by
    rcases b3 with rfl | ⟨i, hi, hb, rfl⟩
    · exact a1
    · exact a2 i hi hb
  omega
theorem maxB_turn {n i j : Nat} (hi : i < n) (hj : j < n) {h h' : Nat → Int} {m m' : Nat} (c : Int) (hh : ∀ g, g < n → h' g = h (sw i j g)) (hm : ∀ g, g < n → m'.testBit g = m.testBit (sw i j g)) : maxB n h' m' c = maxB n h m c := by
  refine IsMaxB.uniq (maxB_is h' m' c n) ?_
  obtain ⟨a1, a2, a3⟩ := maxB_is h m c n
  refine ⟨a1, fun g hg hb => ?_, ?_⟩
  · rw [hh g hg]
    exact a2 _ (sw_lt hi hj hg) (by rw [← hm g hg]; exact hb)
  · rcases a3 with a3 | ⟨g, hg, hb, e⟩
    · exact .inl a3
    · have hs := sw_lt hi hj hg
      exact .inr ⟨sw i j g, hs, by rw [hm _ hs, sw_sw]; exact hb, by rw [hh _ hs, sw_sw]; exact e⟩
theorem IsWait.uniq {l0 : List PS42} {f : Int → Int → Option Int} {o g s s' : Int} (a : IsWait l0 f o g s) (b : IsWait l0 f o g s') : s = s' := by
  obtain ⟨a1, a2, a3⟩ := a
  obtain ⟨b1, b2, b3⟩ := b
  have x1 : s ≤ s' := by
    rcases a3 with rfl | ⟨p, q, w1, w2, h⟩
    · exact b1
    · exact b2 p q _ w1 w2 h
  have x2 : s' ≤ s := by
    rcases b3 with rfl | ⟨p, q, w1, w2, h⟩
    · exact a1
    · exact a2 p q _ w1 w2 h
  omega
end Go.Am.Tryd
end

section
namespace Go.Am.Tryd
open Go.Proofs Go.Am Go.RowKit Go.Proofs.YtdgempbldhdihaaDoor.P
set_option maxRecDepth 100000
set_option linter.unusedVariables false

abbrev Gp := Am.Tryd.S42
def swG (G : List Gp) (i j : Nat) : List Gp := (G.set i (G.getD j g0)).set j (G.getD i g0)
theorem swG_len (G : List Gp) (i j : Nat) : (swG G i j).length = G.length := by unfold swG; simp
theorem swG_at {G : List Gp} {i j g : Nat} (hi : i < G.length) (hj : j < G.length) (hg : g < G.length) : (swG G i j).getD g g0 = G.getD (sw i j g) g0 := by
  unfold swG sw
  simp only [List.getD_eq_getElem?_getD, List.getElem?_set]
  by_cases h1 : g = i
  · subst h1
    by_cases h2 : g = j
    · subst h2; simp [hg]
    · rw [if_neg (fun e => h2 e.symm)]
      simp [hi, hj]
  · rw [if_neg h1]
    by_cases h2 : g = j
    · subst h2
      simp [hi, hg]
    · rw [if_neg (fun e => h2 e.symm), if_neg (fun e => h1 e.symm), if_neg h2]
theorem rd_at {G : List Gp} {g : Nat} (hg : g < G.length) : rd_T42 (G.map o42) (g : Int) = o42 (G.getD g g0) := by
  unfold rd_T42
  rw [Int.toNat_natCast, List.getD_eq_getElem?_getD, List.getD_eq_getElem?_getD, List.getElem?_map, List.getElem?_eq_getElem hg]
  rfl
theorem hasB_bit (m : Nat) (hm : m < 18446744073709551616) {g : Nat} (hg : g < 64) : hasB (m : Int) (g : Int) = m.testBit g := hasB_nat m g hm hg

structure Tn (G : List Gp) (C : List Cf) (i j : Nat) : Prop where
  len : G.length ≤ 64
  all : G.all gOk = true
  srt : Sorted G.length C
  hi : i < G.length
  hj : j < G.length
  hC : C.length ≤ 140737488351232
theorem tn_of {G : List Gp} {C : List Cf} {i j : Nat} (h : gridB G C = true) (hi : i < G.length) (hj : j < G.length) (hC : C.length ≤ 140737488351232) : Tn G C i j := by
  unfold gridB at h
  simp only [Bool.and_eq_true, decide_eq_true_eq] at h
  exact ⟨h.1, h.2.1, (chain_sorted h.2.2).1, hi, hj, hC⟩
theorem sorted_grid {G : List Gp} {C : List Cf} (h1 : G.length ≤ 64) (h2 : G.all gOk = true) (h3 : Sorted G.length C) : gridB G C = true := by
  unfold gridB
  rw [h2, sorted_chain h3 (fun c hc => by have := cOk_iff.1 (h3.ok c hc); omega)]
  simp [h1]
section
variable {G : List Gp} {C : List Cf} {i j : Nat}
theorem Tn.all' (h : Tn G C i j) : (swG G i j).all gOk = true := by
  rw [List.all_eq_true]
  intro x hx
  obtain ⟨g, hg, rfl⟩ := List.getElem_of_mem hx
  have hg' : g < G.length := by rwa [swG_len] at hg
  have e : (swG G i j).getD g g0 = (swG G i j)[g] := by rw [List.getD_eq_getElem?_getD, List.getElem?_eq_getElem hg]; rfl
  rw [← e, swG_at h.hi h.hj hg']
  exact List.all_eq_true.1 h.all _ (getD_mem (sw_lt h.hi h.hj hg') g0)
theorem Tn.grid (h : Tn G C i j) : gridB G C = true := sorted_grid h.len h.all h.srt
theorem Tn.grid' (h : Tn G C i j) : gridB (swG G i j) (uAll C i j G.length) = true := sorted_grid (by rw [swG_len]; exact h.len) h.all' (by rw [swG_len]; exact uAll_sorted h.srt)
theorem Tn.len' (h : Tn G C i j) : (uAll C i j G.length).length = C.length := uAll_length h.hi h.hj h.srt
theorem Tn.clash (h : Tn G C i j) {m m' : Nat} (hb : ∀ g, g < 64 → m'.testBit g = m.testBit (sw i j g)) : (uAll C i j G.length).any (clashB (swG G i j).length m') = C.any (clashB G.length m) := by
  have hl := h.len
  have one : ∀ (n : Nat) (q : Nat) (c : Cf) (a b : Nat), c.f0 = a → c.f1 = b → a < n → b < n → n ≤ 64 → clashB n q c = (q.testBit a && q.testBit b) := by
    intro n q c a b h1 h2 h3 h4 h5
    unfold clashB hasM
    rw [h1, h2]
    have e1 : decide ((a : Int) < (n : Int)) = true := decide_eq_true (by omega)
    have e2 : decide ((b : Int) < (n : Int)) = true := decide_eq_true (by omega)
    have e3 : decide ((0 : Int) ≤ (a : Int)) = true := decide_eq_true (by omega)
    have e4 : decide ((0 : Int) ≤ (b : Int)) = true := decide_eq_true (by omega)
    have e5 : decide ((a : Int) < 64) = true := decide_eq_true (by omega)
    have e6 : decide ((b : Int) < 64) = true := decide_eq_true (by omega)
    rw [e1, e2, e3, e4, e5, e6]
    simp
  rw [swG_len, Bool.eq_iff_iff, List.any_eq_true, List.any_eq_true]
  constructor
  · rintro ⟨c, hc, hk⟩
    obtain ⟨a, b, hab, hbn, hm⟩ := uAll_mem.1 hc
    obtain ⟨k1, k2, k3, k4⟩ := uRow_mem hm
    rw [one _ _ c a b k1 k2 (by omega) hbn hl] at hk
    obtain ⟨d, hd, hh⟩ := (iM_some h.srt _ _).1 (by rw [k3]; rfl)
    refine ⟨d, hd, ?_⟩
    have sa := sw_lt h.hi h.hj (show a < G.length by omega)
    have sb := sw_lt h.hi h.hj hbn
    simp only [Bool.and_eq_true] at hk
    rw [hb a (by omega), hb b (by omega)] at hk
    rcases hh with ⟨e1, e2⟩ | ⟨e1, e2⟩
    · rw [one _ _ d _ _ e1 e2 sa sb hl, hk.1, hk.2]; rfl
    · rw [one _ _ d _ _ e1 e2 sb sa hl, hk.1, hk.2]; rfl
  · rintro ⟨c, hc, hk⟩
    have k := cOk_iff.1 (h.srt.ok c hc)
    obtain ⟨p, hp⟩ := Int.eq_ofNat_of_zero_le k.1
    obtain ⟨q, hq⟩ := Int.eq_ofNat_of_zero_le (show 0 ≤ c.f1 by omega)
    rw [one _ _ c p q hp hq (by omega) (by omega) hl] at hk
    simp only [Bool.and_eq_true] at hk
    have sp := sw_lt h.hi h.hj (show p < G.length by omega)
    have sq := sw_lt h.hi h.hj (show q < G.length by omega)
    have hU := uAll_sorted (i := i) (j := j) h.srt
    have hs : (iM (uAll C i j G.length) (sw i j p : Nat) (sw i j q : Nat)).isSome = true := by
      rw [uAll_iM h.srt sp sq, sw_sw, sw_sw]
      exact (iM_some h.srt _ _).2 ⟨c, hc, .inl ⟨hp, hq⟩⟩
    obtain ⟨d, hd, hh⟩ := (iM_some hU _ _).1 hs
    refine ⟨d, hd, ?_⟩
    rcases hh with ⟨e1, e2⟩ | ⟨e1, e2⟩
    · rw [one _ _ d _ _ e1 e2 sp sq hl, hb _ (by omega), hb _ (by omega), sw_sw, sw_sw, hk.1, hk.2]; rfl
    · rw [one _ _ d _ _ e1 e2 sq sp hl, hb _ (by omega), hb _ (by omega), sw_sw, sw_sw, hk.1, hk.2]; rfl
theorem Tn.gr (h : Tn G C i j) : Gr (G.map o42) (C.map o47) := gr_of (okB_of h.grid h.hC)
theorem Tn.gr' (h : Tn G C i j) : Gr ((swG G i j).map o42) ((uAll C i j G.length).map o47) := gr_of (okB_of h.grid' (by rw [h.len']; exact h.hC))
theorem wf_nat {a : Nat} (h : a < 64) : Pr.wf (a : Int) := wf_small (by omega) (by omega)
theorem Tn.wv (h : Tn G C i j) {f f' : Nat} (hf : f < 18446744073709551616) (hf' : f' < 18446744073709551616) (hb : ∀ g, g < 64 → f'.testBit g = f.testBit (sw i j g)) {a g : Nat} (ha : a < G.length) (hg : g < G.length) :
    wval ((swG G i j).map o42) (Pr.interF ((uAll C i j G.length).map o47)) f' g a g = wval (G.map o42) (Pr.interF (C.map o47)) f (sw i j g : Nat) (sw i j a : Nat) (sw i j g : Nat) := by
  have hl := h.len
  have sa := sw_lt h.hi h.hj ha
  have ea : rd_T42 ((swG G i j).map o42) (a : Int) = rd_T42 (G.map o42) ((sw i j a : Nat) : Int) := by
    rw [rd_at (by rw [swG_len]; exact ha), rd_at sa, swG_at h.hi h.hj ha]
  unfold wval
  rw [iM_interF, iM_interF, uAll_iM h.srt ha hg, hasB_bit f' hf' (by omega), hasB_bit f hf (by omega), hb a (by omega), ea]
  cases iM C ((sw i j a : Nat) : Int) ((sw i j g : Nat) : Int) with
  | none => rfl
  | some v => simp
theorem Tn.wt (h : Tn G C i j) {f f' : Nat} (hf : f < 18446744073709551616) (hf' : f' < 18446744073709551616) (hb : ∀ g, g < 64 → f'.testBit g = f.testBit (sw i j g)) {g : Nat} (hg : g < G.length) :
    wtF ((swG G i j).map o42) ((uAll C i j G.length).map o47) f' g = wtF (G.map o42) (C.map o47) f (sw i j g) := by
  have hl := h.len
  have sg := sw_lt h.hi h.hj hg
  have w1 := (wtF_is h.gr' f' g (by rw [List.length_map, swG_len]; exact hg)).1
  have w2 := (wtF_is h.gr f (sw i j g) (by rw [List.length_map]; exact sg)).1
  have dom : ∀ {q : Nat} {x y v : Int}, wval (G.map o42) (Pr.interF (C.map o47)) f q x y = some v → y = q ∧ ∃ a : Nat, a < G.length ∧ x = a := by
    intro q x y v hv
    obtain ⟨e1, w, e2⟩ := wval_pair hv
    have r := (h.gr.inter e2).1
    rw [List.length_map] at r
    exact ⟨e1, x.toNat, by omega, by omega⟩
  have dom' : ∀ {q : Nat} {x y v : Int}, wval ((swG G i j).map o42) (Pr.interF ((uAll C i j G.length).map o47)) f' q x y = some v → y = q ∧ ∃ a : Nat, a < G.length ∧ x = a := by
    intro q x y v hv
    obtain ⟨e1, w, e2⟩ := wval_pair hv
    have r := (h.gr'.inter e2).1
    rw [List.length_map, swG_len] at r
    exact ⟨e1, x.toNat, by omega, by omega⟩
  refine IsWait.uniq w1 ?_
  obtain ⟨a1, a2, a3⟩ := w2
  refine ⟨a1, fun x y v wx wy hv => ?_, ?_⟩
  · obtain ⟨rfl, a, ha, rfl⟩ := dom' hv
    rw [h.wv hf hf' hb ha hg] at hv
    have sa := sw_lt h.hi h.hj ha
    exact a2 _ _ v (wf_nat (by omega)) (wf_nat (by omega)) hv
  · rcases a3 with a3 | ⟨x, y, wx, wy, hv⟩
    · exact .inl a3
    · obtain ⟨rfl, a, ha, rfl⟩ := dom hv
      have sa := sw_lt h.hi h.hj ha
      refine .inr ⟨(sw i j a : Nat), g, wf_nat (by omega), wf_nat (by omega), ?_⟩
      rw [h.wv hf hf' hb sa hg, sw_sw]
      exact hv
theorem lost_turn {x y a b i j : Nat} (h1 : ∀ g, g < 64 → x.testBit g = a.testBit (sw i j g)) (h2 : ∀ g, g < 64 → y.testBit g = b.testBit (sw i j g)) (hi : i < 64) (hj : j < 64) : ∀ g, g < 64 → (lostF x y).testBit g = (lostF a b).testBit (sw i j g) := fun g hg => by
  rw [lostF_bit x y g hg, lostF_bit a b _ (sw_lt hi hj hg), h1 g hg, h2 g hg]
theorem Tn.span (h : Tn G C i j) {a b x y f f' : Nat} (hx : ∀ g, g < 64 → x.testBit g = a.testBit (sw i j g)) (hy : ∀ g, g < 64 → y.testBit g = b.testBit (sw i j g)) (hf : f < 18446744073709551616) (hf' : f' < 18446744073709551616) (hb : ∀ g, g < 64 → f'.testBit g = f.testBit (sw i j g)) :
    spanM (swG G i j) (uAll C i j G.length) x y f' = spanM G C a b f := by
  have hl := h.len
  have hi := h.hi
  have hj := h.hj
  have l1 := lost_turn hx hy (show i < 64 by omega) (show j < 64 by omega)
  have l2 := lost_turn hy hx (show i < 64 by omega) (show j < 64 by omega)
  unfold spanM throughF
  rw [List.length_map, List.length_map, swG_len]
  have e1 := maxB_turn hi hj (h := fun g => 1 + (rd_T42 (G.map o42) g).f3) (h' := fun g => 1 + (rd_T42 ((swG G i j).map o42) g).f3) (m := lostF a b) (m' := lostF x y) 0 (fun g hg => by
    rw [rd_at (by rw [swG_len]; exact hg), rd_at (sw_lt hi hj hg), swG_at hi hj hg]) (fun g hg => l1 g (by omega))
  rw [e1]
  exact maxB_turn hi hj _ (fun g hg => by
    rw [h.wt hf hf' hb hg, rd_at (by rw [swG_len]; exact hg), rd_at (sw_lt hi hj hg), swG_at hi hj hg]) (fun g hg => l2 g (by omega))
theorem Tn.hold (h : Tn G C i j) {a b x y : Nat} (hx : ∀ g, g < 64 → x.testBit g = a.testBit (sw i j g)) (hy : ∀ g, g < 64 → y.testBit g = b.testBit (sw i j g)) : holdM (swG G i j) x y = holdM G a b := by
  have hl := h.len
  have hi := h.hi
  have hj := h.hj
  have l1 := lost_turn hx hy (show i < 64 by omega) (show j < 64 by omega)
  unfold holdM
  rw [swG_len]
  exact maxB_turn hi hj _ (fun g hg => by unfold minM; rw [swG_at hi hj hg]) (fun g hg => l1 g (by omega))
theorem all_bits (g : Nat) (hg : g < 64) : (18446744073709551615 : Nat).testBit g = true := by
  have : (18446744073709551615 : Nat) = 2 ^ 64 - 1 := by decide
  rw [this, Nat.testBit_two_pow_sub_one]
  simpa using hg

/-! ### The law's loops -/
theorem Tn.inter (h : Tn G C i j) (K : Nat) {p q : Nat} (hp : p < G.length) (hq : q < G.length) : safety_Inter K G C (p : Int) (q : Int) = some (((iM C p q).getD 0, (iM C p q).isSome, ()), ()) := by
  have hl := h.len
  have hk : Pr.okL (C.map o47) = true := by
    unfold Pr.okL
    simp only [Bool.and_eq_true, decide_eq_true_eq, List.length_map, List.all_map, List.all_eq_true, Function.comp]
    refine ⟨h.hC, fun c hc => ?_⟩
    have := cOk_iff.1 (h.srt.ok c hc)
    unfold Pr.okCb
    simp only [Bool.and_eq_true, o47]
    exact ⟨wf_small (by omega) (by omega), wf_small (by omega) (by omega), wf_small (by omega) (by omega), wf_small (by omega) (by omega)⟩
  have wp : (Lit.int .i64 (p : Int)).wf = true := wf_nat (by omega)
  have wq : (Lit.int .i64 (q : Int)).wf = true := wf_nat (by omega)
  have hc := h.hC
  unfold safety_Inter
  rw [if_pos (by omega)]
  unfold YtdgempbldhdihaaDoor.P.safety_Inter.f
  rw [hk, wp, wq, if_pos (by rfl), iM_interF]
theorem Tn.pair (h : Tn G C i j) (K : Nat) {a b : Nat} (ha : a < G.length) (hb : b < G.length) (b1 : List Gp) (b2 : List Cf) (hr : b2.length ≤ 1000000) :
    junctionlaw6_SafetyTurns.l1 K (i : Int) (j : Int) G C (a : Int) (b : Int) b1 b2 = some (((), ()), ((), (), ()), b1, b2 ++ uRow C i j a b, ()) := by
  unfold junctionlaw6_SafetyTurns.l1 uRow
  have sa := sw_lt h.hi h.hj ha
  have sb := sw_lt h.hi h.hj hb
  simp only [turned_ok, Option.bind_some]
  rw [h.inter K sa sb, Option.bind_some, h.inter K sb sa, Option.bind_some]
  cases iM C ((sw i j a : Nat) : Int) ((sw i j b : Nat) : Int) with
  | none => simp
  | some v =>
    simp only [Option.isSome_some, if_true, Option.getD_some]
    rw [room_pos (by unfold capBytes; simp; omega)]
theorem uRow_len (C : List Cf) (i j a b : Nat) : (uRow C i j a b).length ≤ 1 := by
  unfold uRow
  split <;> simp
theorem Tn.line (h : Tn G C i j) (K : Nat) {a : Nat} (ha : a < G.length) (b1 : List Gp) : ∀ (m x b : Nat) (b2 : List Cf), b + m = G.length → b2.length + m ≤ 900000 →
    junctionlaw6_SafetyTurns.l2 K (m + x + 1) (i : Int) (j : Int) G C (G.length : Int) (a : Int) (b : Int) b1 b2 = some (((), ()), ((), (), ()), b1, b2 ++ (List.range' b m).flatMap (uRow C i j a), ())
  | 0, x, b, b2, hb, hr => by
    rw [junctionlaw6_SafetyTurns.l2, if_neg (by simp; omega)]
    simp
  | m + 1, x, b, b2, hb, hr => by
    have hl := h.len
    have hu := uRow_len C i j a b
    rw [show m + 1 + x + 1 = m + x + 1 + 1 by omega, junctionlaw6_SafetyTurns.l2, if_pos (by simp; omega), h.pair K ha (by omega) b1 b2 (by omega), Option.bind_some, IntWalk.i64_in _ (by omega), show ((b : Int) + 1) = ((b + 1 : Nat) : Int) by omega]
    simp only
    rw [h.line K ha b1 m x (b + 1) _ (by omega) (by simp; omega), List.range'_succ, List.flatMap_cons, List.append_assoc]
theorem uLine_len (C : List Cf) (i j n a : Nat) : (uLine C i j n a).length ≤ n := by
  unfold uLine
  have : ∀ l : List Nat, (l.flatMap (uRow C i j a)).length ≤ l.length := by
    intro l
    induction l with
    | nil => simp
    | cons b l ih =>
      have := uRow_len C i j a b
      simp only [List.flatMap_cons, List.length_append, List.length_cons]
      omega
  have := this (List.range' (a + 1) (n - (a + 1)))
  rw [List.length_range'] at this
  omega
theorem Tn.lines (h : Tn G C i j) (K : Nat) (hK : 100 ≤ K) (b1 : List Gp) : ∀ (m x a : Nat) (b2 : List Cf), a + m = G.length → b2.length + m * 64 ≤ 800000 →
    junctionlaw6_SafetyTurns.l3 K (m + x + 1) (i : Int) (j : Int) G C (G.length : Int) (a : Int) b1 b2 = some (((), ()), ((), (), ()), b1, b2 ++ (List.range' a m).flatMap (uLine C i j G.length), ())
  | 0, x, a, b2, ha, hr => by
    rw [junctionlaw6_SafetyTurns.l3, if_neg (by simp; omega)]
    simp
  | m + 1, x, a, b2, ha, hr => by
    have hl := h.len
    have hu := uLine_len C i j G.length a
    have hline := h.line K (show a < G.length by omega) b1 (G.length - (a + 1)) (K - (G.length - (a + 1)) - 1) (a + 1) b2 (by omega) (by omega)
    rw [show G.length - (a + 1) + (K - (G.length - (a + 1)) - 1) + 1 = K by omega] at hline
    rw [show m + 1 + x + 1 = m + x + 1 + 1 by omega, junctionlaw6_SafetyTurns.l3, if_pos (by simp; omega), IntWalk.i64_in _ (by omega), show ((a : Int) + 1) = ((a + 1 : Nat) : Int) by omega, hline, Option.bind_some]
    change junctionlaw6_SafetyTurns.l3 K (m + x + 1) (i : Int) (j : Int) G C (G.length : Int) ((a + 1 : Nat) : Int) b1 (b2 ++ uLine C i j G.length a) = _
    rw [h.lines K hK b1 m x (a + 1) _ (by omega) (by simp; omega), List.range'_succ, List.flatMap_cons, List.append_assoc]
end
theorem copied_ok (K : Nat) (G : List Gp) (C : List Cf) (hG : G.length * 48 ≤ 140737488351232) (hC : C.length * 32 ≤ 140737488351232) : junctionlaw6_copied K G C = some (((), (), ()), G, C, ()) := by
  unfold junctionlaw6_copied junctionlaw6_copied.l0
  rw [room_pos (by unfold capBytes; omega), room_pos (by unfold capBytes; omega)]
  rfl
theorem answer_eq {e e' v v' : Int} (he : e' = e) (hv : v' = v) : answer e' v' = answer e v := by rw [he, hv]
theorem turns_law (G : List Gp) (C : List Cf) (i j a b : Int) {pg pc : Prop} (hG : G.length * 48 ≤ 140737488351232 ∧ pg) (hC : C.length * 32 ≤ 140737488351232 ∧ pc) (hi : (Lit.int .i64 i).wf = true) (hj : (Lit.int .i64 j).wf = true) (ha : (Lit.int .u64 a).wf = true) (hb : (Lit.int .u64 b).wf = true) :
    junctionlaw6_SafetyTurns (C.length + 100000) G C i j a b = some (true, ()) := by
  have hG := hG.1
  have hC := hC.1
  have ra : 0 ≤ a ∧ a < 18446744073709551616 := by
    have := (Lit.wf_int_iff .u64 a).1 ha
    simp [IntKind.min, IntKind.max, IntKind.signed, IntKind.bits] at this
    omega
  have rb : 0 ≤ b ∧ b < 18446744073709551616 := by
    have := (Lit.wf_int_iff .u64 b).1 hb
    simp [IntKind.min, IntKind.max, IntKind.signed, IntKind.bits] at this
    omega
  generalize hK : C.length + 100000 = K
  have hK1 : C.length + 100 ≤ K := by omega
  unfold junctionlaw6_SafetyTurns
  have hal := alive_ok (K - 200)
  rw [show K - 200 + 200 = K by omega] at hal
  rw [hal, Option.bind_some, if_neg (by simp)]
  have hl0 : junctionlaw6_SafetyTurns.l0 K i j G C (G.length : Int) = some (if gridB G C = true ∧ 0 ≤ i ∧ 0 ≤ j ∧ i < (G.length : Int) ∧ j < (G.length : Int) then .inr ((), ()) else .inl ((true, ()), ())) := by
    unfold junctionlaw6_SafetyTurns.l0
    rw [rgrid_ok K G C (by omega) hK1, Option.bind_some]
    cases gridB G C
    · simp
    · by_cases h1 : i < 0
      · simp [h1, show ¬ 0 ≤ i by omega]
      · by_cases h2 : j < 0
        · simp [h1, h2, show ¬ 0 ≤ j by omega]
        · by_cases h3 : i ≥ (G.length : Int)
          · simp [h1, h2, h3, show ¬ i < (G.length : Int) by omega]
          · by_cases h4 : j ≥ (G.length : Int)
            · simp [h1, h2, h3, h4, show ¬ j < (G.length : Int) by omega]
            · simp [h1, h2, h3, h4, show 0 ≤ i by omega, show 0 ≤ j by omega, show i < (G.length : Int) by omega, show j < (G.length : Int) by omega]
  rw [hl0, Option.bind_some]
  split
  case isFalse => rfl
  rename_i hc
  obtain ⟨hg, c1, c2, c3, c4⟩ := hc
  obtain ⟨i, rfl⟩ := Int.eq_ofNat_of_zero_le c1
  obtain ⟨j, rfl⟩ := Int.eq_ofNat_of_zero_le c2
  obtain ⟨a, rfl⟩ := Int.eq_ofNat_of_zero_le ra.1
  obtain ⟨b, rfl⟩ := Int.eq_ofNat_of_zero_le rb.1
  have h : Tn G C i j := tn_of hg (by omega) (by omega) (by omega)
  have hl := h.len
  have hi' := h.hi
  have hj' := h.hj
  simp only [onSum]
  rw [copied_ok K G C hG hC, Option.bind_some]
  simp only [Int.toNat_natCast]
  rw [if_pos (by omega), if_pos (by omega), if_pos (by omega), if_pos (by rw [List.length_set]; omega)]
  have hlines := h.lines K (by omega) (swG G i j) G.length (K - G.length - 1) 0 [] (by omega) (by simp; omega)
  rw [show G.length + (K - G.length - 1) + 1 = K by omega, List.nil_append, show ((0 : Nat) : Int) = 0 from rfl] at hlines
  change Option.bind (junctionlaw6_SafetyTurns.l3 K K (i : Int) (j : Int) G C (G.length : Int) 0 (swG G i j) []) _ = _
  rw [hlines, Option.bind_some]
  change (if (((uAll C i j G.length).length : Int) != (C.length : Int)) = true then _ else _) = _
  rw [h.len', if_neg (by simp)]
  have hbx := fun g hg => tm_bit a i j g (by omega) (by omega) (by omega) hg
  have hby := fun g hg => tm_bit b i j g (by omega) (by omega) (by omega) hg
  rw [mask_ok K a i j (by omega) (by omega) (by omega), Option.bind_some, mask_ok K b i j (by omega) (by omega) (by omega), Option.bind_some]
  have hr : refusedM (swG G i j) (uAll C i j G.length) (tm a i j) (tm b i j) = refusedM G C a b := by
    unfold refusedM
    rw [h.grid, h.grid', h.clash hbx, h.clash hby]
  have l1 := lost_turn hbx hby (show i < 64 by omega) (show j < 64 by omega)
  have hCU : (uAll C i j G.length).length ≤ 140737488351232 := by rw [h.len']; exact h.hC
  have hKU : (uAll C i j G.length).length + 100 ≤ K := by rw [h.len']; exact hK1
  have q1 := span_ok K G C a b (by omega) (by omega) h.hC hK1
  have q2 := (span_ok K (swG G i j) (uAll C i j G.length) (tm a i j) (tm b i j) (tm_lt a i j) (tm_lt b i j) hCU hKU).trans (answer_eq hr (h.span hbx hby (lostF_eq a b).2 (lostF_eq (tm a i j) (tm b i j)).2 l1))
  have q3 := longest_ok K G C a b (by omega) (by omega) h.hC hK1
  have q4 := (longest_ok K (swG G i j) (uAll C i j G.length) (tm a i j) (tm b i j) (tm_lt a i j) (tm_lt b i j) hCU hKU).trans (answer_eq hr (h.span hbx hby (f := 18446744073709551615) (f' := 18446744073709551615) (by decide) (by decide) fun g hg => by rw [all_bits g hg, all_bits _ (sw_lt (by omega) (by omega) hg)]))
  have q5 := hold_ok K G C a b h.hC hK1
  have q6 := (hold_ok K (swG G i j) (uAll C i j G.length) (tm a i j) (tm b i j) hCU hKU).trans (answer_eq (e := if gridB G C then 0 else 70) (by rw [h.grid, h.grid']) (h.hold hbx hby))
  unfold answer at q1 q2 q3 q4 q5 q6
  change Option.bind (safety_Span K G C (a : Int) (b : Int)) _ = _
  rw [q1, Option.bind_some]
  change Option.bind (safety_Span K (swG G i j) (uAll C i j G.length) ((tm a i j : Nat) : Int) ((tm b i j : Nat) : Int)) _ = _
  rw [q2, Option.bind_some, q3, Option.bind_some]
  change Option.bind (safety_Longest K (swG G i j) (uAll C i j G.length) ((tm a i j : Nat) : Int) ((tm b i j : Nat) : Int)) _ = _
  rw [q4, Option.bind_some, q5, Option.bind_some]
  change Option.bind (safety_Hold K (swG G i j) (uAll C i j G.length) ((tm a i j : Nat) : Int) ((tm b i j : Nat) : Int)) _ = _
  rw [q6, Option.bind_some]
  simp
end Go.Am.Tryd
end
