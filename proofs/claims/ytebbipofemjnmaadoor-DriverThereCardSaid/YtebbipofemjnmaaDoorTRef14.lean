/- The document's Retrace: total, it answers just the lists whose text it is given, and each list that can be told; so both answer alike. -/
import Derived.Test.YtebbipofemjnmaaDoorTDrvB14
namespace Go.Am.Tryd
open Go.Proofs Go.Am Go.RowKit
set_option maxRecDepth 100000
set_option linter.unusedVariables false

def pos (c : UInt8) (r : List UInt8) : Nat := (cutB r c).1.length
theorem pos_le (c : UInt8) (r : List UInt8) : pos c r ≤ r.length := (cut_len c r).1
theorem pos_nil (c : UInt8) : pos c [] = 0 := rfl
theorem pos_cons (c b : UInt8) (r : List UInt8) : pos c (b :: r) = if b == c then 0 else pos c r + 1 := by
  unfold pos
  conv => lhs; unfold cutB
  split <;> rfl
theorem pos_found {c : UInt8} {X Y : List UInt8} (h : c ∉ X) : pos c (X ++ c :: Y) = X.length := by unfold pos; rw [cut_found h]
theorem pos_ge {c : UInt8} {X Y : List UInt8} (h : c ∉ X) : X.length ≤ pos c (X ++ Y) := by
  induction X with
  | nil => exact Nat.zero_le _
  | cons b X ih =>
    rw [List.cons_append, pos_cons, if_neg (by simp; exact fun e => h (by rw [e]; exact List.mem_cons_self))]
    have := ih fun e => h (List.mem_cons_of_mem _ e)
    simp only [List.length_cons]
    omega
theorem upto_loop (K : Nat) (L : List UInt8) (c : UInt8) (hL : L.length ≤ 1000000000000000) : ∀ (r : List UInt8) (x i : Nat), L.drop i = r → i + r.length = L.length →
    junctionref14_upTo.l1 K (r.length + x + 1) (S L) (i : Int) (c.toNat : Int) = some ((((i + pos c r : Nat) : Int), ()), ())
  | [], x, i, hd, hi => by
    rw [junctionref14_upTo.l1]
    unfold junctionref14_upTo.l0
    rw [S_size, if_neg (by simp at hi ⊢; omega)]
    rfl
  | b :: r, x, i, hd, hi => by
    obtain ⟨hil, hbt⟩ := bt_S L i b r hd
    rw [List.length_cons, show r.length + 1 + x + 1 = r.length + x + 1 + 1 by omega, junctionref14_upTo.l1]
    unfold junctionref14_upTo.l0
    rw [S_size, if_pos (by simp; omega), if_pos (by omega), hbt, pos_cons]
    by_cases hb : b = c
    · subst hb
      rw [if_neg (by simp), if_pos (by simp)]
      rfl
    · have hne : (b.toNat : Int) ≠ (c.toNat : Int) := fun e => hb (UInt8.toNat_inj.1 (by omega))
      rw [if_pos (by simpa using hne), if_neg (by simpa using hb), Option.bind_some]
      simp only [onSum]
      rw [IntWalk.i64_in _ (by omega), show ((i : Int) + 1) = ((i + 1 : Nat) : Int) by omega, upto_loop K L c hL r x (i + 1) (by rw [← List.drop_drop, hd]; rfl) (by simp at hi; omega)]
      rw [show i + 1 + pos c r = i + (pos c r + 1) by omega]
theorem upto_ok (K : Nat) (L : List UInt8) (c : UInt8) (i : Nat) (hL : L.length ≤ 1000000000000000) (hi : i ≤ L.length) (hK : L.length + 1 ≤ K) :
    junctionref14_upTo K (S L) (i : Int) (c.toNat : Int) = some (((i + pos c (L.drop i) : Nat) : Int), ()) := by
  unfold junctionref14_upTo
  have := upto_loop K L c hL (L.drop i) (K - (L.drop i).length - 1) i rfl (by simp; omega)
  rw [show (L.drop i).length + (K - (L.drop i).length - 1) + 1 = K by simp; omega] at this
  rw [this]
  rfl

def digO : List UInt8 → Nat → Option (Nat × Nat)
  | [], n => some (n, 0)
  | b :: r, n => if isDig b then (if 1000000 < 10 * n + (b.toNat - 48) then none else (digO r (10 * n + (b.toNat - 48))).map fun p => (p.1, p.2 + 1)) else some (n, 0)
def digV (r : List UInt8) : Int := match digO r 0 with
  | none => -1
  | some (m, q) => if q = 0 then -1 else m
theorem digits_loop (K : Nat) (L : List UInt8) (hL : L.length ≤ 1000000000000000) : ∀ (r : List UInt8) (x i n : Nat), L.drop i = r → i + r.length = L.length → n ≤ 1000000 →
    (digO r n = none ∧ ∃ k, junctionref14_digits.l1 K (r.length + x + 1) (S L) (n : Int) (i : Int) = some (.inr ((-1, k, ()), ()))) ∨
    (∃ m q : Nat, m ≤ 1000000 ∧ digO r n = some (m, q) ∧ junctionref14_digits.l1 K (r.length + x + 1) (S L) (n : Int) (i : Int) = some (.inl ((((i + q : Nat) : Int), (m : Int), ()), ())))
  | [], x, i, n, hd, hi, hn => by
    refine .inr ⟨n, 0, hn, rfl, ?_⟩
    rw [junctionref14_digits.l1]
    unfold junctionref14_digits.l0
    rw [S_size, if_neg (by simp at hi ⊢; omega)]
    rfl
  | b :: r, x, i, n, hd, hi, hn => by
    obtain ⟨hil, hbt⟩ := bt_S L i b r hd
    have hb := b.toNat_lt
    rw [List.length_cons, show r.length + 1 + x + 1 = r.length + x + 1 + 1 by omega, junctionref14_digits.l1]
    have e1 : junctionref14_digits.l0 K (S L) (i : Int) = some (if isDig b then .inr ((), ()) else .inl ((), ())) := by
      unfold junctionref14_digits.l0 isDig
      rw [S_size, if_pos (by simp; omega), if_pos (by omega), hbt]
      by_cases h1 : 48 ≤ b.toNat
      · rw [if_pos (by simp; omega), if_pos (by omega)]
        by_cases h2 : b.toNat ≤ 57
        · rw [if_pos (by simp; omega)]; simp [h1, h2]
        · rw [if_neg (by simp; omega)]; simp [h2]
      · rw [if_neg (by simp; omega)]; simp [h1]
    rw [e1, Option.bind_some]
    cases hk : isDig b
    · refine .inr ⟨n, 0, hn, ?_, rfl⟩
      rw [digO, if_neg (by rw [hk]; simp)]
    · have hk' := hk
      simp only [isDig, Bool.and_eq_true, decide_eq_true_eq] at hk
      simp only [if_true, onSum]
      rw [S_size, if_pos (by omega), hbt, show ((b.toNat : Int) - 48) = ((b.toNat - 48 : Nat) : Int) by omega, IntWalk.u8_in _ (by omega), IntWalk.i64_in ((b.toNat - 48 : Nat) : Int) (by omega), IntWalk.i64_in (10 * (n : Int)) (by omega), IntWalk.i64_in _ (by omega), IntWalk.i64_in _ (by omega),
        show (10 * (n : Int) + ((b.toNat - 48 : Nat) : Int)) = ((10 * n + (b.toNat - 48) : Nat) : Int) by omega, show ((i : Int) + 1) = ((i + 1 : Nat) : Int) by omega]
      by_cases h9 : 1000000 < 10 * n + (b.toNat - 48)
      · rw [digO, if_pos hk', if_pos h9, if_pos (show decide (((10 * n + (b.toNat - 48) : Nat) : Int) > 1000000) = true by simp; omega)]
        exact .inl ⟨rfl, _, rfl⟩
      · rw [digO, if_pos hk', if_neg h9, if_neg (show ¬ decide (((10 * n + (b.toNat - 48) : Nat) : Int) > 1000000) = true by simp; omega)]
        rcases digits_loop K L hL r x (i + 1) _ (by rw [← List.drop_drop, hd]; rfl) (by simp at hi; omega) (by omega : 10 * n + (b.toNat - 48) ≤ 1000000) with ⟨h1, k, h2⟩ | ⟨m, q, h0, h1, h2⟩
        · exact .inl ⟨by rw [h1]; rfl, k, h2⟩
        · refine .inr ⟨m, q + 1, h0, by rw [h1]; rfl, ?_⟩
          rw [h2, show i + 1 + q = i + (q + 1) by omega]
theorem digits_ok (K : Nat) (L : List UInt8) (i : Nat) (hL : L.length ≤ 1000000000000000) (hi : i ≤ L.length) (hK : L.length + 1 ≤ K) :
    (-1 ≤ digV (L.drop i) ∧ digV (L.drop i) ≤ 1000000) ∧ ∃ k, junctionref14_digits K (S L) (i : Int) = some ((digV (L.drop i), k, ()), ()) := by
  unfold junctionref14_digits
  have := digits_loop K L hL (L.drop i) (K - (L.drop i).length - 1) i 0 rfl (by simp; omega) (by omega)
  rw [show (L.drop i).length + (K - (L.drop i).length - 1) + 1 = K by simp; omega] at this
  rw [show ((0 : Nat) : Int) = 0 from rfl] at this
  rcases this with ⟨h1, k, h2⟩ | ⟨m, q, h0, h1, h2⟩
  · have hv : digV (L.drop i) = -1 := by unfold digV; rw [h1]
    rw [hv, h2]
    exact ⟨by omega, _, rfl⟩
  · have hv : digV (L.drop i) = if q = 0 then -1 else (m : Int) := by unfold digV; rw [h1]
    rw [hv, h2, Option.bind_some]
    simp only [onSum]
    by_cases hq : q = 0
    · rw [if_pos hq]
      refine ⟨by omega, ((i + q : Nat) : Int), ?_⟩
      rw [if_pos (by subst hq; simp)]
    · rw [if_neg hq]
      refine ⟨by omega, ((i + q : Nat) : Int), ?_⟩
      rw [if_neg (by simp; omega)]
theorem val_ge : ∀ (l : List UInt8) (n : Nat), n ≤ val l n
  | [], n => Nat.le_refl _
  | b :: l, n => Nat.le_trans (by omega) (val_ge l (10 * n + (b.toNat - 48)))
theorem digO_app (c : UInt8) (hc : isDig c = false) (Y : List UInt8) : ∀ (l : List UInt8) (n : Nat), l.all isDig = true → val l n ≤ 1000000 → digO (l ++ c :: Y) n = some (val l n, l.length)
  | [], n, _, _ => by simp [digO, hc, val]
  | b :: l, n, hd, hv => by
    simp only [List.all_cons, Bool.and_eq_true] at hd
    have := val_ge l (10 * n + (b.toNat - 48))
    rw [val] at hv
    rw [List.cons_append, digO, if_pos hd.1, if_neg (by omega), digO_app c hc Y l _ hd.2 hv]
    rfl
theorem dec_val (n : Nat) : val (dec n) 0 = n := by
  unfold dec
  split
  · rename_i h; rw [h]; rfl
  · exact (dd_facts n n (Nat.le_refl _)).2.1
theorem dec_nil (n : Nat) : dec n ≠ [] := by
  unfold dec
  split
  · simp
  · exact ((dd_facts n n (Nat.le_refl _)).2.2.1 (by omega)).2
theorem digV_dec (n : Nat) (hn : n ≤ 1000000) (c : UInt8) (hc : isDig c = false) (Y : List UInt8) : digV (dec n ++ c :: Y) = n := by
  unfold digV
  rw [digO_app c hc Y (dec n) 0 (dec_dig n) (by rw [dec_val]; exact hn), dec_val]
  have : (dec n).length ≠ 0 := fun h => dec_nil n (List.length_eq_zero_iff.1 h)
  simp only
  rw [if_neg this]

/-! ### A line, as the document reads it -/
def rA (r : List UInt8) : Nat := pos 32 r
def rE (r : List UInt8) : Nat := pos 10 r
def rB (r : List UInt8) : Nat := rA r + 1 + pos 32 (r.drop (rA r + 1))
def rTo (r : List UInt8) : Int := if pos 45 r < rA r then digV (r.drop (pos 45 r + 1)) else digV r
def rH (r : List UInt8) : ByteArray := if (r.take (rB r)).drop (rA r + 1) = [46] then S [] else S ((r.take (rB r)).drop (rA r + 1))
def rG (r : List UInt8) : Int := if (r.take (rE r)).drop (rB r + 1) = [45] then -1 else digV (r.drop (rB r + 1))
def rOk (r : List UInt8) (n : Nat) : Bool := decide (rA r < rE r) && (decide (rB r < rE r) && (decide ((n : Int) ≤ rTo r) && decide (rTo r < 65536)))
theorem ref_push (K x : Nat) (to : Nat) (hto : to ≤ 65536) (h : ByteArray) (g : Int) : ∀ (m : Nat) (b0 : List S38), b0.length + m = to + 1 →
    junctionref14_Retrace.l4 K (m + x + 1) (to : Int) h g b0 = some (((), ()), b0 ++ List.replicate m ⟨h, g⟩, ())
  | 0, b0, hb => by
    rw [junctionref14_Retrace.l4, if_neg (by simp; omega)]
    simp
  | m + 1, b0, hb => by
    rw [junctionref14_Retrace.l4, if_pos (by simp; omega), room_pos (by unfold capBytes; simp; omega), show m + 1 + x = m + x + 1 by omega, ref_push K x to hto h g m _ (by simp; omega)]
    rw [List.replicate_succ, List.append_assoc]
    rfl
theorem take_drop_sub (L : List UInt8) (i a b : Nat) : (L.take (i + b)).drop (i + a) = ((L.drop i).take b).drop a := by
  rw [← List.drop_drop, List.drop_take, show i + b - i = b by omega]
theorem ref_l0 (K : Nat) (L : List UInt8) (i : Nat) (hL : L.length ≤ 1000000000000000) (hK : L.length + 70000 ≤ K) (hi : i < L.length) :
    junctionref14_Retrace.l0 K (S L) ((i + rA (L.drop i) : Nat) : Int) (digV (L.drop i)) ((i + pos 45 (L.drop i) : Nat) : Int) = some ((rTo (L.drop i), ()), ()) := by
  have h45 : pos 45 (L.drop i) ≤ L.length - i := by have := pos_le 45 (L.drop i); simpa using this
  have hA : rA (L.drop i) ≤ L.length - i := by have := pos_le 32 (L.drop i); simpa [rA] using this
  unfold junctionref14_Retrace.l0 rTo
  by_cases h : pos 45 (L.drop i) < rA (L.drop i)
  · obtain ⟨_, k, hk⟩ := digits_ok K L (i + (pos 45 (L.drop i) + 1)) hL (by omega) (by omega)
    rw [if_pos (by simp; omega), if_pos h, IntWalk.i64_in _ (by omega), show (((i + pos 45 (L.drop i) : Nat) : Int) + 1) = ((i + (pos 45 (L.drop i) + 1) : Nat) : Int) by omega, hk, List.drop_drop]
    rfl
  · rw [if_neg (by simp; omega), if_neg h]
theorem ref_l1 (K : Nat) (X : List UInt8) : junctionref14_Retrace.l1 K (S X) = some ((if X = [46] then S [] else S X, ()), ()) := by
  unfold junctionref14_Retrace.l1
  rw [show (ByteArray.mk #[(46 : UInt8)]) = S [46] from rfl, isS]
  by_cases h : X = [46]
  · rw [if_pos (by simpa using h), if_pos h]; rfl
  · rw [if_neg (by simpa using h), if_neg h]
theorem ref_l2 (K : Nat) (L : List UInt8) (i : Nat) (hL : L.length ≤ 1000000000000000) (hK : L.length + 70000 ≤ K) (hi : i < L.length) (hBE : rB (L.drop i) < rE (L.drop i)) :
    junctionref14_Retrace.l2 K (S L) ((i + rE (L.drop i) : Nat) : Int) ((i + rB (L.drop i) : Nat) : Int) (-1) = some ((rG (L.drop i), ()), ()) := by
  have hE : rE (L.drop i) ≤ L.length - i := by have := pos_le 10 (L.drop i); simpa [rE] using this
  unfold junctionref14_Retrace.l2 rG
  rw [S_size, IntWalk.i64_in _ (by omega), if_pos (by omega), show (((i + rB (L.drop i) : Nat) : Int) + 1) = ((i + (rB (L.drop i) + 1) : Nat) : Int) by omega, Int.toNat_natCast, Int.toNat_natCast, S_extract, take_drop_sub,
    show (ByteArray.mk #[(45 : UInt8)]) = S [45] from rfl, isS]
  by_cases h : ((L.drop i).take (rE (L.drop i))).drop (rB (L.drop i) + 1) = [45]
  · rw [if_neg (by simp [h]), if_pos h]
  · obtain ⟨_, k, hk⟩ := digits_ok K L (i + (rB (L.drop i) + 1)) hL (by omega) (by omega)
    rw [if_pos (by simpa using h), if_neg h, hk, List.drop_drop]
    rfl
theorem ref_step (K j : Nat) (L : List UInt8) (i : Nat) (b0 : List S38) (hL : L.length ≤ 1000000000000000) (hK : L.length + 70000 ≤ K) (hi : i < L.length) (hb : b0.length ≤ 65536) :
    ∃ b1, junctionref14_Retrace.l5 K (j + 1) (S L) (i : Int) b0 = if rOk (L.drop i) b0.length = true then junctionref14_Retrace.l5 K j (S L) ((i + rE (L.drop i) + 1 : Nat) : Int) (b0 ++ List.replicate ((rTo (L.drop i)).toNat + 1 - b0.length) ⟨rH (L.drop i), rG (L.drop i)⟩) else some (.inl (((), 140, ()), b1, [], ())) := by
  have hE : rE (L.drop i) ≤ L.length - i := by have := pos_le 10 (L.drop i); simpa [rE] using this
  have hA : rA (L.drop i) ≤ L.length - i := by have := pos_le 32 (L.drop i); simpa [rA] using this
  have hA' : pos 32 (L.drop i) ≤ L.length - i := hA
  have hE' : pos 10 (L.drop i) ≤ L.length - i := hE
  have u10 := upto_ok K L 10 i hL (by omega) (by omega)
  have u32 := upto_ok K L 32 i hL (by omega) (by omega)
  have u45 := upto_ok K L 45 i hL (by omega) (by omega)
  rw [show ((10 : UInt8).toNat : Int) = 10 from rfl] at u10
  rw [show ((32 : UInt8).toNat : Int) = 32 from rfl] at u32
  rw [show ((45 : UInt8).toNat : Int) = 45 from rfl] at u45
  rw [junctionref14_Retrace.l5, S_size, if_pos (by simp; omega), u10, Option.bind_some, u32, Option.bind_some]
  simp only
  change ∃ b1, (if decide (((i + rA (L.drop i) : Nat) : Int) ≥ ((i + rE (L.drop i) : Nat) : Int)) = true then _ else _) = _
  by_cases c1 : rA (L.drop i) < rE (L.drop i)
  · have u32b := upto_ok K L 32 (i + rA (L.drop i) + 1) hL (by omega) (by omega)
    rw [show ((32 : UInt8).toNat : Int) = 32 from rfl, show i + rA (L.drop i) + 1 + pos 32 (L.drop (i + rA (L.drop i) + 1)) = i + rB (L.drop i) by
      unfold rB; rw [List.drop_drop, show i + rA (L.drop i) + 1 = i + (rA (L.drop i) + 1) from rfl]; omega] at u32b
    rw [if_neg (by simp; omega), IntWalk.i64_in _ (by omega), show (((i + pos 32 (L.drop i) : Nat) : Int) + 1) = ((i + rA (L.drop i) + 1 : Nat) : Int) by unfold rA; omega, u32b, Option.bind_some]
    simp only
    change ∃ b1, (if decide (((i + rB (L.drop i) : Nat) : Int) ≥ ((i + rE (L.drop i) : Nat) : Int)) = true then _ else _) = _
    by_cases c2 : rB (L.drop i) < rE (L.drop i)
    · obtain ⟨hdv, k, hk⟩ := digits_ok K L i hL (by omega) (by omega)
      have hl0 := ref_l0 K L i hL hK hi
      unfold rA at hl0
      rw [if_neg (by simp; omega), hk, Option.bind_some, u45, Option.bind_some]
      simp only
      rw [hl0, Option.bind_some]
      simp only
      have hAB : rA (L.drop i) + 1 ≤ rB (L.drop i) := by unfold rB; omega
      rw [if_pos (by omega), Int.toNat_natCast, Int.toNat_natCast, S_extract, show i + rA (L.drop i) + 1 = i + (rA (L.drop i) + 1) from rfl, take_drop_sub, ref_l1, Option.bind_some]
      have hl2 := ref_l2 K L i hL hK hi c2
      unfold rE at hl2
      rw [hl2, Option.bind_some]
      simp only
      unfold junctionref14_Retrace.l3
      have hto : -1 ≤ rTo (L.drop i) ∧ rTo (L.drop i) ≤ 1000000 := by
        unfold rTo
        split
        · rename_i h
          have := (digits_ok K L (i + (pos 45 (L.drop i) + 1)) hL (by omega) (by omega)).1
          rwa [List.drop_drop]
        · exact hdv
      by_cases c3 : (b0.length : Int) ≤ rTo (L.drop i)
      · rw [if_pos (by simp; omega)]
        by_cases c4 : rTo (L.drop i) < 65536
        · obtain ⟨to, hto'⟩ : ∃ to : Nat, rTo (L.drop i) = (to : Int) := ⟨(rTo (L.drop i)).toNat, by omega⟩
          have hok : rOk (L.drop i) b0.length = true := by unfold rOk; simp [c1, c2, c3, c4]
          rw [if_neg (by simp; omega), Option.bind_some]
          refine ⟨[], ?_⟩
          rw [if_pos hok]
          simp only [onSum]
          have hp := ref_push K (K - (to + 1 - b0.length) - 1) to (by omega) (rH (L.drop i)) (rG (L.drop i)) (to + 1 - b0.length) b0 (by omega)
          rw [show to + 1 - b0.length + (K - (to + 1 - b0.length) - 1) + 1 = K by omega] at hp
          unfold rH at hp
          rw [hto', hp, Option.bind_some, Int.toNat_natCast]
          simp only
          rw [IntWalk.i64_in _ (by omega)]
          unfold rE rH
          rw [show (((i + pos 10 (L.drop i) : Nat) : Int) + 1) = ((i + pos 10 (L.drop i) + 1 : Nat) : Int) by omega]
        · have hok : ¬ rOk (L.drop i) b0.length = true := by unfold rOk; simp [c4]
          rw [if_pos (by simp; omega), Option.bind_some]
          refine ⟨b0, ?_⟩
          rw [if_neg hok]
          rfl
      · have hok : ¬ rOk (L.drop i) b0.length = true := by unfold rOk; simp [c3]
        rw [if_neg (by simp; omega), Option.bind_some]
        refine ⟨b0, ?_⟩
        rw [if_neg hok]
        rfl
    · have hok : ¬ rOk (L.drop i) b0.length = true := by unfold rOk; simp [c2]
      rw [if_pos (by simp; omega)]
      refine ⟨b0, ?_⟩
      rw [if_neg hok]
  · have hok : ¬ rOk (L.drop i) b0.length = true := by unfold rOk; simp [c1]
    rw [if_pos (by simp; omega)]
    refine ⟨b0, ?_⟩
    rw [if_neg hok]
theorem ref_total (K : Nat) (L : List UInt8) (hL : L.length ≤ 1000000000000000) (hK : L.length + 70000 ≤ K) : ∀ (m x i : Nat) (b0 : List S38), L.length ≤ i + m → b0.length ≤ 65536 →
    (∃ b1, junctionref14_Retrace.l5 K (m + x + 1) (S L) (i : Int) b0 = some (.inl (((), 140, ()), b1, [], ()))) ∨ ∃ b' : List S38, b'.length ≤ 65536 ∧ junctionref14_Retrace.l5 K (m + x + 1) (S L) (i : Int) b0 = some (.inr (((), ()), b', ()))
  | 0, x, i, b0, hm, hb => by
    refine .inr ⟨b0, hb, ?_⟩
    rw [junctionref14_Retrace.l5, S_size, if_neg (by simp; omega)]
  | m + 1, x, i, b0, hm, hb => by
    by_cases hi : i < L.length
    · obtain ⟨b1, hs⟩ := ref_step K (m + 1 + x) L i b0 hL hK hi hb
      rw [hs]
      by_cases hok : rOk (L.drop i) b0.length = true
      · rw [if_pos hok]
        unfold rOk at hok
        simp only [Bool.and_eq_true, decide_eq_true_eq] at hok
        rw [show m + 1 + x = m + x + 1 by omega]
        exact ref_total K L hL hK m x _ _ (by omega) (by simp; omega)
      · rw [if_neg hok]
        exact .inl ⟨_, rfl⟩
    · refine .inr ⟨b0, hb, ?_⟩
      rw [junctionref14_Retrace.l5, S_size, if_neg (by simp; omega)]
noncomputable def refTail (K : Nat) (T : ByteArray) (b : List S38) : Option ((List S38 × Int × Unit) × Unit) :=
  Option.bind (junctionref14_Trace K b) fun r2 => Option.bind (junctionref14_Retrace.l6 K T (Prod.fst (Prod.fst r2)) (Prod.fst (Prod.snd (Prod.fst r2)))) fun r3 =>
      onSum r3 (fun r4 => some ((Prod.fst (Prod.snd r4), Prod.fst (Prod.snd (Prod.fst r4)), ()), ())) fun r4 => some ((b, (0 : Int), ()), ())
theorem ref_end (K : Nat) (T : ByteArray) (b : List S38) (hK : 70000 ≤ K) (hb : b.length ≤ 65536) :
    refTail K T b = if (told b).2 = 0 ∧ (told b).1 = T then some ((b, 0, ()), ()) else some (([], 140, ()), ()) := by
  unfold refTail
  rw [ref_trace K b hK, Option.bind_some]
  simp only
  unfold junctionref14_Retrace.l6
  rcases told_cases b with h0 | h0
  · rw [h0, if_pos (by decide), ← S_self (told b).1, ← S_self T, isS]
    by_cases hq : (told b).1.data.toList = T.data.toList
    · rw [if_neg (by simp [hq]), Option.bind_some, if_pos ⟨rfl, by rw [hq]⟩]
      rfl
    · rw [if_pos (by simp [hq]), Option.bind_some, if_neg (fun h => hq (S_inj h.2))]
      rfl
  · rw [h0, if_neg (by decide), Option.bind_some, if_neg (fun h => by cases h.1)]
    rfl
theorem ref_answer (K : Nat) (T : ByteArray) (hT : T.size ≤ 1000000000000000) (hK : T.size + 70000 ≤ K) : ∃ (l : List S38) (e : Int), junctionref14_Retrace K T = some ((l, e, ()), ()) ∧ ((l = [] ∧ e = 140) ∨ (e = 0 ∧ (told l).2 = 0 ∧ (told l).1 = T)) := by
  obtain ⟨L, rfl⟩ : ∃ L, T = S L := ⟨T.data.toList, (S_self T).symm⟩
  rw [S_size] at hT hK
  unfold junctionref14_Retrace
  have := ref_total K L hT hK L.length (K - L.length - 1) 0 [] (by omega) (by simp)
  rw [show L.length + (K - L.length - 1) + 1 = K by omega, show ((0 : Nat) : Int) = 0 from rfl] at this
  rcases this with ⟨b1, h⟩ | ⟨b', hb, h⟩
  · rw [h, Option.bind_some]
    exact ⟨_, _, rfl, .inl ⟨rfl, rfl⟩⟩
  · rw [h, Option.bind_some]
    change ∃ l e, refTail K (S L) b' = _ ∧ _
    rw [ref_end K (S L) b' (by omega) hb]
    split
    · rename_i hc
      exact ⟨_, _, rfl, .inr ⟨rfl, hc.1, hc.2⟩⟩
    · exact ⟨_, _, rfl, .inl ⟨rfl, rfl⟩⟩
theorem line_ref (a j : Nat) {e : S38} (h : tellB e = true) (haj : a < j) (hj : j ≤ 65536) (Y : List UInt8) (r : List UInt8) (hr : r = lineL a (j - 1) e ++ 10 :: Y) :
    rE r = (lineL a (j - 1) e).length ∧ rOk r a = true ∧ rTo r = ((j - 1 : Nat) : Int) ∧ rH r = e.f0 ∧ rG r = e.f1 := by
  have e1 : r = (dec a ++ moreL a (j - 1)) ++ 32 :: (headsL e ++ 32 :: (stageL e ++ 10 :: Y)) := by rw [hr]; unfold lineL; simp
  have hE : rE r = (lineL a (j - 1) e).length := by rw [hr]; exact pos_found (line_not a (j - 1) h)
  have hA : rA r = (dec a ++ moreL a (j - 1)).length := by
    rw [e1]
    refine pos_found ?_
    simp only [List.mem_append, not_or]
    exact ⟨dig_not (dec_dig a) 32 (by decide), more_not a (j - 1) 32 (by decide) (by decide)⟩
  have hd1 : r.drop (rA r + 1) = headsL e ++ 32 :: (stageL e ++ 10 :: Y) := by rw [hA, e1, ← List.drop_drop]; simp
  have hB : rB r = rA r + 1 + (headsL e).length := by
    unfold rB
    rw [hd1, pos_found (heads_not h 32 (by decide) (by decide))]
  have hd2 : r.drop (rB r + 1) = stageL e ++ 10 :: Y := by
    rw [hB, show rA r + 1 + (headsL e).length + 1 = (rA r + 1) + ((headsL e).length + 1) by omega, ← List.drop_drop, hd1, ← List.drop_drop]; simp
  have hlen : (lineL a (j - 1) e).length = rB r + 1 + (stageL e).length := by
    rw [hB, hA]; unfold lineL; simp; omega
  have hHs : (r.take (rB r)).drop (rA r + 1) = headsL e := by
    rw [List.drop_take, hd1, hB, show rA r + 1 + (headsL e).length - (rA r + 1) = (headsL e).length by omega]; simp
  have hGs : (r.take (rE r)).drop (rB r + 1) = stageL e := by
    rw [List.drop_take, hd2, hE, hlen, show rB r + 1 + (stageL e).length - (rB r + 1) = (stageL e).length by omega]; simp
  have hTo : rTo r = ((j - 1 : Nat) : Int) := by
    unfold rTo
    have hm := more_list a (j - 1)
    by_cases hab : j - 1 > a
    · rw [if_pos hab] at hm
      have e2 : r = dec a ++ 45 :: (dec (j - 1) ++ 32 :: (headsL e ++ 32 :: (stageL e ++ 10 :: Y))) := by rw [e1, hm]; simp
      have hp : pos 45 r = (dec a).length := by rw [e2]; exact pos_found (dig_not (dec_dig a) 45 (by decide))
      have hd : r.drop (pos 45 r + 1) = dec (j - 1) ++ 32 :: (headsL e ++ 32 :: (stageL e ++ 10 :: Y)) := by rw [hp, e2, ← List.drop_drop]; simp
      rw [if_pos (by rw [hp, hA, hm]; simp), hd, digV_dec (j - 1) (by omega) 32 (by decide)]
    · rw [if_neg hab] at hm
      rw [hm] at e1 hA
      have e2 : r = dec a ++ 32 :: (headsL e ++ 32 :: (stageL e ++ 10 :: Y)) := by rw [e1]; simp
      have hp : ¬ pos 45 r < rA r := by
        rw [hA]
        intro hlt
        have := pos_ge (X := dec a) (Y := 32 :: (headsL e ++ 32 :: (stageL e ++ 10 :: Y))) (dig_not (dec_dig a) 45 (by decide))
        rw [← e2] at this
        simp at hlt
        omega
      rw [if_neg hp, e2, digV_dec a (by omega) 32 (by decide)]
      congr 1; omega
  refine ⟨hE, ?_, hTo, ?_, ?_⟩
  · unfold rOk
    rw [hTo, hE, hlen, hB]
    simp
    omega
  · unfold rH
    rw [hHs]
    exact heads_back h
  · unfold rG
    rw [hGs, hd2]
    have hb := stage_back h
    by_cases h1 : stageL e = [45]
    · rw [if_pos h1] at hb ⊢; exact hb
    · rw [if_neg h1] at hb ⊢
      rcases stage_cases h with ⟨_, h4⟩ | ⟨g, h5, h6, h4⟩
      · exact absurd h4 h1
      · rw [h4, digV_dec g (by omega) 10 (by decide), h6]
theorem ref_reads (K : Nat) (t : List S38) (L : List UInt8) (hL : L.length ≤ 1000000000000000) (hK : L.length + 70000 ≤ K) (hl : t.length ≤ 65536) (ht : t.all tellB = true) : ∀ (m x i p : Nat), t.length ≤ i + m → i ≤ t.length → p ≤ L.length → L.drop p = RL t i →
    junctionref14_Retrace.l5 K (m + x + 1) (S L) (p : Int) (t.take i) = some (.inr (((), ()), t, ()))
  | m, x, i, p, hm, hi, hp, hd => by
    by_cases he : i = t.length
    · subst he
      rw [RL_end] at hd
      have := congrArg List.length hd
      rw [junctionref14_Retrace.l5, S_size, if_neg (by simp at this ⊢; omega), List.take_length]
    · obtain ⟨j, h1, h2, h3, h4⟩ := stretch_at t i (by omega) hl
      have hk := tell_at ht (show i < t.length by omega)
      have hR := RL_step t i j h1 h2 h3 h4
      have hlen := congrArg List.length hd
      rw [hR] at hlen
      simp only [List.length_drop, List.length_append, List.length_cons] at hlen
      obtain ⟨b1, hs⟩ := ref_step K (m + x) L p (t.take i) hL hK (by omega) (by simp; omega)
      have htl : (t.take i).length = i := by simp; omega
      obtain ⟨r1, r2, r3, r4, r5⟩ := line_ref i j hk h1 (by omega) (RL t j) (RL t i) hR
      rw [hd, htl, r1, r2, r3, r4, r5, if_pos (by rfl), Int.toNat_natCast, show j - 1 + 1 - i = j - i by omega] at hs
      have hmore := take_more t i j (by omega) h2 h3
      change t.take i ++ List.replicate (j - i) ⟨(nth t i).f0, (nth t i).f1⟩ = _ at hmore
      rw [hs, hmore]
      cases m with
      | zero => omega
      | succ m =>
        rw [show m + 1 + x = m + x + 1 by omega]
        refine ref_reads K t L hL hK hl ht m x j _ (by omega) h2 (by omega) ?_
        rw [show p + (lineL i (j - 1) (nth t i)).length + 1 = p + ((lineL i (j - 1) (nth t i)).length + 1) by omega, ← List.drop_drop, hd, hR, ← List.drop_drop]
        simp
theorem ref_complete (K : Nat) (t : List S38) (h : (told t).2 = 0) (hT : (told t).1.size ≤ 1000000000000000) (hK : (told t).1.size + 70000 ≤ K) : junctionref14_Retrace K (told t).1 = some ((t, 0, ()), ()) := by
  obtain ⟨hl, ht, h1⟩ := told_ok0 h
  rw [h1, S_size] at hT hK
  unfold junctionref14_Retrace
  have := ref_reads K t (RL t 0) hT hK hl ht t.length (K - t.length - 1) 0 0 (by omega) (by omega) (by omega) rfl
  rw [show t.length + (K - t.length - 1) + 1 = K by omega, List.take_zero, show ((0 : Nat) : Int) = 0 from rfl] at this
  rw [h1, this, Option.bind_some]
  change refTail K (S (RL t 0)) t = _
  rw [ref_end K (S (RL t 0)) t (by omega) hl, if_pos ⟨h, h1⟩]

/-! ### The laws -/
theorem same_self (K : Nat) (t : List S38) (hK : t.length < K) (hl : t.length ≤ 9223372036854775806) : junctionlaw14_SameEntries K t t = some (true, ()) := by
  unfold junctionlaw14_SameEntries
  have := same_loop K (K - t.length - 1) t hl t.length 0 (by omega)
  rw [show ((0 : Nat) : Int) = 0 from rfl, show t.length + (K - t.length - 1) + 1 = K by omega] at this
  rw [if_neg (by simp), this, Option.bind_some]
  rfl
theorem retraces_ok (T : ByteArray) (hT : T.size ≤ 1000000000000000) : junctionlaw14_DriverRetraces (T.size + 70000) T = some (true, ()) := by
  obtain ⟨l, e, h1, h2⟩ := drv_answer (T.size + 70000) T hT (Nat.le_refl _)
  obtain ⟨k, f, h3, h4⟩ := ref_answer (T.size + 70000) T hT (Nat.le_refl _)
  unfold junctionlaw14_DriverRetraces
  rcases h2 with ⟨rfl, rfl⟩ | ⟨rfl, h5, h6⟩
  · rcases h4 with ⟨rfl, rfl⟩ | ⟨rfl, h7, h8⟩
    · rw [h1, h3, Option.bind_some, Option.bind_some, if_pos (by rfl), same_self _ _ (by simp) (by simp)]
      rfl
    · have := drv_complete (T.size + 70000) k h7 (by rw [h8]; exact hT) (by rw [h8]; exact Nat.le_refl _)
      rw [h8, h1] at this
      cases this
  · have := ref_complete (T.size + 70000) l h5 (by rw [h6]; exact hT) (by rw [h6]; exact Nat.le_refl _)
    rw [h6] at this
    obtain ⟨hl, _, _⟩ := told_ok0 h5
    rw [h1, this, Option.bind_some, Option.bind_some, if_pos (by rfl), same_self _ _ (by simp only; omega) (by simp only; omega)]
    rfl
theorem red_heads : headsL ⟨S [114], -1⟩ = [114] := by
  rcases heads_cases (e := ⟨S [114], -1⟩) (by decide) with ⟨h, _⟩ | ⟨_, h, _⟩
  · cases S_inj h
  · exact h
theorem red_stage : stageL ⟨S [114], -1⟩ = [45] := by
  rcases stage_cases (e := ⟨S [114], -1⟩) (by decide) with ⟨_, h⟩ | ⟨g, _, h, _⟩
  · exact h
  · simp only at h; omega
theorem two_told : (told [⟨S [114], -1⟩, ⟨S [114], -1⟩]).2 = 0 ∧ (told [⟨S [114], -1⟩, ⟨S [114], -1⟩]).1 = S [48, 45, 49, 32, 114, 32, 45, 10] := by
  have h : (told [⟨S [114], -1⟩, ⟨S [114], -1⟩]).2 = 0 := by unfold told; rw [if_pos ⟨by decide, by decide⟩]
  refine ⟨h, ?_⟩
  rw [(told_ok0 h).2.2, RL_step _ 0 2 (by omega) (Nat.le_refl _) (fun q _ hq => by match q, hq with | 0, _ => rfl | 1, _ => rfl) (.inl rfl), show RL [⟨S [114], -1⟩, ⟨S [114], -1⟩] 2 = [] from RL_end [⟨S [114], -1⟩, ⟨S [114], -1⟩]]
  unfold lineL
  have d1 : dec 1 = [49] := by unfold dec; rw [if_neg (by decide), dd_step 1 (by decide)]; rfl
  rw [more_list, if_pos (by decide), show 2 - 1 = 1 from rfl, d1, show nth [⟨S [114], -1⟩, ⟨S [114], -1⟩] 0 = ⟨S [114], -1⟩ from rfl, red_heads, red_stage]
  rfl
theorem one_told : (told [⟨S [114], -1⟩]).2 = 0 ∧ (told [⟨S [114], -1⟩]).1 = S [48, 32, 114, 32, 45, 10] := by
  have h : (told [⟨S [114], -1⟩]).2 = 0 := by unfold told; rw [if_pos ⟨by decide, by decide⟩]
  refine ⟨h, ?_⟩
  rw [(told_ok0 h).2.2, RL_step _ 0 1 (by omega) (Nat.le_refl _) (fun q _ hq => by match q, hq with | 0, _ => rfl) (.inl rfl), show RL [⟨S [114], -1⟩] 1 = [] from RL_end [⟨S [114], -1⟩]]
  unfold lineL
  rw [more_list, if_neg (by decide), show nth [⟨S [114], -1⟩] 0 = ⟨S [114], -1⟩ from rfl, red_heads, red_stage]
  rfl
theorem back_ok (T : ByteArray) (hT : T.size ≤ 1000000000000000) : junctionlaw14_DriverBack (T.size + 80000) T = some (true, ()) := by
  obtain ⟨l, e, h1, h2⟩ := drv_answer (T.size + 80000) T hT (by omega)
  have h3 := drv_complete (T.size + 80000) _ two_told.1 (by rw [two_told.2, S_size]; decide) (by rw [two_told.2, S_size, show ([48, 45, 49, 32, 114, 32, 45, 10] : List UInt8).length = 8 from rfl]; omega)
  rw [two_told.2] at h3
  unfold junctionlaw14_DriverBack
  rw [show ByteArray.mk #[(48 : UInt8), (45 : UInt8), (49 : UInt8), (32 : UInt8), (114 : UInt8), (32 : UInt8), (45 : UInt8), (10 : UInt8)] = S [48, 45, 49, 32, 114, 32, 45, 10] from rfl, h3, Option.bind_some,
    show junctionlaw14_DriverBack.l0 (T.size + 80000) [⟨S [114], -1⟩, ⟨S [114], -1⟩] 0 = some (.inr ((), ())) from rfl, Option.bind_some]
  simp only [onSum]
  rw [h1, Option.bind_some]
  rcases h2 with ⟨rfl, rfl⟩ | ⟨rfl, h5, h6⟩
  · rfl
  · rw [if_neg (by simp), drv_trace _ l (by omega), Option.bind_some, h5, if_pos (by simp), h6]
    simp

theorem retraces_law (T : ByteArray) (hT : T.size ≤ 140737488351232) : junctionlaw14_DriverRetraces (T.size + 70000) T = some (true, ()) := retraces_ok T (by omega)
theorem back_law (T : ByteArray) (hT : T.size ≤ 140737488351232) : junctionlaw14_DriverBack (T.size + 80000) T = some (true, ()) := back_ok T (by omega)
end Go.Am.Tryd
