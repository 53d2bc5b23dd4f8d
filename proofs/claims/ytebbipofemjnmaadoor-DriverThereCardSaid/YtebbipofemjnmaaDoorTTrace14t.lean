/- Both texts of a list of entries are one text. -/
import Derived.Test.YtebbipofemjnmaaDoorTPure14t
namespace Go.Am.Tryd
open Go.Proofs Go.Am Go.RowKit
set_option maxRecDepth 100000
set_option linter.unusedVariables false

theorem toList_eq (a : ByteArray) : a.toList = a.data.toList := by obtain ⟨⟨l⟩⟩ := a; simp
def same (a b : S38) : Bool := ByteArray.toList a.f0 == ByteArray.toList b.f0 && (a.f1 == b.f1 && true)
theorem same_iff (a b : S38) : same a b = true ↔ a = b := by
  obtain ⟨f, n⟩ := a
  obtain ⟨g, m⟩ := b
  unfold same
  simp only [Bool.and_true, Bool.and_eq_true, beq_iff_eq, S38.mk.injEq]
  rw [toList_eq, toList_eq]
  refine and_congr_left fun _ => ⟨fun h => ?_, fun h => by rw [h]⟩
  apply ByteArray.ext
  exact Array.toList_inj.1 h
instance : DecidableEq S38 := fun a b => decidable_of_iff (same a b = true) (same_iff a b)
theorem guard38 : Go.Program.eqGuardType Tryd.prog (Go.Program.depth Tryd.prog) (38 : Nat) = Bool.false ∧ Go.Program.stoodInHeld Tryd.prog (38 : Nat) = Bool.false := ⟨by kernel_rfl, by kernel_rfl⟩

def dot : ByteArray := ByteArray.mk #[(46 : UInt8)]
def dash : ByteArray := ByteArray.mk #[(45 : UInt8)]
def blank : ByteArray := ByteArray.mk #[(32 : UInt8)]
def newline : ByteArray := ByteArray.mk #[(10 : UInt8)]
def heads (e : S38) : ByteArray := if (ByteArray.toList e.f0 == ByteArray.toList (ByteArray.mk #[])) = true then dot else e.f0
def stage (e : S38) : ByteArray := if decide (e.f1 ≥ 0) = true then I e.f1 else dash
def rest (e : S38) : ByteArray := blank ++ heads e ++ blank ++ stage e ++ newline
def more (a b : Nat) : ByteArray := if b > a then dash ++ I b else ByteArray.empty
def lineT (a b : Nat) (e : S38) : ByteArray := I a ++ more a b ++ rest e

/-- The text from place i on, of a list with m places more, a stretch being begun at f. -/
def R (t : List S38) : Nat → Nat → Nat → ByteArray
  | 0, _, _ => ByteArray.empty
  | m + 1, f, i => if i + 1 = t.length ∨ nth t (i + 1) ≠ nth t i then lineT f i (nth t i) ++ R t m (i + 1) (i + 1) else R t m f (i + 1)
theorem R_stretch (t : List S38) (i j : Nat) (hj : j ≤ t.length) (hs : ∀ q, i ≤ q → q < j → nth t q = nth t i) (he : j = t.length ∨ nth t j ≠ nth t i) :
    ∀ (n q : Nat), i ≤ q → q + n + 1 = j → R t (t.length - q) i q = lineT i (j - 1) (nth t i) ++ R t (t.length - j) j j
  | 0, q, hq, hn => by
    rw [show t.length - q = (t.length - j) + 1 by omega, R, if_pos (by
      rcases he with he | he
      · exact .inl (by omega)
      · exact .inr (by rw [hs q hq (by omega), show q + 1 = j by omega]; exact he)), hs q hq (by omega), show q + 1 = j by omega, show j - 1 = q by omega]
  | n + 1, q, hq, hn => by
    rw [show t.length - q = (t.length - (q + 1)) + 1 by omega, R, if_neg (by
      rw [hs q hq (by omega), hs (q + 1) (by omega) (by omega)]
      simp
      omega)]
    exact R_stretch t i j hj hs he n (q + 1) (by omega) (by omega)

theorem tell_inv {e : S38} (h : tellB e = true) : e.f0.size ≤ 64 ∧ -1 ≤ e.f1 ∧ e.f1 ≤ 255 := by
  unfold tellB at h
  simp only [Bool.and_eq_true, decide_eq_true_eq] at h
  exact ⟨h.1.1.1, h.1.1.2, h.1.2⟩
theorem heads_size {e : S38} (h : tellB e = true) : (heads e).size ≤ 64 := by
  unfold heads; split
  · show 1 ≤ 64; omega
  · exact (tell_inv h).1
theorem stage_size {e : S38} (h : tellB e = true) : (stage e).size ≤ 21 := by
  unfold stage; split
  · exact I_size _ (by have := tell_inv h; omega)
  · show 1 ≤ 21; omega
theorem sz_app (a b : ByteArray) : (a ++ b).size = a.size + b.size := ByteArray.size_append
theorem sz1 : blank.size = 1 ∧ newline.size = 1 ∧ dash.size = 1 := ⟨rfl, rfl, rfl⟩
theorem rest_size {e : S38} (h : tellB e = true) : (rest e).size ≤ 100 := by
  have := heads_size h; have := stage_size h; have := sz1
  unfold rest
  simp only [sz_app]
  omega
theorem more_size (a b : Nat) (h : b ≤ 2147483647) : (more a b).size ≤ 30 := by
  unfold more; split
  · have := I_size (b : Int) (by omega); have := sz1; rw [sz_app]; omega
  · show 0 ≤ 30; omega
theorem lineT_size (a b : Nat) {e : S38} (h : tellB e = true) (ha : a ≤ 2147483647) (hb : b ≤ 2147483647) : (lineT a b e).size ≤ 200 := by
  have := I_size (a : Int) (by omega); have := more_size a b hb; have := rest_size h
  unfold lineT
  simp only [sz_app]
  omega

/-! ### The document's -/
theorem line_ok (K a b : Nat) (e : S38) (hK : 100 ≤ K) (ha : a ≤ 2147483647) (hb : b ≤ 2147483647) (h : tellB e = true) : junctionref14_line K (a : Int) (b : Int) e.f0 e.f1 = some (lineT a b e, ()) := by
  have h1 := I_size (a : Int) (by omega); have h2 := more_size a b hb; have h3 := heads_size h; have h4 := stage_size h; have h5 := sz1
  unfold junctionref14_line
  rw [dec_ok K a hK ha, Option.bind_some]
  have e0 : junctionref14_line.l0 K (a : Int) (b : Int) (I (a : Int)) = some ((I (a : Int) ++ more a b, ()), ()) := by
    unfold junctionref14_line.l0 more
    by_cases hab : b > a
    · have h6 := I_size (b : Int) (by omega)
      rw [if_pos (by simp; omega), if_pos hab, fit (by change (I (a : Int)).size + 1 ≤ _; omega), dec_ok K b hK hb, Option.bind_some, fit (by simp only [sz_app]; change (I (a : Int)).size + 1 + (I (b : Int)).size ≤ _; omega)]
      rw [← ByteArray.append_assoc]; rfl
    · rw [if_neg (by simp; omega), if_neg hab, ByteArray.append_empty]
  have e1 : junctionref14_line.l1 K e.f0 = some ((heads e, ()), ()) := by
    unfold junctionref14_line.l1 heads
    split <;> rfl
  have e2 : junctionref14_line.l2 K e.f0 e.f1 (ByteArray.mk #[(45 : UInt8)]) = some ((stage e, ()), ()) := by
    unfold junctionref14_line.l2 stage
    by_cases hg : e.f1 ≥ 0
    · obtain ⟨g, hg'⟩ : ∃ g : Nat, e.f1 = (g : Int) := ⟨e.f1.toNat, by omega⟩
      have := tell_inv h
      rw [if_pos (by simpa using hg), if_pos (by simpa using hg), hg', dec_ok K g hK (by omega)]
      rfl
    · rw [if_neg (by simpa using hg), if_neg (by simpa using hg)]; rfl
  simp only
  rw [e0, Option.bind_some, e1, Option.bind_some, e2, Option.bind_some]
  simp only
  have s1 : (ByteArray.mk #[(32 : UInt8)]).size = 1 := rfl
  have s2 : (ByteArray.mk #[(10 : UInt8)]).size = 1 := rfl
  rw [fit (by simp only [sz_app, s1, s2]; omega), fit (by simp only [sz_app, s1, s2]; omega), fit (by simp only [sz_app, s1, s2]; omega), fit (by simp only [sz_app, s1, s2]; omega), fit (by simp only [sz_app, s1, s2]; omega)]
  unfold lineT rest
  simp only [ByteArray.append_assoc]
  rfl
theorem ref_last (K : Nat) (t : List S38) (i : Nat) (hi : i < t.length) (hl : t.length ≤ 65536) :
    junctionref14_Trace.l0 K t (i : Int) = some ((decide (i + 1 = t.length ∨ nth t (i + 1) ≠ nth t i), ()), ()) := by
  unfold junctionref14_Trace.l0
  rw [IntWalk.i64_in _ (by omega), show ((i : Int) + 1) = ((i + 1 : Nat) : Int) by omega]
  by_cases he : i + 1 = t.length
  · rw [if_neg (by simp [he])]
    simp [he]
  · rw [if_pos (by simp; omega), if_pos (by omega), if_pos (by omega), show Go.Am.Ctx.P (Go.Am.Tryd.junctionref14_Trace.x K []) = Tryd.prog from rfl, if_pos guard38, Int.toNat_natCast, Int.toNat_natCast]
    have : (same (nth t (i + 1)) (nth t i)) = decide (nth t (i + 1) = nth t i) := by rw [Bool.eq_iff_iff, same_iff]; simp
    unfold same nth at this
    rw [this]
    unfold nth
    simp [he]
theorem ref_loop (K x : Nat) (t : List S38) (hK : 100 ≤ K) (hl : t.length ≤ 65536) : ∀ (m i f : Nat) (acc : ByteArray), i + m = t.length → f ≤ i → acc.size ≤ 300 * i →
    junctionref14_Trace.l2 K (m + x + 1) t acc (f : Int) (i : Int) = some (if (t.drop i).all tellB then .inr ((acc ++ R t m f i, ()), ()) else .inl ((ByteArray.mk #[], 140, ()), ()))
  | 0, i, f, acc, hi, hf, ha => by
    rw [junctionref14_Trace.l2, if_neg (by simp; omega), List.drop_eq_nil_of_le (by omega)]
    simp [R]
  | m + 1, i, f, acc, hi, hf, ha => by
    have hd : t.drop i = nth t i :: t.drop (i + 1) := (List.drop_eq_getElem_cons (by omega)).trans (by
      congr 1
      unfold nth
      rw [List.getD_eq_getElem?_getD, List.getElem?_eq_getElem (by omega)]; rfl)
    rw [junctionref14_Trace.l2, if_pos (by simp; omega), hd, List.all_cons]
    unfold junctionref14_Trace.l1
    rw [if_pos (by omega), Int.toNat_natCast]
    have ht := told_ok K (nth t i) hK
    unfold nth at ht
    rw [ht, Option.bind_some]
    cases hk : tellB (nth t i)
    · rw [if_pos (by show (!tellB (nth t i)) = true; rw [hk]; rfl)]
      rfl
    · rw [if_neg (by show ¬ (!tellB (nth t i)) = true; rw [hk]; simp), ref_last K t i (by omega) hl, Option.bind_some, R]
      simp only [Bool.true_and]
      have hs := lineT_size f i hk (by omega) (by omega)
      by_cases he : i + 1 = t.length ∨ nth t (i + 1) ≠ nth t i
      · rw [if_pos (by simpa using he), if_pos (by omega), if_pos he]
        have hlo := line_ok K f i (nth t i) hK (by omega) (by omega) hk
        unfold nth at hlo
        rw [hlo, Option.bind_some]
        simp only
        rw [fit (by unfold nth at hs; omega), Option.bind_some]
        simp only [onSum]
        rw [IntWalk.i64_in _ (by omega), show ((i : Int) + 1) = ((i + 1 : Nat) : Int) by omega, show m + 1 + x = m + x + 1 by omega, ref_loop K x t hK hl m (i + 1) (i + 1) _ (by omega) (by omega) (by rw [sz_app]; unfold nth at hs; omega)]
        rw [ByteArray.append_assoc]
        rfl
      · rw [if_neg (by simpa using he), if_neg he, Option.bind_some]
        simp only [onSum]
        rw [IntWalk.i64_in _ (by omega), show ((i : Int) + 1) = ((i + 1 : Nat) : Int) by omega, show m + 1 + x = m + x + 1 by omega, ref_loop K x t hK hl m (i + 1) f _ (by omega) (by omega) (by omega)]
def told (t : List S38) : ByteArray × Int := if t.length ≤ 65536 ∧ t.all tellB = true then (R t t.length 0 0, 0) else (ByteArray.mk #[], 140)
theorem ref_trace (K : Nat) (t : List S38) (hK : 70000 ≤ K) : junctionref14_Trace K t = some (((told t).1, (told t).2, ()), ()) := by
  unfold junctionref14_Trace told
  by_cases hl : t.length ≤ 65536
  · rw [if_neg (by simp; omega)]
    have := ref_loop K (K - t.length - 1) t (by omega) hl t.length 0 0 (ByteArray.mk #[]) (by omega) (by omega) (by show 0 ≤ 0; omega)
    rw [show t.length + (K - t.length - 1) + 1 = K by omega, List.drop_zero] at this
    rw [show ((0 : Nat) : Int) = 0 from rfl] at this
    rw [this, Option.bind_some]
    cases hk : t.all tellB
    · simp [onSum]
    · simp only [onSum, hl, hk, and_self, if_true]
      rw [show (ByteArray.mk #[]) ++ R t t.length 0 0 = R t t.length 0 0 from ByteArray.empty_append]
  · rw [if_pos (by simp; omega), if_neg (by simp; omega)]
end Go.Am.Tryd
