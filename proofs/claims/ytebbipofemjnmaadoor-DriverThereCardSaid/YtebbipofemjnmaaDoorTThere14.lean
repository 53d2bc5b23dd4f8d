/- DriverThere: what Trace tells of any list that is brought into range Retrace reads as the same entries. -/
import Derived.Test.YtebbipofemjnmaaDoorTRef14
namespace Go.Am.Tryd
open Go.Proofs Go.Am Go.RowKit
set_option maxRecDepth 100000
set_option linter.unusedVariables false

def rlga (m : Int) : UInt8 := if m = 0 then 114 else if m = 1 then 108 else if m = 2 then 103 else 97
theorem rlga_ok (m : Int) : okByte (rlga m) = true := by
  unfold rlga
  split
  · rfl
  · split
    · rfl
    · split <;> rfl
theorem rlga_at (m : Int) (h0 : 0 ≤ m) (h3 : m < 4) : Go.strOfNums (List.map (fun x => x) [Go.Am.bt (ByteArray.mk #[(114 : UInt8), (108 : UInt8), (103 : UInt8), (97 : UInt8)]) m]) = S [rlga m] := by
  rcases (show m = 0 ∨ m = 1 ∨ m = 2 ∨ m = 3 by omega) with h | h | h | h <;> subst h <;> rfl
theorem bt_range (s : ByteArray) (i : Nat) (h : i < s.size) : 0 ≤ bt s (i : Int) ∧ bt s (i : Int) < 256 := by
  obtain ⟨b, _, h2⟩ := bt_at s i h
  have := b.toNat_lt
  rw [h2]; omega
theorem rem4 (n : Int) (h : 0 ≤ n) : 0 ≤ rem n 4 ∧ rem n 4 < 4 := by
  unfold rem
  constructor
  · exact Int.tmod_nonneg 4 h
  · exact Int.tmod_lt_of_pos n (by omega)
theorem plain_heads (K : Nat) (t : List S38) (i : Nat) (hi : i < t.length) : ∀ (m x q : Nat) (l : List UInt8), q + m = min 64 (nth t i).f0.size → l.length = q → l.all okByte = true →
    ∃ l' : List UInt8, l'.length ≤ 64 ∧ l'.all okByte = true ∧ junctionlaw14_plain.l2 K (m + x + 1) t (i : Int) (S l) (q : Int) = some ((S l', ()), ())
  | 0, x, q, l, hq, hl, hok => by
    refine ⟨l, by omega, hok, ?_⟩
    rw [junctionlaw14_plain.l2]
    unfold junctionlaw14_plain.l1
    rw [if_pos (by omega), Int.toNat_natCast]
    change Option.bind (if decide ((q : Int) < (((nth t i).f0.size : Nat) : Int)) = true then _ else _) _ = _
    by_cases h : q < (nth t i).f0.size
    · rw [if_pos (by simpa using h), if_neg (by simp; omega)]
      rfl
    · rw [if_neg (by simpa using h)]
      rfl
  | m + 1, x, q, l, hq, hl, hok => by
    have hr := bt_range (nth t i).f0 q (by omega)
    have h4 := rem4 _ hr.1
    obtain ⟨l', h1, h2, h3⟩ := plain_heads K t i hi m x (q + 1) (l ++ [rlga (rem (bt (nth t i).f0 (q : Int)) 4)]) (by omega) (by simp; omega) (by rw [List.all_append, hok]; simp [rlga_ok])
    refine ⟨l', h1, h2, ?_⟩
    rw [show m + 1 + x + 1 = m + x + 1 + 1 by omega, junctionlaw14_plain.l2]
    unfold junctionlaw14_plain.l1
    rw [if_pos (by omega), Int.toNat_natCast]
    change Option.bind (if decide ((q : Int) < (((nth t i).f0.size : Nat) : Int)) = true then _ else _) _ = _
    rw [if_pos (by simp; omega), if_pos (by simp; omega), Option.bind_some]
    simp only [onSum]
    rw [if_pos (by omega)]
    change (if 0 ≤ (q : Int) ∧ (q : Int) < (((nth t i).f0.size : Nat) : Int) then (if 0 ≤ rem (bt (nth t i).f0 (q : Int)) 4 ∧ rem (bt (nth t i).f0 (q : Int)) 4 < ((4 : Nat) : Int) then
      tooLong ((S l).size + (Go.strOfNums (List.map (fun x => x) [bt (ByteArray.mk #[(114 : UInt8), (108 : UInt8), (103 : UInt8), (97 : UInt8)]) (rem (bt (nth t i).f0 (q : Int)) 4)])).size)
        (junctionlaw14_plain.l2 K (m + x + 1) t (i : Int) (S l ++ Go.strOfNums (List.map (fun x => x) [bt (ByteArray.mk #[(114 : UInt8), (108 : UInt8), (103 : UInt8), (97 : UInt8)]) (rem (bt (nth t i).f0 (q : Int)) 4)])) (IntKind.wrap IntKind.i64 ((q : Int) + 1))) else none) else none) = _
    rw [if_pos (by omega), if_pos (by omega), rlga_at _ h4.1 h4.2, S_size, S_size, fit (by simp; omega), IntWalk.i64_in _ (by omega), show S l ++ S [rlga (rem (bt (nth t i).f0 (q : Int)) 4)] = S (l ++ [rlga (rem (bt (nth t i).f0 (q : Int)) 4)]) from by apply ByteArray.ext; simp [S], show ((q : Int) + 1) = ((q + 1 : Nat) : Int) by omega, h3]
theorem rem256 (n : Int) : -256 < rem n 256 ∧ rem n 256 < 256 := by
  unfold rem
  rcases Int.le_total 0 n with h | h
  · have := Int.tmod_nonneg 256 h
    have := Int.tmod_lt_of_pos n (show (0 : Int) < 256 by omega)
    omega
  · have h1 := Int.tmod_nonneg 256 (show 0 ≤ -n by omega)
    have h2 := Int.tmod_lt_of_pos (-n) (show (0 : Int) < 256 by omega)
    rw [Int.neg_tmod] at h1 h2
    omega
theorem plain_loop (K : Nat) (hK : 70000 ≤ K) (t : List S38) : ∀ (m x i : Nat) (b0 : List S38), i + m = min 65536 t.length → b0.length = i → b0.all tellB = true →
    ∃ b' : List S38, b'.length ≤ 65536 ∧ b'.all tellB = true ∧ junctionlaw14_plain.l4 K (m + x + 1) t (i : Int) b0 = some (((), ()), b', ())
  | 0, x, i, b0, hi, hl, hok => by
    refine ⟨b0, by omega, hok, ?_⟩
    rw [junctionlaw14_plain.l4]
    unfold junctionlaw14_plain.l0
    by_cases h : i < t.length
    · rw [if_pos (by simpa using h), if_neg (by simp; omega)]
      rfl
    · rw [if_neg (by simpa using h)]
      rfl
  | m + 1, x, i, b0, hi, hl, hok => by
    obtain ⟨l', h1, h2, h3⟩ := plain_heads K t i (by omega) (min 64 (nth t i).f0.size) (K - min 64 (nth t i).f0.size - 1) 0 [] (by omega) rfl rfl
    rw [show min 64 (nth t i).f0.size + (K - min 64 (nth t i).f0.size - 1) + 1 = K by omega, show ((0 : Nat) : Int) = 0 from rfl] at h3
    have h6 := rem256 (nth t i).f1
    have e3 : ∃ g, -1 ≤ g ∧ g ≤ 255 ∧ junctionlaw14_plain.l3 K (rem (nth t i).f1 256) = some ((g, ()), ()) := by
      unfold junctionlaw14_plain.l3
      by_cases h : rem (nth t i).f1 256 < 0
      · exact ⟨-1, by omega, by omega, by rw [if_pos (by simpa using h)]⟩
      · exact ⟨rem (nth t i).f1 256, by omega, by omega, by rw [if_neg (by simpa using h)]⟩
    obtain ⟨g, g1, g2, g3⟩ := e3
    obtain ⟨b', k1, k2, k3⟩ := plain_loop K hK t m x (i + 1) (b0 ++ [⟨S l', g⟩]) (by omega) (by simp; omega) (by
      rw [List.all_append, hok]
      simp only [List.all_cons, List.all_nil, Bool.and_true, Bool.true_and]
      unfold tellB
      rw [S_size, S_list]
      simp [h1, g1, g2, h2])
    refine ⟨b', k1, k2, ?_⟩
    rw [show m + 1 + x + 1 = m + x + 1 + 1 by omega, junctionlaw14_plain.l4]
    unfold junctionlaw14_plain.l0
    rw [if_pos (by simp; omega), if_pos (by simp; omega), Option.bind_some]
    simp only [onSum]
    rw [show (ByteArray.mk #[]) = S [] from rfl, h3, Option.bind_some, if_pos (by omega), Int.toNat_natCast]
    unfold nth at g3
    rw [g3, Option.bind_some, room_pos (by unfold capBytes; simp; omega), IntWalk.i64_in _ (by omega), show ((i : Int) + 1) = ((i + 1 : Nat) : Int) by omega, k3]
theorem plain_ok (K : Nat) (hK : 70000 ≤ K) (t : List S38) : ∃ b' : List S38, b'.length ≤ 65536 ∧ b'.all tellB = true ∧ junctionlaw14_plain K t = some (b', ()) := by
  obtain ⟨b', h1, h2, h3⟩ := plain_loop K hK t (min 65536 t.length) (K - min 65536 t.length - 1) 0 [] (by omega) rfl rfl
  rw [show min 65536 t.length + (K - min 65536 t.length - 1) + 1 = K by omega, show ((0 : Nat) : Int) = 0 from rfl] at h3
  refine ⟨b', h1, h2, ?_⟩
  unfold junctionlaw14_plain
  rw [h3]
  rfl
theorem there_law (t : List S38) {p : Prop} (h : t.length * 24 ≤ 140737488351232 ∧ p) : junctionlaw14_DriverThere 100000000 t = some (true, ()) := by
  obtain ⟨b, h1, h2, h3⟩ := plain_ok 100000000 (by omega) t
  have ht : (told b).2 = 0 := by unfold told; rw [if_pos ⟨h1, h2⟩]
  have hs : (told b).1.size ≤ 200 * 65536 := by
    unfold told
    rw [if_pos ⟨h1, h2⟩]
    have := R_size b h2 h1 b.length 0 0 (by omega) (by omega)
    simp only
    omega
  unfold junctionlaw14_DriverThere
  rw [show ([Go.Am.Tryd.S38.mk (ByteArray.mk #[(114 : UInt8)]) (-1 : Int)] : List S38) = [⟨S [114], -1⟩] from rfl, drv_trace _ _ (by omega), Option.bind_some]
  unfold junctionlaw14_DriverThere.l0
  simp only
  rw [one_told.1, one_told.2, show ByteArray.mk #[(48 : UInt8), (32 : UInt8), (114 : UInt8), (32 : UInt8), (45 : UInt8), (10 : UInt8)] = S [48, 32, 114, 32, 45, 10] from rfl, isS, if_pos (by simp), if_neg (by simp), Option.bind_some]
  simp only [onSum]
  rw [h3, Option.bind_some, drv_trace _ b (by omega), Option.bind_some, ht, if_neg (by simp)]
  simp only
  rw [drv_complete 100000000 b ht (by omega) (by omega), Option.bind_some, if_pos (by simp)]
  simp only
  rw [same_self _ b (by omega) (by omega)]
  rfl
end Go.Am.Tryd
