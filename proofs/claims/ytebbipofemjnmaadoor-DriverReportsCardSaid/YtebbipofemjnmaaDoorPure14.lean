/- Every fault: the driver's report is the document's. -/
import Derived.Test.YtebbipofemjnmaaDoorWords14
namespace Go.Am.Tryd
open Go.Proofs Go.Am Go.RowKit
set_option maxRecDepth 100000

/-- Of one number: the words of both layers, and the layer's word. -/
noncomputable def chk (n : Int) : Bool :=
  match driver_words1 0 n, driver_words2 0 n, driver_words3 0 n, junctionref14_saying 0 n with
  | some (a, u1), some (b, u2), some (c, u3), some ((s, f, u4), u5) =>
    (a.data.toList ++ b.data.toList ++ c.data.toList == s.data.toList) && (f == !(s.data.toList == [])) && decide (a.size ≤ 100) && decide (b.size ≤ 100) && decide (c.size ≤ 100)
  | _, _, _, _ => false
noncomputable def chp (n : Int) : Bool :=
  match junctionref14_saying 0 n, junctionref14_Phase 0 n 0 0 with
  | some ((s, f, u1), u2), some (p, u3) => f == false || (decide (p.data.toList = (List.getD tab0 (Int.toNat (quo IntKind.i64 n 10)) ByteArray.empty).data.toList) && decide (0 ≤ quo IntKind.i64 n 10) && decide (quo IntKind.i64 n 10 < 20) && decide (p.size ≤ 100))
  | _, _ => false
theorem chk_all : ∀ n : Fin 200, chk (n.val : Int) = true := by decide +kernel
theorem chp_all : ∀ n : Fin 200, n.val = 0 ∨ chp (n.val : Int) = true := by decide +kernel


theorem out1 (n : Int) (h : n < 0 ∨ 200 ≤ n) : driver_words1 100 n = some (ByteArray.mk #[], ()) := by
  unfold driver_words1
  repeat (rw [if_neg (by simp; omega)])
theorem out2 (n : Int) (h : n < 0 ∨ 200 ≤ n) : driver_words2 100 n = some (ByteArray.mk #[], ()) := by
  unfold driver_words2
  repeat (rw [if_neg (by simp; omega)])
theorem out3 (n : Int) (h : n < 0 ∨ 200 ≤ n) : driver_words3 100 n = some (ByteArray.mk #[], ()) := by
  unfold driver_words3
  repeat (rw [if_neg (by simp; omega)])
theorem outs1 (n : Int) (h : n < 0 ∨ 200 ≤ n) : junctionref14_saying1 100 n = some ((ByteArray.mk #[], false, ()), ()) := by
  unfold junctionref14_saying1
  repeat (rw [if_neg (by simp; omega)])
theorem outs4 (n : Int) (h : n < 0 ∨ 200 ≤ n) : junctionref14_saying4 100 n = some ((ByteArray.mk #[], false, ()), ()) := by
  unfold junctionref14_saying4
  repeat (rw [if_neg (by simp; omega)])

theorem bytes_eq {a b : ByteArray} (h : a.data.toList = b.data.toList) : a = b := by
  apply ByteArray.ext
  exact Array.toList_inj.1 h
theorem toList_eq (a : ByteArray) : a.toList = a.data.toList := by obtain ⟨⟨l⟩⟩ := a; simp
theorem isEmpty_iff (a : ByteArray) : (a.toList == (ByteArray.mk #[]).toList) = (a.data.toList == []) := by
  rw [toList_eq, toList_eq]

/-- The words of a number, and whether there are any. -/
theorem words (n : Int) : ∃ (w : ByteArray), driver_wordsOf 100 n = some (w, ()) ∧ junctionref14_saying 100 n = some ((w, !(w.data.toList == []), ()), ()) ∧ w.size ≤ 1000 ∧
    ((w.data.toList == []) = false → n ≠ 0 → ∃ p, junctionref14_Phase 100 n 0 0 = some (p, ()) ∧ p = List.getD tab0 (Int.toNat (quo IntKind.i64 n 10)) ByteArray.empty ∧ 0 ≤ quo IntKind.i64 n 10 ∧ quo IntKind.i64 n 10 < 20 ∧ p.size ≤ 100) := by
  by_cases h : n < 0 ∨ 200 ≤ n
  · refine ⟨ByteArray.mk #[], ?_, ?_, by decide, fun h => by simp at h⟩
    · unfold driver_wordsOf
      rw [out1 n h, out2 n h, out3 n h]
      simp only [Option.bind_some]
      rw [small (by decide), small (by decide)]
      rfl
    · unfold junctionref14_saying
      rcases h with h | h
      · rw [if_pos (by simp; omega), outs1 n (.inl h)]; rfl
      · rw [if_neg (by simp; omega), if_neg (by simp; omega), if_neg (by simp; omega), outs4 n (.inr h)]; rfl
  · obtain ⟨m, rfl⟩ : ∃ m : Nat, n = (m : Int) := ⟨n.toNat, by omega⟩
    have hm : m < 200 := by omega
    have h1 := chk_all ⟨m, hm⟩
    have h2 := chp_all ⟨m, hm⟩
    simp only at h1 h2
    unfold chk at h1
    split at h1
    · rename_i a u1 b u2 c u3 s f u4 u5 ea eb ec es
      simp only [Bool.and_eq_true, beq_iff_eq, decide_eq_true_eq] at h1
      obtain ⟨⟨⟨⟨e1, e2⟩, e3⟩, e4⟩, e5⟩ := h1
      have ha : driver_words1 100 (m : Int) = some (a, ()) := ea
      have hb : driver_words2 100 (m : Int) = some (b, ()) := eb
      have hc : driver_words3 100 (m : Int) = some (c, ()) := ec
      have hs : junctionref14_saying 100 (m : Int) = some ((s, f, ()), ()) := es
      have hw : a ++ b ++ c = s := bytes_eq (by simp only [ByteArray.data_append, Array.toList_append]; exact e1)
      refine ⟨s, ?_, ?_, ?_, fun hne hn0 => ?_⟩
      · unfold driver_wordsOf
        rw [ha, hb, hc]
        simp only [Option.bind_some]
        rw [small (by omega), small (by rw [ByteArray.size_append]; omega), hw]
      · rw [hs, e2]
      · rw [← hw, ByteArray.size_append, ByteArray.size_append]; omega
      · rcases h2 with h2 | h2
        · exact absurd (by rw [h2]; rfl) hn0
        · unfold chp at h2
          rw [es] at h2
          split at h2
          · rename_i s' f' u1' u2' p u3' e6 e7
            simp only [Option.some.injEq, Prod.mk.injEq] at e6
            obtain ⟨⟨rfl, rfl, _⟩, _⟩ := e6
            rw [e2, hne] at h2
            simp only [Bool.not_false, Bool.or_eq_true, beq_iff_eq, Bool.and_eq_true, decide_eq_true_eq] at h2
            rcases h2 with h2 | ⟨⟨⟨h3, h4⟩, h5⟩, h6⟩
            · cases h2
            · exact ⟨p, e7, bytes_eq h3, h4, h5, h6⟩
          · cases h2
    · cases h1

theorem phase (n a b : Int) : ∃ p, driver_Phase 100 n a b = some (p, ()) ∧ junctionref14_Phase 100 n a b = some (p, ()) ∧ p.size ≤ 100 := by
  by_cases h0 : n = 0
  · subst h0
    exact ⟨ByteArray.mk #[(111 : UInt8), (107 : UInt8)], rfl, rfl, by decide⟩
  · obtain ⟨w, hw, hs, _, hp⟩ := words n
    cases hb : (w.data.toList == []) with
    | true =>
      refine ⟨ByteArray.mk #[(117 : UInt8), (110 : UInt8), (107 : UInt8), (110 : UInt8), (111 : UInt8), (119 : UInt8), (110 : UInt8)], ?_, ?_, by decide⟩
      · unfold driver_Phase
        rw [if_neg (by simpa using h0), hw]
        simp only [Option.bind_some]
        rw [if_pos (by rw [isEmpty_iff]; exact hb)]
      · unfold junctionref14_Phase
        rw [if_neg (by simpa using h0), hs, hb]
        rfl
    | false =>
      obtain ⟨p, h1, h2, h3, h4, h5⟩ := hp hb h0
      refine ⟨p, ?_, h1, h5⟩
      unfold driver_Phase
      rw [if_neg (by simpa using h0), hw]
      simp only [Option.bind_some]
      rw [if_neg (by rw [isEmpty_iff, hb]; simp), if_pos ⟨h3, by simpa using h4⟩, h2]

theorem law (n a b : Int) (hn : -9223372036854775808 ≤ n ∧ n ≤ 9223372036854775807) (ha : -9223372036854775808 ≤ a ∧ a ≤ 9223372036854775807) (hb : -9223372036854775808 ≤ b ∧ b ≤ 9223372036854775807) :
    junctionlaw14_DriverReports 100 n a b = some (true, ()) := by
  suffices h : ∃ r, driver_Report 100 n a b = some (r, ()) ∧ junctionref14_Report 100 n a b = some (r, ()) by
    obtain ⟨r, h1, h2⟩ := h
    unfold junctionlaw14_DriverReports
    rw [h1, h2]
    simp
  by_cases h0 : n = 0
  · subst h0; exact ⟨_, rfl, rfl⟩
  obtain ⟨w, hw, hs, hwz, _⟩ := words n
  obtain ⟨p, hp1, hp2, hpz⟩ := phase n a b
  have hI : ∀ m, -9223372036854775808 ≤ m ∧ m ≤ 9223372036854775807 → strconv_Itoa 100 m = some (I m, ()) := fun m hm => by
    unfold strconv_Itoa; rw [if_pos hm]; rfl
  have za := I_size a ha
  have zb := I_size b hb
  have zn := I_size n hn
  have l1 : (ByteArray.mk #[(58 : UInt8)]).size = 1 := rfl
  have l2 : (ByteArray.mk #[(58 : UInt8), (32 : UInt8)]).size = 2 := rfl
  have l6 : (ByteArray.mk #[(101 : UInt8), (114 : UInt8), (114 : UInt8), (111 : UInt8), (114 : UInt8), (32 : UInt8)]).size = 6 := rfl
  -- the place
  obtain ⟨x, hx1, hx2, hxz⟩ : ∃ x : ByteArray, driver_Report.l0 100 n a b (ByteArray.mk #[]) = some ((x, ()), ()) ∧ junctionref14_Report.l1 100 n a b (ByteArray.mk #[]) = some ((x, ()), ()) ∧ x.size ≤ 1000 := by
    have hg : Go.Program.eqGuardType (Ctx.P (driver_Report.x 100 [])) (Go.Program.depth (Ctx.P (driver_Report.x 100 []))) (24 : Nat) = Bool.false ∧ Go.Program.stoodInHeld (Ctx.P (driver_Report.x 100 [])) (24 : Nat) = Bool.false := ⟨by kernel_rfl, by kernel_rfl⟩
    by_cases hc : a = 0 ∧ b = 0
    · obtain ⟨rfl, rfl⟩ := hc
      refine ⟨ByteArray.mk #[], ?_, rfl, by decide⟩
      unfold driver_Report.l0
      rw [if_pos hg]
      rfl
    · refine ⟨I a ++ ByteArray.mk #[(58 : UInt8)] ++ I b ++ ByteArray.mk #[(58 : UInt8), (32 : UInt8)], ?_, ?_, ?_⟩
      · unfold driver_Report.l0
        rw [if_pos hg, if_pos (by simp; omega), hI a ha, hI b hb]
        simp only [Option.bind_some]
        rw [small (by first | omega | (simp only [ByteArray.size_append]; omega)), small (by first | omega | (simp only [ByteArray.size_append]; omega)), small (by first | omega | (simp only [ByteArray.size_append]; omega))]
      · unfold junctionref14_Report.l1 junctionref14_Report.l0
        have : (if (a != (0 : Int)) = Bool.false then Option.some ((b != (0 : Int), ()), ()) else Option.some ((Bool.true, ()), ()) : Option ((Bool × Unit) × Unit)) = some ((true, ()), ()) := by
          split
          · rename_i h1; have : b ≠ 0 := by simp at h1; omega
            simp [this]
          · rfl
        rw [this]
        simp only [Option.bind_some, if_true]
        rw [dec11 a ha, dec11 b hb]
        simp only [Option.bind_some]
        rw [small (by first | omega | (simp only [ByteArray.size_append]; omega)), small (by first | omega | (simp only [ByteArray.size_append]; omega)), small (by first | omega | (simp only [ByteArray.size_append]; omega))]
      · simp only [ByteArray.size_append]; omega
  -- the words
  obtain ⟨y, hy1, hy2, hyz⟩ : ∃ y : ByteArray, driver_Report.l1 100 n a b w = some ((y, ()), ()) ∧ junctionref14_Report.l2 100 n a b w (!(w.data.toList == [])) = some ((y, ()), ()) ∧ y.size ≤ 2000 := by
    cases hb' : (w.data.toList == []) with
    | true =>
      refine ⟨ByteArray.mk #[(101 : UInt8), (114 : UInt8), (114 : UInt8), (111 : UInt8), (114 : UInt8), (32 : UInt8)] ++ I n, ?_, ?_, ?_⟩
      · unfold driver_Report.l1
        rw [if_pos (by rw [isEmpty_iff]; exact hb'), hI n hn]
        simp only [Option.bind_some]
        rw [small (by omega)]
      · unfold junctionref14_Report.l2
        rw [if_pos (by simp), dec11 n hn]
        simp only [Option.bind_some]
        rw [small (by omega)]
      · simp only [ByteArray.size_append]; omega
    | false =>
      refine ⟨w, ?_, rfl, by omega⟩
      unfold driver_Report.l1
      rw [if_neg (by rw [isEmpty_iff, hb']; simp)]
  refine ⟨x ++ p ++ ByteArray.mk #[(58 : UInt8), (32 : UInt8)] ++ y, ?_, ?_⟩
  · unfold driver_Report
    rw [if_neg (by simpa using h0), hx1, hw]
    simp only [Option.bind_some]
    rw [hy1, hp1]
    simp only [Option.bind_some]
    rw [small (by omega), small (by first | omega | (simp only [ByteArray.size_append]; omega)), small (by first | omega | (simp only [ByteArray.size_append]; omega))]
  · unfold junctionref14_Report
    rw [if_neg (by simpa using h0), hx2, hs]
    simp only [Option.bind_some]
    rw [hy2, hp2]
    simp only [Option.bind_some]
    rw [small (by omega), small (by first | omega | (simp only [ByteArray.size_append]; omega)), small (by first | omega | (simp only [ByteArray.size_append]; omega))]
theorem wf64 {n : Int} (h : (Lit.int .i64 n).wf = true) : -9223372036854775808 ≤ n ∧ n ≤ 9223372036854775807 := by
  have h1 : IntKind.i64.min = -9223372036854775808 := by decide
  have h2 : IntKind.i64.max = 9223372036854775807 := by decide
  simp [Lit.wf, h1, h2] at h
  exact h
theorem law0 (n a b : Int) (hn : (Lit.int .i64 n).wf = true) (ha : (Lit.int .i64 a).wf = true) (hb : (Lit.int .i64 b).wf = true) : junctionlaw14_DriverReports 100 n a b = some (true, ()) := law n a b (wf64 hn) (wf64 ha) (wf64 hb)
end Go.Am.Tryd
