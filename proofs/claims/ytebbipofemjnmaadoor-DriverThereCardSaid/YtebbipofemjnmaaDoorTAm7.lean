/- Memory of its own: a new block, a block that is written, a block whose place turns. -/
import Derived.Test.YtebbipofemjnmaaDoorTAm6
import Derived.Laws.MakeOwn
namespace Go.Am
open Go.RowKit
variable {κ : Kinds} {E : Encs κ} {F F' : Nat → Option Obj} {φ φ' : Nat → Option Pl} {P : Program} {C : Ctx κ} {a : Act} {w w' : World} {s : St κ} {o : Oper}

def at_ (φ : Nat → Option Pl) (n : Nat) (p : Option Pl) : Nat → Option Pl := fun j => if j = n then p else φ j
theorem at_self (φ : Nat → Option Pl) (n : Nat) (p : Option Pl) : at_ φ n p n = p := by simp [at_]
theorem at_ne (φ : Nat → Option Pl) {n j : Nat} (p : Option Pl) (h : j ≠ n) : at_ φ n p j = φ j := by simp [at_, h]

theorem OwnB.keep {i : Nat} {b : Blk κ} (h : OwnB E F φ w i b) (hi : φ' i = φ i) (hφ : ∀ j p, φ j = some p → φ' j = some p) (hw : ∀ p g ob, φ i = some p → p.g = some g → w.heap[g]? = some ob → w'.heap[g]? = some ob) : OwnB E F φ' w' i b := by
  cases b with
  | dead => exact hi.trans h
  | raw t cs =>
    obtain ⟨p, g, cur, h1, h2, h3, h4, h5⟩ := h
    exact ⟨p, g, cur, hi.trans h1, h2, hw p g _ h1 h2 h3, h4, fun j c u hc hu => (h5 j c u hc hu).place hφ⟩
  | rows k xs =>
    obtain ⟨p, h1, h2, hh⟩ := h
    refine ⟨p, hi.trans h1, h2, ?_⟩
    rcases hh with hh | ⟨g, cur, h3, h4, h5, h6, h7, h8⟩
    · exact .inl hh
    · exact .inr ⟨g, cur, h3, hw p g _ h1 h3 h4, h5, h6, h7, fun r x j c u hx hc hu => (h8 r x j c u hx hc hu).place hφ⟩
theorem OwnB.mono {i : Nat} {b : Blk κ} (h : OwnB E F φ w i b) (hF : Le F F') : OwnB E F' φ w i b := by
  cases b with
  | dead => exact h
  | raw t cs =>
    obtain ⟨p, g, cur, h1, h2, h3, h4, h5⟩ := h
    exact ⟨p, g, cur, h1, h2, h3, h4, fun j c u hc hu => (h5 j c u hc hu).mono hF⟩
  | rows k xs =>
    obtain ⟨p, h1, h2, hh⟩ := h
    refine ⟨p, h1, h2, ?_⟩
    rcases hh with hh | ⟨g, cur, h3, h4, h5, h6, h7, h8⟩
    · exact .inl hh
    · exact .inr ⟨g, cur, h3, h4, h5, h6, h7, fun r x j c u hx hc hu => (h8 r x j c u hx hc hu).mono hF⟩
theorem OwnB.kill (hE : E.Ok) {i j : Nat} {b : Blk κ} (h : OwnB E F φ w j b) (hj : j ≠ i) (hφ : ∀ j, j ≠ i → φ' j = φ j) (hw : ∀ p g ob, φ j = some p → p.g = some g → w.heap[g]? = some ob → w'.heap[g]? = some ob) : OwnB E F φ' w' j (b.kill i) := by
  cases b with
  | dead => exact (hφ j hj).trans h
  | raw t cs =>
    obtain ⟨p, g, cur, h1, h2, h3, h4, h5⟩ := h
    refine ⟨p, g, cur, (hφ j hj).trans h1, h2, hw p g _ h1 h2 h3, by rw [killL_length]; exact h4, fun j c u hc hu => ?_⟩
    rw [killL_get] at hc
    obtain ⟨c', hc', rfl⟩ := Option.map_eq_some_iff.1 hc
    exact (h5 j c' u hc' hu).kill hφ hE
  | rows k xs =>
    obtain ⟨p, h1, h2, hh⟩ := h
    refine ⟨p, (hφ j hj).trans h1, h2, ?_⟩
    rcases hh with hh | ⟨g, cur, h3, h4, h5, h6, h7, h8⟩
    · exact .inl hh
    · refine .inr ⟨g, cur, h3, hw p g _ h1 h3 h4, h5, h6, h7, fun r x j c u hx hc hu => ?_⟩
      exact ((h8 r x j c u hx hc hu).flat hE (hE.flat k x c (List.mem_of_getElem? hc))).1

theorem fresh_good (hg : Good C.E C.glob a w s F φ) (pl : Pl) (hw : w.grownBy w' none) (hpl : ∀ g, pl.g = some g → w.heap.size ≤ g ∧ g < w'.heap.size) {b : Blk κ} (hb : OwnB C.E F (at_ φ s.S.length (some pl)) w' s.S.length b) :
    Good C.E C.glob a w' (s.fresh b) F (at_ φ s.S.length (some pl)) ∧ Mv w F φ w' F (at_ φ s.S.length (some pl)) := by
  have hn := hg.rel.out s.S.length (Nat.le_refl _)
  have hφ : ∀ j p, φ j = some p → at_ φ s.S.length (some pl) j = some p := fun j p h => by
    by_cases hj : j = s.S.length
    · subst hj; rw [hn] at h; cases h
    · rw [at_ne _ _ hj]; exact h
  have old : ∀ j p g ob, φ j = some p → p.g = some g → w.heap[g]? = some ob → w'.heap[g]? = some ob := fun j p g ob h1 h2 h3 => by
    rw [hw.block g (hg.rel.lt j p g h1 h2) (by simp)]; exact h3
  refine ⟨⟨⟨fun x ob h => ?_, fun i c h => ?_, fun i h => ?_, fun i j p q g h1 h2 h3 h4 => ?_, fun i p g h1 h2 => ?_, fun i p g h1 h2 => ?_⟩, fun t v h => (hg.env t v h).place hφ, hg.size, hg.defers, hg.al, hg.glob⟩, ?_⟩
  · have h' := hg.rel.frz x ob h
    rw [hw.block x (Array.getElem?_eq_some_iff.1 h').1 (by simp)]; exact h'
  · simp only [St.fresh] at h
    by_cases hi : i < s.S.length
    · rw [List.getElem?_append_left hi] at h
      exact (hg.rel.blk i c h).keep (at_ne _ _ (by omega)) hφ (old i)
    · rw [List.getElem?_append_right (by omega)] at h
      by_cases hi2 : i = s.S.length
      · subst hi2
        simp at h
        subst h
        exact hb
      · rw [List.getElem?_eq_none (by simp; omega)] at h
        cases h
  · simp only [St.fresh, List.length_append, List.length_cons, List.length_nil] at h
    rw [at_ne _ _ (by omega)]
    exact hg.rel.out i (by omega)
  · by_cases hi : i = s.S.length
    · by_cases hj : j = s.S.length
      · omega
      · subst hi
        rw [at_self] at h1
        rw [at_ne _ _ hj] at h2
        obtain rfl := Option.some.inj h1
        have := hg.rel.lt j q g h2 h4
        have := (hpl g h3).1
        omega
    · by_cases hj : j = s.S.length
      · subst hj
        rw [at_self] at h2
        rw [at_ne _ _ hi] at h1
        obtain rfl := Option.some.inj h2
        have := hg.rel.lt i p g h1 h3
        have := (hpl g h4).1
        omega
      · rw [at_ne _ _ hi] at h1
        rw [at_ne _ _ hj] at h2
        exact hg.rel.inj i j p q g h1 h2 h3 h4
  · by_cases hi : i = s.S.length
    · subst hi
      rw [at_self] at h1
      obtain rfl := Option.some.inj h1
      cases hF : F g with
      | none => rfl
      | some ob =>
        have := (Array.getElem?_eq_some_iff.1 (hg.rel.frz g ob hF)).1
        have := (hpl g h2).1
        omega
    · rw [at_ne _ _ hi] at h1
      exact hg.rel.apart i p g h1 h2
  · by_cases hi : i = s.S.length
    · subst hi
      rw [at_self] at h1
      obtain rfl := Option.some.inj h1
      exact (hpl g h2).2
    · rw [at_ne _ _ hi] at h1
      have := hg.rel.lt i p g h1 h2
      have := hw.size
      omega
  · refine ⟨hw.os, hw.tape, hw.output, hw.size, fun x hx _ => hw.block x hx (by simp), fun x hx hlt => ?_, Le.refl F, fun x ob h1 h2 => by rw [h2] at h1; cases h1⟩
    obtain ⟨i, p, h1, h2⟩ := hx
    by_cases hi : i = s.S.length
    · subst hi
      rw [at_self] at h1
      obtain rfl := Option.some.inj h1
      have := (hpl x h2).1
      omega
    · rw [at_ne _ _ hi] at h1
      exact ⟨i, p, h1, h2⟩

/-- A block of its own is written. -/
theorem set_good (hg : Good C.E C.glob a w s F φ) {i : Nat} {p : Pl} {g : Nat} {cs : Array Value} {b b' : Blk κ} (hS : s.S[i]? = some b) (hp : φ i = some p) (hpg : p.g = some g) (hb : OwnB C.E F φ (w.setRow g cs) i b') :
    Good C.E C.glob a (w.setRow g cs) (s.setB i b') F φ ∧ Mv w F φ (w.setRow g cs) F φ := by
  have hlt : i < s.S.length := (List.getElem?_eq_some_iff.1 hS).1
  have hsz : (w.setRow g cs).heap.size = w.heap.size := by simp [World.setRow]
  refine ⟨⟨⟨fun x ob h => ?_, fun j c h => ?_, fun j h => hg.rel.out j (by simpa [St.setB] using h), hg.rel.inj, hg.rel.apart, fun j q g' h1 h2 => ?_⟩, hg.env, hg.size, hg.defers, hg.al, hg.glob⟩, ?_⟩
  · rw [setRow_other]
    · exact hg.rel.frz x ob h
    · intro e
      subst e
      rw [hg.rel.apart i p x hp hpg] at h
      cases h
  · simp only [St.setB] at h
    by_cases hj : j = i
    · subst hj
      rw [List.getElem?_set_self hlt] at h
      obtain rfl := Option.some.inj h
      exact hb
    · rw [List.getElem?_set_ne (Ne.symm hj)] at h
      refine (hg.rel.blk j c h).keep rfl (fun _ _ h => h) fun q g' ob h1 h2 h3 => ?_
      rw [setRow_other]
      · exact h3
      · intro e
        subst e
        exact hj (hg.rel.inj j i q p g' h1 hp h2 hpg)
  · rw [hsz]; exact hg.rel.lt j q g' h1 h2
  · refine ⟨rfl, rfl, rfl, by omega, fun x hx hn => ?_, fun x hx _ => hx, Le.refl F, fun x ob h1 h2 => by rw [h2] at h1; cases h1⟩
    rw [setRow_other]
    intro e
    subst e
    exact hn ⟨i, p, hp, hpg⟩

/-- A block's place turns: what was known of it is forgotten. -/
theorem turn_good (hE : C.E.Ok) (hg : Good C.E C.glob a w s F φ) {i : Nat} {b b' : Blk κ} (hS : s.S[i]? = some b) {row : Option Nat} (hw : w.grownBy w' row) (hrow : ∀ k, row = some k → ∃ q, φ i = some q ∧ q.g = some k) (np : Option Pl)
    (hnp : ∀ p g, np = some p → p.g = some g → g < w'.heap.size ∧ ((∃ q, φ i = some q ∧ q.g = some g) ∨ w.heap.size ≤ g))
    (hF : Le F F') (hFw : ∀ x ob, F' x = some ob → w'.heap[x]? = some ob) (hFa : ∀ j p g, at_ φ i np j = some p → p.g = some g → F' g = none) (hFn : ∀ x ob, F' x = some ob → F x = none → w.heap.size ≤ x ∨ Held φ x)
    (hb : OwnB C.E F' (at_ φ i np) w' i b') : Good C.E C.glob a w' (s.turn i b') F' (at_ φ i np) ∧ Mv w F φ w' F' (at_ φ i np) := by
  have hlt : i < s.S.length := (List.getElem?_eq_some_iff.1 hS).1
  have hφ : ∀ j, j ≠ i → at_ φ i np j = φ j := fun j hj => at_ne _ _ hj
  have old : ∀ j, j ≠ i → ∀ p g ob, φ j = some p → p.g = some g → w.heap[g]? = some ob → w'.heap[g]? = some ob := fun j hj p g ob h1 h2 h3 => by
    rw [hw.block g (hg.rel.lt j p g h1 h2)]
    · exact h3
    · intro e
      obtain ⟨q, h4, h5⟩ := hrow g e.symm
      exact hj (hg.rel.inj j i p q g h1 h4 h2 h5)
  have news : ∀ p g, np = some p → p.g = some g → ∀ j q, j ≠ i → φ j = some q → q.g ≠ some g := fun p g h1 h2 j q hj h3 h4 => by
    rcases (hnp p g h1 h2).2 with ⟨q', h5, h6⟩ | h5
    · exact hj (hg.rel.inj j i q q' g h3 h5 h4 h6)
    · have := hg.rel.lt j q g h3 h4
      omega
  refine ⟨⟨⟨hFw, fun j c h => ?_, fun j h => ?_, fun j k p q g h1 h2 h3 h4 => ?_, hFa, fun j p g h1 h2 => ?_⟩, fun t v h => ?_, ?_, hg.defers, ?_, fun g ψ => (hg.glob g ψ).mono hF⟩, ?_⟩
  · simp only [St.turn] at h
    by_cases hj : j = i
    · subst hj
      rw [List.getElem?_set_self (by simpa using hlt)] at h
      obtain rfl := Option.some.inj h
      exact hb
    · rw [List.getElem?_set_ne (Ne.symm hj), List.getElem?_map] at h
      obtain ⟨c', hc', rfl⟩ := Option.map_eq_some_iff.1 h
      exact ((hg.rel.blk j c' hc').mono hF).kill hE hj hφ (old j hj)
  · simp only [St.turn, List.length_set, List.length_map] at h
    rw [hφ j (by omega)]
    exact hg.rel.out j h
  · by_cases hj : j = i
    · by_cases hk : k = i
      · omega
      · subst hj
        rw [at_self] at h1
        rw [hφ k hk] at h2
        exact absurd h4 (news p g h1 h3 k q hk h2)
    · by_cases hk : k = i
      · subst hk
        rw [at_self] at h2
        rw [hφ j hj] at h1
        exact absurd h3 (news q g h2 h4 j p hj h1)
      · rw [hφ j hj] at h1
        rw [hφ k hk] at h2
        exact hg.rel.inj j k p q g h1 h2 h3 h4
  · by_cases hj : j = i
    · subst hj
      rw [at_self] at h1
      exact (hnp p g h1 h2).1
    · rw [hφ j hj] at h1
      have := hg.rel.lt j p g h1 h2
      have := hw.size
      omega
  · simp only [St.turn, killL_get] at h
    obtain ⟨v', hv', rfl⟩ := Option.map_eq_some_iff.1 h
    exact ((hg.env t v' hv').mono hF).kill hφ hE
  · simp only [St.turn, killL_length]; exact hg.size
  · simpa [St.turn] using hg.al
  · refine ⟨hw.os, hw.tape, hw.output, hw.size, fun x hx hn => hw.block x hx ?_, fun x hx hlt' => ?_, hF, hFn⟩
    · intro e
      obtain ⟨q, h1, h2⟩ := hrow x e.symm
      exact hn ⟨i, q, h1, h2⟩
    · obtain ⟨j, p, h1, h2⟩ := hx
      by_cases hj : j = i
      · subst hj
        rw [at_self] at h1
        rcases (hnp p x h1 h2).2 with ⟨q, h3, h4⟩ | h3
        · exact ⟨j, q, h3, h4⟩
        · omega
      · rw [hφ j hj] at h1
        exact ⟨j, p, h1, h2⟩
end Go.Am
