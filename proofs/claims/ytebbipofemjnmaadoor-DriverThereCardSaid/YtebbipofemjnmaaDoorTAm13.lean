/- Numbers of blocks turned; what is no longer named is let go. -/
import Derived.Test.YtebbipofemjnmaaDoorTAm12
import Derived.LoopN
namespace Go.Am
noncomputable section
open Go.RowKit
variable {κ : Kinds} {E : Encs κ} {F F' : Nat → Option Obj} {φ φ' : Nat → Option Pl} {P : Program} {C : Ctx κ} {a : Act} {w w' : World} {s s' : St κ}

mutual
def AV.ren (ρ : Nat → Option Nat) : AV κ → AV κ
  | .own k i => match ρ i with | some j => .own k j | none => .bot
  | .ptr i o => match ρ i with | some j => .ptr j o | none => .bot
  | .ptrE k i r c => match ρ i with | some j => .ptrE k j r c | none => .bot
  | .optr i => match ρ i with | some j => .optr j | none => .bot
  | .agg cs => .agg (renL ρ cs)
  | .tup cs => .tup (renL ρ cs)
  | .fn f cs => .fn f (renL ρ cs)
  | .rop cs => .rop (renL ρ cs)
  | v => v
def renL (ρ : Nat → Option Nat) : List (AV κ) → List (AV κ)
  | [] => []
  | c :: cs => c.ren ρ :: renL ρ cs
end
theorem renL_get (ρ : Nat → Option Nat) : ∀ (cs : List (AV κ)) (j : Nat), (renL ρ cs)[j]? = (cs[j]?).map (AV.ren ρ)
  | [], j => by simp [renL]
  | c :: cs, 0 => by simp [renL]
  | c :: cs, j + 1 => by simp [renL, renL_get ρ cs j]
theorem renL_length (ρ : Nat → Option Nat) : ∀ (cs : List (AV κ)), (renL ρ cs).length = cs.length
  | [] => rfl
  | c :: cs => by simp [renL, renL_length ρ cs]
theorem ren_flat (ρ : Nat → Option Nat) {c : AV κ} (h : c.flat = true) : c.ren ρ = c := by
  cases c <;> simp [AV.flat] at h <;> simp [AV.ren]

theorem renL_flat (ρ : Nat → Option Nat) : ∀ {cs : List (AV κ)}, (∀ c ∈ cs, c.flat = true) → renL ρ cs = cs
  | [], _ => rfl
  | c :: cs, h => by rw [renL, ren_flat ρ (h c List.mem_cons_self), renL_flat ρ fun c hc => h c (List.mem_cons_of_mem _ hc)]
theorem Rep.ren {ρ : Nat → Option Nat} (hφ : ∀ i j, ρ i = some j → φ' j = φ i) (hE : E.Ok) {v : AV κ} {u : Value} (h : Rep E F φ v u) : Rep E F φ' (v.ren ρ) u := by
  induction h with
  | bot u => exact .bot u
  | val v => exact .val v
  | agg cs us hl _ ih =>
    refine .agg _ us (by rw [renL_length]; exact hl) fun j c u hc hu => ?_
    rw [renL_get] at hc
    obtain ⟨c', hc', rfl⟩ := Option.map_eq_some_iff.1 hc
    exact ih j c' u hc' hu
  | tup cs us hl _ ih =>
    refine .tup _ us (by rw [renL_length]; exact hl) fun j c u hc hu => ?_
    rw [renL_get] at hc
    obtain ⟨c', hc', rfl⟩ := Option.map_eq_some_iff.1 hc
    exact ih j c' u hc' hu
  | ro k xs b off cap us hcap hc _ ih =>
    refine .ro k xs b off cap us hcap hc fun r x j c hx hj => ?_
    have := ih r x j c hx hj
    rwa [ren_flat ρ (hE.flat k x c (List.mem_of_getElem? hj))] at this
  | roNil k => exact .roNil k
  | roEmp k a cap => exact .roEmp k a cap
  | rop cs b off us hc _ ih =>
    refine .rop _ b off us (fun j hj => hc j (by rwa [renL_length] at hj)) fun j c hj => ?_
    rw [renL_get] at hj
    obtain ⟨c', hc', rfl⟩ := Option.map_eq_some_iff.1 hj
    exact ih j c' hc'
  | arr k xs u _ ih =>
    refine .arr k xs u ?_
    have : AV.ren ρ (.agg (xs.flatMap (E.enc k))) = .agg (xs.flatMap (E.enc k)) := by rw [AV.ren, renL_flat ρ (flats hE)]
    rwa [this] at ih
  | tab k xs b hx _ ih =>
    refine .tab k xs b hx ?_
    have : AV.ren ρ (.rop (xs.flatMap (E.enc k))) = .rop (xs.flatMap (E.enc k)) := by rw [AV.ren, renL_flat ρ (flats hE)]
    rwa [this] at ih
  | own k j p g h hg =>
    unfold AV.ren
    split
    · rename_i j' hj; exact .own k _ p g (by rw [hφ _ _ hj]; exact h) hg
    · exact .bot _
  | ownNil k j p h hg =>
    unfold AV.ren
    split
    · rename_i j' hj; exact .ownNil k _ p (by rw [hφ _ _ hj]; exact h) hg
    · exact .bot _
  | ptr j off p g h hg =>
    unfold AV.ren
    split
    · rename_i j' hj; exact .ptr _ off p g (by rw [hφ _ _ hj]; exact h) hg
    · exact .bot _
  | ptrE k j row col p g h hg hr =>
    unfold AV.ren
    split
    · rename_i j' hj; exact .ptrE k _ row col p g (by rw [hφ _ _ hj]; exact h) hg hr
    · exact .bot _
  | optrN j =>
    unfold AV.ren
    split
    · exact .optrN _
    · exact .bot _
  | optr j p g h hg =>
    unfold AV.ren
    split
    · rename_i j' hj; exact .optr _ p g (by rw [hφ _ _ hj]; exact h) hg
    · exact .bot _
  | fn f cs us hl _ ih =>
    refine .fn f _ us (by rw [renL_length]; exact hl) fun j c u hc hu => ?_
    rw [renL_get] at hc
    obtain ⟨c', hc', rfl⟩ := Option.map_eq_some_iff.1 hc
    exact ih j c' u hc' hu

def Blk.ren (ρ : Nat → Option Nat) : Blk κ → Blk κ
  | .raw t cs => .raw t (renL ρ cs)
  | b => b
theorem OwnB.ren (hE : E.Ok) {ρ : Nat → Option Nat} (hφ : ∀ i j, ρ i = some j → φ' j = φ i) {i j : Nat} {b : Blk κ} (hj : φ' j = φ i) (h : OwnB E F φ w i b) : OwnB E F φ' w j (b.ren ρ) := by
  cases b with
  | dead => exact hj.trans h
  | raw t cs =>
    obtain ⟨p, g, cur, h1, h2, h3, h4, h5⟩ := h
    refine ⟨p, g, cur, hj.trans h1, h2, h3, by rw [renL_length]; exact h4, fun j c u hc hu => ?_⟩
    rw [renL_get] at hc
    obtain ⟨c', hc', rfl⟩ := Option.map_eq_some_iff.1 hc
    exact (h5 j c' u hc' hu).ren hφ hE
  | rows k xs =>
    obtain ⟨p, h1, h2, hh⟩ := h
    refine ⟨p, hj.trans h1, h2, ?_⟩
    rcases hh with hh | ⟨g, cur, h3, h4, h5, h6, h7, h8⟩
    · exact .inl hh
    · refine .inr ⟨g, cur, h3, h4, h5, h6, h7, fun r x j c u hx hc hu => ?_⟩
      exact ((h8 r x j c u hx hc hu).flat hE (hE.flat k x c (List.mem_of_getElem? hc))).1

mutual
def AV.refs : AV κ → List Nat
  | .own _ i | .ptr i _ | .ptrE _ i _ _ | .optr i => [i]
  | .agg cs | .tup cs | .fn _ cs | .rop cs => refsL cs
  | _ => []
def refsL : List (AV κ) → List Nat
  | [] => []
  | c :: cs => c.refs ++ refsL cs
end
def nub (l : List Nat) : List Nat := l.foldl (fun acc i => if acc.contains i then acc else acc ++ [i]) []
theorem nub_nodup (l : List Nat) : (nub l).Nodup := by
  have : ∀ (l acc : List Nat), acc.Nodup → (l.foldl (fun acc i => if acc.contains i then acc else acc ++ [i]) acc).Nodup := by
    intro l
    induction l with
    | nil => exact fun _ h => h
    | cons i l ih =>
      intro acc h
      simp only [List.foldl_cons]
      refine ih _ ?_
      split
      · exact h
      · rename_i hc
        rw [List.nodup_append]
        refine ⟨h, by simp, fun x hx y hy => ?_⟩
        simp at hy
        subst hy
        intro e
        subst e
        exact hc (by simpa using hx)
  exact this l [] (by simp)
/-- The blocks that are named from these, those in them too (as deep as n). -/
def reach (S : List (Blk κ)) : Nat → List Nat → List Nat
  | 0, l => l
  | n + 1, l => reach S n (nub (l ++ l.flatMap fun i => match (S[i]? : Option (Blk κ)) with | some (Blk.raw _ cs) => refsL cs | _ => []))
def sels (S : List (Blk κ)) (l : List Nat) : List (Blk κ) := l.map fun i => (S[i]?).getD .dead
def pos (l : List Nat) (i : Nat) : Option Nat := if l.idxOf i < l.length then some (l.idxOf i) else none

/-- The blocks that these temporaries name. -/
def ids (m : Nat) (live : List Nat) (s : St κ) : List Nat := nub (reach s.S 3 (nub (List.range m ++ refsL (live.map s.get))))
/-- Only these temporaries stay, and what they name. -/
def gc (m : Nat) (live : List Nat) (s : St κ) : St κ :=
  let l := ids m live s
  { env := live.map fun t => (s.get t).ren (pos l), S := (sels s.S l).map (Blk.ren (pos l)), al := [] }

theorem pos_spec {l : List Nat} {i j : Nat} (h : pos l i = some j) : l[j]? = some i := by
  unfold pos at h
  split at h
  · rename_i hlt
    obtain rfl := Option.some.inj h
    rw [List.getElem?_eq_getElem hlt, List.getElem_idxOf hlt]
  · cases h

/-- A narrower view: some temporaries (their values in a row), the blocks that they name. -/
structure Seen (E : Encs κ) (vs : List (AV κ)) (us : List Value) (w : World) (S : List (Blk κ)) (F : Nat → Option Obj) (φ : Nat → Option Pl) : Prop where
  rel : Rel E F φ S w
  reps : Reps E F φ vs us

def selφ (φ : Nat → Option Pl) (l : List Nat) (n : Nat) : Nat → Option Pl := fun j => (l[j]?).bind fun i => if i < n then φ i else none

theorem gc_seen (hE : E.Ok) (hr : Rel E F φ s.S w) {m : Nat} {live : List Nat} {us : List Value} (h : Reps E F φ (live.map s.get) us) :
    Seen E (gc m live s).env us w (gc m live s).S F (selφ φ (ids m live s) s.S.length) ∧ Mv w F φ w F (selφ φ (ids m live s) s.S.length) := by
  let l := ids m live s
  have hl : l.Nodup := nub_nodup _
  have hφ : ∀ i j, pos l i = some j → selφ φ l s.S.length j = φ i := fun i j hij => by
    have := pos_spec hij
    simp only [selφ, this, Option.bind_some]
    split
    · rfl
    · rename_i hn; exact (hr.out i (by omega)).symm
  have inj : ∀ {i j : Nat} {p : Pl}, selφ φ l s.S.length i = some p → l[i]? = some j → φ j = some p := fun h1 h2 => by
    simp only [selφ, h2, Option.bind_some] at h1
    split at h1
    · exact h1
    · cases h1
  have get : ∀ {i : Nat} {p : Pl}, selφ φ l s.S.length i = some p → ∃ j, l[i]? = some j ∧ φ j = some p := fun {i p} h1 => by
    cases hi : l[i]? with
    | none => simp [selφ, hi] at h1
    | some j => exact ⟨j, rfl, inj h1 hi⟩
  refine ⟨⟨⟨hr.frz, fun i b hb => ?_, fun i hi => ?_, fun i j p q g h1 h2 h3 h4 => ?_, fun i p g h1 h2 => ?_, fun i p g h1 h2 => ?_⟩, ?_⟩, ?_⟩
  · simp only [gc, sels, List.getElem?_map] at hb
    obtain ⟨b1, hb1, rfl⟩ := Option.map_eq_some_iff.1 hb
    obtain ⟨i0, hi0, rfl⟩ := Option.map_eq_some_iff.1 hb1
    cases hS : s.S[i0]? with
    | none =>
      have hge : ¬ i0 < s.S.length := fun hlt => by rw [List.getElem?_eq_getElem hlt] at hS; cases hS
      show OwnB E F _ w i (Blk.ren _ .dead)
      show selφ φ l s.S.length i = none
      have : l[i]? = some i0 := hi0
      simp only [selφ, this, Option.bind_some, if_neg hge]
    | some b2 =>
      have hlt : i0 < s.S.length := (List.getElem?_eq_some_iff.1 hS).1
      have e : selφ φ l s.S.length i = φ i0 := by
        have : l[i]? = some i0 := hi0
        simp only [selφ, this, Option.bind_some, if_pos hlt]
      exact OwnB.ren hE hφ e (hr.blk i0 b2 hS)
  · simp only [gc, sels, List.length_map] at hi
    have : (ids m live s)[i]? = none := List.getElem?_eq_none hi
    simp [selφ, l, this]
  · obtain ⟨i', hi', h5⟩ := get h1
    obtain ⟨j', hj', h6⟩ := get h2
    have e := hr.inj i' j' p q g h5 h6 h3 h4
    subst e
    exact (List.getElem?_inj (List.getElem?_eq_some_iff.1 hi').1 hl).1 (hi'.trans hj'.symm)
  · obtain ⟨i', _, h5⟩ := get h1
    exact hr.apart i' p g h5 h2
  · obtain ⟨i', _, h5⟩ := get h1
    exact hr.lt i' p g h5 h2
  · refine ⟨by simp [gc, ← h.1], fun j c u hc hu => ?_⟩
    simp only [gc, List.getElem?_map] at hc
    obtain ⟨t, ht, rfl⟩ := Option.map_eq_some_iff.1 hc
    exact (h.2 j (s.get t) u (by simp [ht]) hu).ren hφ hE
  · refine ⟨rfl, rfl, rfl, Nat.le_refl _, fun _ _ _ => rfl, fun b hb _ => ?_, Le.refl F, fun b o h1 h2 => by rw [h2] at h1; cases h1⟩
    obtain ⟨i, p, h1, h2⟩ := hb
    obtain ⟨i', _, h5⟩ := get h1
    exact ⟨i', p, h5, h2⟩
end
end Go.Am
