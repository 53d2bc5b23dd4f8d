/- Each operation that leaves memory alone does in the program what the machine reckons. -/
import Derived.Test.YtebbipofemjnmaaDoorTAm2
namespace Go.Am
open Go.RowKit
variable {κ : Kinds} {E : Encs κ} {F F' : Nat → Option Obj} {φ φ' : Nat → Option Pl} {P : Program}

theorem pureRun_sound {α : Type} {m : Sem α} {v : α} (h : pureRun P m = some v) (w : World) : m.run P w = .ok v w := by
  induction m with
  | pure a => simp only [pureRun, Option.some.injEq] at h; subst h; rfl
  | program k ih => simp only [pureRun] at h; exact ih P h
  | _ => simp [pureRun] at h

theorem lift_rep (v : Value) : Rep E F φ (lift v : AV κ) v := by
  unfold lift
  split
  · rename_i cs
    refine .agg _ cs (by simp) fun j c u hc hu => ?_
    rw [List.getElem?_map] at hc
    obtain ⟨x, hx, rfl⟩ := Option.map_eq_some_iff.1 hc
    rw [Array.getElem?_toList, hu] at hx
    obtain rfl := Option.some.inj hx
    exact .val _
  · rename_i f cs
    refine .fn f _ cs (by simp) fun j c u hc hu => ?_
    rw [List.getElem?_map] at hc
    obtain ⟨x, hx, rfl⟩ := Option.map_eq_some_iff.1 hc
    rw [Array.getElem?_toList, hu] at hx
    obtain rfl := Option.some.inj hx
    exact .val _
  · exact .val _

variable {C : Ctx κ} {a : Act} {w : World} {s : St κ}

theorem env_rep (h : Good C.E C.glob a w s F φ) (t : Nat) : Rep C.E F φ (s.env.getD t .bot) (a.tmps.getD t undef) := by
  rw [List.getD_eq_getElem?_getD]
  cases ht : s.env[t]? with
  | none => exact .bot _
  | some v => exact h.env t v ht
theorem ev_rep (h : Good C.E C.glob a w s F φ) (x : Operand) : Rep C.E F φ (ev C s x) (a.eval x) := by
  cases x with
  | tmp t => exact env_rep h t
  | const v => exact lift_rep v
  | global g => exact h.glob g φ
  | func f => exact .fn f [] #[] rfl fun j c u hc _ => by simp at hc

/-- All blocks of w lie in w'. -/
def Sub (w w' : World) : Prop := ∀ (b : Nat) (o : Obj), w.heap[b]? = some o → w'.heap[b]? = some o
theorem Sub.refl (w : World) : Sub w w := fun _ _ h => h

theorem cell_at {w : World} {b o : Nat} {c : Array Value} {e : TypeId} {fr : Nat × Nat} (h : w.heap[b]? = some (.cells c e fr)) : w.cell? ⟨b, o, none⟩ = c[o]? := by
  simp [World.cell?, h]
theorem fcell_cell (hF : ∀ b o, F b = some o → w.heap[b]? = some o) {b o : Nat} {v : Value} (h : FCell F b o = some v) : w.cell? ⟨b, o, none⟩ = some v := by
  unfold FCell at h
  split at h
  · rename_i c e fr hb
    rw [cell_at (hF _ _ hb)]; exact h
  · cases h

/-- From a pointer on memory reads as told, in every world that holds what this one holds. -/
theorem cellsAt_sound (hE : C.E.Ok) (h : Good C.E C.glob a w s F φ) {p : AV κ} {u : Value} (hp : Rep C.E F φ p u) {cs : List (AV κ)} (hc : cellsAt C.E s.S p = some cs) :
    ∃ b off, u = .pointer (some ⟨b, off, none⟩) ∧ ∃ us : Nat → Value, (∀ j, j < cs.length → ∀ w', Sub w w' → w'.cell? ⟨b, off + j, none⟩ = some (us j)) ∧ ∀ (j : Nat) (c : AV κ), cs[j]? = some c → Rep C.E F φ c (us j) := by
  cases p with
  | rop cs' =>
    simp only [cellsAt, Option.some.injEq] at hc
    subst hc
    cases hp with
    | rop _ b off us hc h' => exact ⟨b, off, rfl, us, fun j hj w' hw => fcell_cell (fun b o x => hw b o (h.rel.frz b o x)) (hc j hj), h'⟩
  | ptr i off =>
    simp only [cellsAt] at hc
    split at hc
    · rename_i t old hS
      simp only [Option.some.injEq] at hc
      subst hc
      cases hp with
      | ptr _ _ p g hφ hpg =>
        obtain ⟨p', g', cur, h1, hg', h2, h3, h4⟩ := h.rel.blk i _ hS
        obtain rfl := Option.some.inj (hφ.symm.trans h1)
        obtain rfl := Option.some.inj (hpg.symm.trans hg')
        refine ⟨g, off, rfl, fun j => cur.getD (off + j) undef, fun j hj w' hw => ?_, fun j c hj => ?_⟩
        · rw [cell_at (hw _ _ h2)]
          have : off + j < cur.size := by simp at hj; omega
          simp [this]
        · rw [List.getElem?_drop] at hj
          have hlt : off + j < cur.size := by rw [h3]; exact (List.getElem?_eq_some_iff.1 hj).1
          refine h4 _ _ _ hj ?_
          simp [hlt]
    · cases hc
  | ptrE k i row col =>
    simp only [cellsAt] at hc
    split at hc
    · rename_i k' xs hS
      split at hc
      · rename_i hk
        subst hk
        simp only [Option.some.injEq] at hc
        subst hc
        cases hp with
        | ptrE _ _ _ _ p g hφ hpg hr =>
          obtain ⟨p', h1, h4, hh⟩ := h.rel.blk i _ hS
          obtain rfl := Option.some.inj (hφ.symm.trans h1)
          rcases hh with ⟨hn, _⟩ | ⟨g', cur, hg', h2, h3, h5, h6, h7⟩
          · rw [hpg] at hn; cases hn
          obtain rfl := Option.some.inj (hpg.symm.trans hg')
          have hrow : row < xs.length := by omega
          have hget : xs.getD row (C.E.dflt k') = xs[row] := by rw [List.getD_eq_getElem?_getD, List.getElem?_eq_getElem hrow]; rfl
          have hlen := hE.len k' (xs[row])
          have hmul : (row + 1) * κ.sz k' ≤ p.cap * κ.sz k' := Nat.mul_le_mul_right _ (by omega)
          rw [Nat.add_mul, Nat.one_mul] at hmul
          refine ⟨g, row * κ.sz k' + col, rfl, fun j => cur.getD (row * κ.sz k' + col + j) undef, fun j hj w' hw => ?_, fun j c hj => ?_⟩
          · rw [cell_at (hw _ _ h2)]
            rw [hget] at hj
            have : row * κ.sz k' + col + j < cur.size := by simp at hj; omega
            simp [this]
          · rw [hget, List.getElem?_drop] at hj
            have hlt : col + j < κ.sz k' := by rw [← hlen]; exact (List.getElem?_eq_some_iff.1 hj).1
            have hlt2 : row * κ.sz k' + col + j < cur.size := by omega
            refine h7 row _ (col + j) c _ (List.getElem?_eq_getElem hrow) hj ?_
            simp [← Nat.add_assoc, hlt2]
      · cases hc
    · cases hc
  | _ => simp [cellsAt] at hc

theorem info_size {t : TypeId} {i : TypeInfo} (h : P.info? t = some i) : sizeOf? P t = i.size := by simp [sizeOf?, h]
theorem run_sizeOf' {t : TypeId} {i : TypeInfo} (h : P.info? t = some i) (w : World) : (sizeOf t).run P w = .ok i.size w := by
  simp [sizeOf, typeInfo, h]
def aggD : TypeDesc → Bool
  | .struct _ | .array _ _ => true
  | _ => false
theorem run_isAgg' {t : TypeId} {d : TypeDesc} (h : P.underlying t = some d) (w : World) : (isAgg t).run P w = .ok (aggD d) w := by
  unfold isAgg
  simp only [Sem.run_bind, run_underlying h, Result.andThen_ok]
  cases d <;> rfl

theorem part_load {t : TypeId} {cs : List (AV κ)} {v : AV κ} (h : part? P t cs = some v) {us : Nat → Value} (hr : ∀ (j : Nat) (c : AV κ), cs[j]? = some c → Rep E F φ c (us j)) :
    ∃ u, Rep E F φ v u ∧ ∀ (w : World) b off, (∀ j, j < cs.length → w.cell? ⟨b, off + j, none⟩ = some (us j)) → (loadVar t ⟨b, off, none⟩).run P w = .ok u w := by
  unfold part? at h
  have agg : ∀ (i : TypeInfo) (d : TypeDesc), P.underlying t = some d → P.info? t = some i → aggD d = true → (if i.size ≤ cs.length then some (AV.agg (cs.take i.size)) else none) = some v →
      ∃ u, Rep E F φ v u ∧ ∀ (w : World) b off, (∀ j, j < cs.length → w.cell? ⟨b, off + j, none⟩ = some (us j)) → (loadVar t ⟨b, off, none⟩).run P w = .ok u w := by
    intro i d hd hi hb h
    split at h
    · rename_i hle
      simp only [Option.some.injEq] at h
      subst h
      refine ⟨.agg ((List.range i.size).map us).toArray, .agg _ _ (by simp; omega) fun j c u hc hu => ?_, fun w b off hw => ?_⟩
      · rw [List.getElem?_take] at hc
        split at hc
        · rename_i hj
          simp [List.getElem?_range hj] at hu
          subst hu
          exact hr j c hc
        · cases hc
      · have hl := run_loadCells_list (P := P) (w := w) ⟨b, off, none⟩ ((List.range i.size).map us) (fun j v hj => by
          rw [Addr.add_lit]
          rw [List.getElem?_map] at hj
          obtain ⟨x, hx, rfl⟩ := Option.map_eq_some_iff.1 hj
          have hlt : j < i.size := by have := (List.getElem?_eq_some_iff.1 hx).1; simpa using this
          rw [List.getElem?_range hlt] at hx
          obtain rfl := Option.some.inj hx
          exact hw j (by omega))
        simp only [List.length_map, List.length_range] at hl
        simp [loadVar, Sem.run_bind, run_isAgg' hd, hb, run_sizeOf' hi, hl]
    · cases h
  cases hd : P.underlying t with
  | none => simp [hd] at h
  | some d =>
    cases hi : P.info? t with
    | none => rw [hd, hi] at h; cases d <;> simp at h
    | some i =>
      rw [hd, hi] at h
      cases hb : aggD d with
      | true => exact agg i d hd hi hb (by cases d <;> first | exact h | simp [aggD] at hb)
      | false =>
        have h' : cs.head? = some v := by cases d <;> first | exact h | simp [aggD] at hb
        refine ⟨us 0, hr 0 v (by rw [← List.head?_eq_getElem?]; exact h'), fun w b off hw => ?_⟩
        have hc := hw 0 (by cases cs <;> simp at h' ⊢)
        rw [Nat.add_zero] at hc
        simp [loadVar, Sem.run_bind, run_isAgg' hd, hb, load, Sem.run, hc]
end Go.Am
