/- Quiet operations, the rest: places in slices, parts of slices and strings, literals of structs, lengths. -/
import Derived.Test.YtebbipofemjnmaaDoorTAm4
import Derived.Laws.Tables
import Derived.Great.BuildSlice
namespace Go.Am
open Go.RowKit
variable {κ : Kinds} {E : Encs κ} {F F' : Nat → Option Obj} {φ φ' : Nat → Option Pl} {P : Program} {C : Ctx κ} {a : Act} {w : World} {s : St κ} {o : Oper}

theorem upd_eq {α : Type} : ∀ (vs cs : List α) (off : Nat), off + vs.length ≤ cs.length → upd cs off vs = cs.take off ++ vs ++ cs.drop (off + vs.length)
  | [], cs, off, _ => by simp [upd]
  | v :: vs, cs, off, h => by
    simp only [List.length_cons] at h
    unfold upd
    rw [upd_eq vs (cs.set off v) (off + 1) (by simp; omega)]
    have h1 : (cs.set off v).take (off + 1) = cs.take off ++ [v] := by
      rw [List.take_add_one, List.take_set_of_le (by omega), List.getElem?_set_self (by omega)]
      rfl
    have h2 : (cs.set off v).drop (off + 1 + vs.length) = cs.drop (off + (vs.length + 1)) := by
      rw [List.drop_set_of_lt (by omega)]
      congr 1
      omega
    rw [h1, h2]
    simp
theorem upd_length {α : Type} (vs cs : List α) (off : Nat) : (upd cs off vs).length = cs.length := by
  induction vs generalizing cs off with
  | nil => rfl
  | cons v vs ih => unfold upd; rw [ih]; simp
theorem upd_get {α : Type} {vs cs : List α} {off : Nat} (h : off + vs.length ≤ cs.length) (j : Nat) : (upd cs off vs)[j]? = if off ≤ j ∧ j < off + vs.length then vs[j - off]? else cs[j]? := by
  rw [upd_eq vs cs off h, List.append_assoc]
  by_cases h1 : j < off
  · rw [List.getElem?_append_left (by simp; omega), List.getElem?_take, if_pos h1, if_neg (by omega)]
  · rw [List.getElem?_append_right (by simp; omega)]
    have : (cs.take off).length = off := by simp; omega
    rw [this]
    by_cases h2 : j < off + vs.length
    · rw [List.getElem?_append_left (by omega), if_pos ⟨by omega, h2⟩]
    · rw [List.getElem?_append_right (by omega), List.getElem?_drop, if_neg (by omega)]
      congr 1
      omega

/-- Cells that stand for cells. -/
def Reps (E : Encs κ) (F : Nat → Option Obj) (φ : Nat → Option Pl) (cs : List (AV κ)) (us : List Value) : Prop :=
  cs.length = us.length ∧ ∀ (j : Nat) (c : AV κ) (u : Value), cs[j]? = some c → us[j]? = some u → Rep E F φ c u
theorem Reps.upd {cs : List (AV κ)} {us : List Value} {vs : List (AV κ)} {ws : List Value} {off : Nat} (h : Reps E F φ cs us) (k : Reps E F φ vs ws) (hl : off + vs.length ≤ cs.length) : Reps E F φ (upd cs off vs) (upd us off ws) := by
  refine ⟨by rw [upd_length, upd_length]; exact h.1, fun j c u hc hu => ?_⟩
  rw [upd_get hl] at hc
  rw [upd_get (by rw [← k.1, ← h.1]; exact hl)] at hu
  rw [← k.1] at hu
  split at hc
  · rename_i hj
    rw [if_pos hj] at hu
    exact k.2 _ _ _ hc hu
  · rename_i hj
    rw [if_neg hj] at hu
    exact h.2 _ _ _ hc hu
theorem Reps.vals (vs : List Value) : Reps E F φ (vs.map .val) vs := by
  refine ⟨by simp, fun j c u hc hu => ?_⟩
  rw [List.getElem?_map, hu] at hc
  obtain rfl := Option.some.inj hc
  exact .val _

theorem cells_rep {v : AV κ} {u : Value} (h : Rep E F φ v u) (ho : v.cells.all AV.one = true) : Reps E F φ v.cells u.cells.toList ∧ ∀ x ∈ u.cells.toList, x.oneCell' = true := by
  have one : v.one = true → v.cells = [v] → Reps E F φ v.cells u.cells.toList ∧ ∀ x ∈ u.cells.toList, x.oneCell' = true := by
    intro hone hv
    have h1 := h.one hone
    have hu : u.cells = #[u] := by cases u <;> first | rfl | simp [Value.oneCell'] at h1
    rw [hv, hu]
    refine ⟨⟨rfl, fun j c x hc hx => ?_⟩, fun x hx => by simp at hx; subst hx; exact h1⟩
    match j with
    | 0 => simp at hc hx; subst hc; subst hx; exact h
    | j + 1 => simp at hc
  cases v with
  | agg cs =>
    cases h with
    | agg _ us hl hr =>
      refine ⟨⟨by simpa [AV.cells, Value.cells] using hl, fun j c x hc hx => hr j c x hc (by simpa [Value.cells] using hx)⟩, fun x hx => ?_⟩
      simp only [Value.cells] at hx
      obtain ⟨j, hj⟩ := List.getElem?_of_mem hx
      have hlt : j < cs.length := by rw [hl]; simpa using (List.getElem?_eq_some_iff.1 hj).1
      exact (hr j cs[j] x (List.getElem?_eq_getElem hlt) (by simpa using hj)).one (List.all_eq_true.1 ho _ (by simp [AV.cells]))
  | _ => exact one (by simpa [AV.cells] using ho) rfl

theorem foldl_upd : ∀ (l : List Value) (k off : Nat) (A : Array Value), ((l.zipIdx k).foldl (fun cs x => cs.setIfInBounds (off + x.2) x.1) A).toList = upd A.toList (off + k) l
  | [], _, _, _ => rfl
  | v :: l, k, off, A => by
    simp only [List.zipIdx_cons, List.foldl_cons]
    rw [foldl_upd l (k + 1) off (A.setIfInBounds (off + k) v)]
    simp only [Array.toList_setIfInBounds]
    conv => rhs; unfold upd
    rw [Nat.add_assoc]

theorem fill_rep {place : Nat → Option (Nat × Nat)} : ∀ (parts : List (Nat × AV κ)) (vparts : List (Nat × Value)) (cs cs' : List (AV κ)) (A : Array Value), Reps E F φ cs A.toList →
    parts.map (·.1) = vparts.map (·.1) → (∀ (j : Nat) (p : Nat × AV κ) (q : Nat × Value), parts[j]? = some p → vparts[j]? = some q → Rep E F φ p.2 q.2) →
    fillA place cs parts = some cs' → ∃ A', Instr.fill place A vparts = some A' ∧ Reps E F φ cs' A'.toList
  | [], [], cs, cs', A, h, _, _, hf => by simp only [fillA, Option.some.injEq] at hf; subst hf; exact ⟨A, rfl, h⟩
  | [], _ :: _, _, _, _, _, hm, _, _ => by simp at hm
  | _ :: _, [], _, _, _, _, hm, _, _ => by simp at hm
  | (i, v) :: parts, (i', u) :: vparts, cs, cs', A, h, hm, hr, hf => by
    simp only [List.map_cons, List.cons.injEq] at hm
    obtain ⟨rfl, hm⟩ := hm
    simp only [fillA] at hf
    split at hf
    · cases hf
    · rename_i off size hp
      split at hf
      · rename_i hc
        obtain ⟨h1, h2, h3⟩ := hc
        have hv := hr 0 _ _ rfl rfl
        obtain ⟨hcr, _⟩ := cells_rep hv h3
        have hus : u.cells.size = size := by rw [← h1, hcr.1]; simp
        have hA : A.size = cs.length := by rw [h.1]; simp
        have hupd := h.upd hcr (off := off) (by rw [h1]; exact h2)
        obtain ⟨A', hA', hr'⟩ := fill_rep parts vparts _ cs' (u.cells.zipIdx.foldl (fun cs x => cs.setIfInBounds (off + x.2) x.1) A) (by
          rw [← Array.foldl_toList, Array.toList_zipIdx, foldl_upd]
          exact hupd) hm (fun j p q h1 h2 => hr (j + 1) p q (by simpa using h1) (by simpa using h2)) hf
        refine ⟨A', ?_, hr'⟩
        simp only [Instr.fill, hp]
        rw [if_neg (by simp [hus]; omega)]
        exact hA'
      · cases hf

theorem quiet_build {β : Type} {t : TypeId} {parts : Array (Nat × Operand)} {K : AV κ → Option β} {r : β} (ho : o.op = .build t parts) (h : quiet? C o s K = some r) : ∃ v, K v = some r ∧ QuietOk C o s v := by
  simp only [quiet?, ho] at h
  split at h
  · rename_i cs hcs
    refine ⟨_, h, .pure fun a F φ w hg => ?_⟩
    have hparts : ∃ cells, C.P.built t (parts.map fun (i, x) => (i, a.eval x)).toList = some cells ∧ Reps C.E F φ cs cells.toList := by
      have key := fun (place : Nat → Option (Nat × Nat)) (z : Value) (hf : fillA place (z.cells.toList.map AV.val) (parts.toList.map fun p => (p.1, ev C s p.2)) = some cs) =>
        fill_rep (E := C.E) (F := F) (φ := φ) (place := place) (parts.toList.map fun p => (p.1, ev C s p.2)) (parts.map fun (i, x) => (i, a.eval x)).toList _ cs z.cells (Reps.vals _) (by simp) (fun j p q h1 h2 => by
          simp only [Array.toList_map, List.getElem?_map] at h1 h2
          cases hj : parts.toList[j]? with
          | none => rw [hj] at h1; simp at h1
          | some x =>
            rw [hj] at h1 h2
            simp at h1 h2
            subst h1; subst h2
            exact ev_rep hg x.2) hf
      unfold builtA at hcs
      unfold Program.built
      split at hcs
      · rename_i it n e hit hu
        simp only [hit, hu]
        split at hcs
        · rename_i z ie hz hie
          simp only [hz, hie]
          exact key _ z hcs
        · cases hcs
      · rename_i it fields hit hu
        simp only [hit, hu]
        split at hcs
        · rename_i z places hz hp
          simp only [hz, hp]
          obtain ⟨A', h1, h2⟩ := key _ z hcs
          exact ⟨A', by simpa using h1, h2⟩
        · cases hcs
      · cases hcs
    obtain ⟨cells, hb, hr⟩ := hparts
    refine ⟨.agg cells, .agg _ _ (by simpa using hr.1) (fun j c u hc hu => hr.2 j c u hc (by simpa using hu)), fun t ht => by rw [ho] at ht; simp at ht, fun w' => ?_⟩
    unfold execOp
    rw [ho]
    exact run_v (run_build w' t _ _ hb)
  · cases h

theorem quiet_makeFunc {β : Type} {f : FuncId} {first caps : Array Operand} {K : AV κ → Option β} {r : β} (ho : o.op = .makeFunc (.func f) first caps) (h : quiet? C o s K = some r) : ∃ v, K v = some r ∧ QuietOk C o s v := by
  simp only [quiet?, ho] at h
  split at h
  · rename_i hs
    refine ⟨_, h, .pure fun a F φ w hg => ⟨.func (.func f) #[] (caps.map a.eval), .fn f _ _ (by simp) (fun j c u hc hu => ?_), fun t ht => by rw [ho] at ht; simp at ht, fun w' => ?_⟩⟩
    · simp only [List.getElem?_map, Array.getElem?_map] at hc hu
      cases hj : caps[j]? with
      | none => rw [hj] at hu; simp at hu
      | some x =>
        rw [hj] at hu
        rw [Array.getElem?_toList, hj] at hc
        simp at hc hu
        subst hc; subst hu
        exact ev_rep hg x
    · have : first = #[] := by simpa using hs
      subst this
      unfold execOp
      rw [ho]
      exact run_v (by simp [Instr.makeFunc])
  · cases h
end Go.Am
