/- Operations that make memory or write to it do in the program what the machine reckons. -/
import Derived.Test.YtebbipofemjnmaaDoorTAm7
namespace Go.Am
open Go.RowKit
variable {κ : Kinds} {E : Encs κ} {F F' : Nat → Option Obj} {φ φ' : Nat → Option Pl} {P : Program} {C : Ctx κ} {a : Act} {w w' : World} {s s' : St κ} {o : Oper}

def Fit (P : Program) (k : κ.Kc) : Prop := ∃ i z, P.info? (κ.elem k) = some i ∧ i.size = κ.sz k ∧ i.bytes = κ.bytes k ∧ i.zero = some z ∧ z.cells.size = κ.sz k ∧ 0 < κ.sz k ∧ 0 < κ.bytes k

def LoudOk (C : Ctx κ) (o : Oper) (s : St κ) (v : AV κ) (s' : St κ) : Prop :=
  ∀ (a : Act) (w : World) (F : Nat → Option Obj) (φ : Nat → Option Pl), Good C.E C.glob a w s F φ → ∀ (next : Act → World → Prop) (Q : Exit → Act → World → Prop),
    (∀ u w' F' φ', Good C.E C.glob a w' s' F' φ' → Rep C.E F' φ' v u → Mv w F φ w' F' φ' → next (a.put o.dst u) w') → o.wp C.P a w next Q

theorem wp_value {next : Act → World → Prop} {Q : Exit → Act → World → Prop} {u : Value} (h : (execOp a.eval o).run P w = .ok (.value u) w') (hn : next (a.put o.dst u) w') : o.wp P a w next Q := by
  unfold Oper.wp; rw [h]; exact hn
theorem wp_skip' {next : Act → World → Prop} {Q : Exit → Act → World → Prop} (h : (execOp a.eval o).run P w = .ok .skip w') (hn : next (a.put o.dst undef) w') : o.wp P a w next Q := by
  unfold Oper.wp; rw [h]; exact hn

theorem grown_alloc (w : World) (ob : Obj) : w.grownBy (w.alloc ob) none := World.grownBy_alloc w ob none

theorem raw_fresh (hg : Good C.E C.glob a w s F φ) {t : TypeId} {cs : List (AV κ)} {us : Array Value} (h : Reps C.E F φ cs us.toList) :
    Good C.E C.glob a (w.alloc (.cells us t)) (s.fresh (.raw t cs)) F (at_ φ s.S.length (some ⟨some w.heap.size, 0, 0⟩)) ∧ Rep C.E F (at_ φ s.S.length (some ⟨some w.heap.size, 0, 0⟩)) (.ptr s.S.length 0) (.pointer (some ⟨w.heap.size, 0, none⟩)) ∧
    Mv w F φ (w.alloc (.cells us t)) F (at_ φ s.S.length (some ⟨some w.heap.size, 0, 0⟩)) := by
  have hn := hg.rel.out s.S.length (Nat.le_refl _)
  have hφ : ∀ j p, φ j = some p → at_ φ s.S.length (some ⟨some w.heap.size, 0, 0⟩) j = some p := fun j p h => by
    by_cases hj : j = s.S.length
    · subst hj; rw [hn] at h; cases h
    · rw [at_ne _ _ hj]; exact h
  have := fresh_good hg ⟨some w.heap.size, 0, 0⟩ (grown_alloc w (.cells us t)) (fun g h => by simp at h; subst h; exact ⟨Nat.le_refl _, by show _ < (w.heap.push _).size; simp⟩) (b := .raw t cs)
    ⟨⟨some w.heap.size, 0, 0⟩, w.heap.size, us, at_self _ _ _, rfl, heap_alloc_new w _, by simpa using h.1.symm, fun j c u hc hu => (h.2 j c u hc (by simpa using hu)).place hφ⟩
  exact ⟨this.1, .ptr _ 0 ⟨some w.heap.size, 0, 0⟩ _ (at_self _ _ _) rfl, this.2⟩

theorem loud_box {β : Type} {kindOf : TypeId → Option κ.Kc} {t : TypeId} {x : Operand} {K : AV κ → St κ → Option β} {r : β} (ho : o.op = .box t x) (h : loud? C kindOf o s K = some r) : ∃ v s', K v s' = some r ∧ LoudOk C o s v s' := by
  simp only [loud?, ho] at h
  split at h
  · rename_i hc
    refine ⟨_, _, h, fun a w F φ hg next Q hn => ?_⟩
    obtain ⟨h1, h2, h3⟩ := raw_fresh hg (t := t) (us := (a.eval x).cells) (cs := (ev C s x).cells) (cells_rep (ev_rep hg x) hc).1
    refine wp_value (u := .pointer (some ⟨w.heap.size, 0, none⟩)) (w' := w.alloc (.cells (a.eval x).cells t)) ?_ (hn _ _ _ _ h1 h2 h3)
    unfold execOp
    rw [ho]
    refine run_v ?_
    simp [Instr.box, newVar, newRow]
  · cases h

theorem run_storeAt {t : TypeId} {g off : Nat} {u : Value} {cur : Array Value} {e : TypeId} (hg : w.heap[g]? = some (.cells cur e (0, 0))) (hs : u.cells.size = sizeOf? P t) (hp : 0 < u.cells.size) (hl : off + u.cells.size ≤ cur.size) (h1 : ∀ x ∈ u.cells.toList, x.oneCell' = true) :
    (Instr.storeAt t (.pointer (some ⟨g, off, none⟩)) u).run P w = .ok () (w.setRow g (upd cur.toList off u.cells.toList).toArray) := by
  obtain ⟨i, hi, his⟩ := info_of_pos (t := t) (P := P) (by omega)
  have hst := run_storeCells_at P g off e u.cells.toList 0 cur w hg (by simpa using hl) h1
  simp only [Nat.add_zero] at hst
  rw [upd_eq _ _ _ (by simpa using hl)]
  simp [Instr.storeAt, Instr.sureAddr, storeVar, run_sizeOf' hi, hs, his, hst]

theorem cells_pos {v : AV κ} {u : Value} (h : Reps E F φ v.cells u.cells.toList) : v.cells.length = u.cells.size := by simpa using h.1

theorem loud_store {β : Type} (hE : C.E.Ok) {kindOf : TypeId → Option κ.Kc} {t : TypeId} {p x : Operand} {K : AV κ → St κ → Option β} {r : β} (ho : o.op = .store t p x) (h : loud? C kindOf o s K = some r) : ∃ v s', K v s' = some r ∧ LoudOk C o s v s' := by
  simp only [loud?, ho] at h
  split at h
  · rename_i hc
    obtain ⟨hsz, hone, hpos⟩ := hc
    split at h
    · rename_i i off hp
      split at h
      · rename_i e old hS
        split at h
        · rename_i hl
          refine ⟨_, _, h, fun a w F φ hg next Q hn => ?_⟩
          obtain ⟨hr, h1⟩ := cells_rep (ev_rep hg x) hone
          have hlen := cells_pos hr
          have hpr := ev_rep hg p
          rw [hp] at hpr
          generalize hz : a.eval p = z at hpr
          cases hpr with
          | ptr _ _ q g hq hqg =>
            obtain ⟨q', g', cur, h2, h3, h4, h5, h6⟩ := hg.rel.blk i _ hS
            obtain rfl := Option.some.inj (hq.symm.trans h2)
            obtain rfl := Option.some.inj (hqg.symm.trans h3)
            have hrun := run_storeAt (P := C.P) (t := t) (off := off) (u := a.eval x) h4 (by rw [← hlen]; exact hsz) (by rw [← hlen]; exact hpos) (by rw [← hlen, h5]; exact hl) h1
            have hreps : Reps C.E F φ old cur.toList := ⟨by simpa using h5.symm, fun j c u hc hu => h6 j c u hc (by simpa using hu)⟩
            have hnew := hreps.upd hr (off := off) hl
            obtain ⟨h7, h8⟩ := set_good hg hS hq hqg (cs := (upd cur.toList off (a.eval x).cells.toList).toArray) (b' := .raw e (upd old off (ev C s x).cells))
              ⟨q, g, _, hq, hqg, setRow_heap w g cur _ e _ h4, by simpa using hnew.1.symm, fun j c u hc hu => hnew.2 j c u hc (by simpa using hu)⟩
            refine wp_skip' (w' := w.setRow g (upd cur.toList off (a.eval x).cells.toList).toArray) ?_ (hn _ _ _ _ h7 (.bot _) h8)
            unfold execOp
            rw [ho]
            simp [hz, hrun]
        · cases h
      · cases h
    · rename_i k i row col hp
      split at h
      · rename_i k' xs hS
        split at h
        · rename_i hk
          subst hk
          split at h
          · rename_i y hy
            split at h
            · rename_i hcol
              refine ⟨_, _, h, fun a w F φ hg next Q hn => ?_⟩
              obtain ⟨hr, h1⟩ := cells_rep (ev_rep hg x) hone
              have hlen := cells_pos hr
              have hpr := ev_rep hg p
              rw [hp] at hpr
              generalize hz : a.eval p = z at hpr
              cases hpr with
              | ptrE _ _ _ _ q g hq hqg hrow =>
                obtain ⟨q', h2, h3, hh⟩ := hg.rel.blk i _ hS
                obtain rfl := Option.some.inj (hq.symm.trans h2)
                rcases hh with ⟨hn, _⟩ | ⟨g', cur, hg', h4, h5, h6, h7, h8⟩
                · rw [hqg] at hn; cases hn
                obtain rfl := Option.some.inj (hqg.symm.trans hg')
                have hrow' : row < xs.length := by omega
                have hget : xs.getD row (C.E.dflt k') = xs[row] := by rw [List.getD_eq_getElem?_getD, List.getElem?_eq_getElem hrow']; rfl
                have hmul : (row + 1) * κ.sz k' ≤ q.cap * κ.sz k' := Nat.mul_le_mul_right _ (by omega)
                rw [Nat.add_mul, Nat.one_mul] at hmul
                have hfit : row * κ.sz k' + col + (a.eval x).cells.size ≤ cur.size := by rw [← hlen]; omega
                have hrun := run_storeAt (P := C.P) (t := t) (off := row * κ.sz k' + col) (u := a.eval x) h4 (by rw [← hlen]; exact hsz) (by rw [← hlen]; exact hpos) hfit h1
                have hency := hE.put _ _ _ hy
                simp only [hget] at hency
                have hfit' : row * κ.sz k' + col + (a.eval x).cells.toList.length ≤ cur.toList.length := by simpa using hfit
                obtain ⟨h9, h10⟩ := set_good hg hS hq hqg (cs := (upd cur.toList (row * κ.sz k' + col) (a.eval x).cells.toList).toArray) (b' := .rows k' (xs.set row y))
                  ⟨q, hq, by simpa using h3, .inr ⟨g, _, hqg, setRow_heap w g cur _ _ _ h4, by rw [List.size_toArray, upd_length]; simpa using h5, by simpa using h6, h7, fun r z j c u hz' hc hu => by
                    have hj : j < κ.sz k' := by rw [← hE.len k' z]; exact (List.getElem?_eq_some_iff.1 hc).1
                    simp only [List.getElem?_toArray] at hu
                    rw [upd_get hfit'] at hu
                    have hxl : (a.eval x).cells.toList.length = (ev C s x).cells.length := hr.1.symm
                    rw [hxl] at hu
                    by_cases hrr : r = row
                    · subst hrr
                      rw [List.getElem?_set_self hrow'] at hz'
                      obtain rfl := Option.some.inj hz'
                      rw [hency, upd_get (by rw [hE.len]; exact hcol)] at hc
                      split at hc
                      · rename_i hin
                        rw [if_pos ⟨by omega, by omega⟩] at hu
                        rw [show r * κ.sz k' + j - (r * κ.sz k' + col) = j - col by omega] at hu
                        exact hr.2 _ _ _ hc hu
                      · rename_i hin
                        rw [if_neg (by omega)] at hu
                        exact h8 r _ j c u (List.getElem?_eq_getElem hrow') hc (by simpa using hu)
                    · rw [List.getElem?_set_ne (Ne.symm hrr)] at hz'
                      have hout : ¬ (row * κ.sz k' + col ≤ r * κ.sz k' + j ∧ r * κ.sz k' + j < row * κ.sz k' + col + (ev C s x).cells.length) := by
                        rcases Nat.lt_or_gt_of_ne hrr with hlt | hlt
                        · have := Nat.mul_le_mul_right (κ.sz k') (show r + 1 ≤ row from hlt)
                          rw [Nat.add_mul, Nat.one_mul] at this
                          omega
                        · have := Nat.mul_le_mul_right (κ.sz k') (show row + 1 ≤ r from hlt)
                          rw [Nat.add_mul, Nat.one_mul] at this
                          omega
                      rw [if_neg hout] at hu
                      exact h8 r z j c u hz' hc (by simpa using hu)⟩⟩
                refine wp_skip' (w' := w.setRow g (upd cur.toList (row * κ.sz k' + col) (a.eval x).cells.toList).toArray) ?_ (hn _ _ _ _ h9 (.bot _) h10)
                unfold execOp
                rw [ho]
                simp [hz, hrun]
            · cases h
          · cases h
        · cases h
      · cases h
    · cases h
  · cases h
end Go.Am
