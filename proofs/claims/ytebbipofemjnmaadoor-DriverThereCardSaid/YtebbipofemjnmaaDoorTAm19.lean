/- A region whose order is open: quiet operations are taken first, makers in whatever order. -/
import Derived.Test.YtebbipofemjnmaaDoorTAm14
import Derived.OrdersHeld
namespace Go.Am
noncomputable section
open Go.RowKit
variable {κ : Kinds} {E : Encs κ} {F F' : Nat → Option Obj} {φ φ' : Nat → Option Pl} {P : Program} {C : Ctx κ} {a : Act} {w w' : World} {s s' : St κ} {o : Oper} {kindOf : TypeId → Option κ.Kc}

/-- One operation that yields its value in every world in which what is frozen stands. -/
def stepF {β : Type} (C : Ctx κ) (o : Oper) (s : St κ) (K : AV κ → St κ → Option β) : Option β :=
  match o.op with
  | .pick c a b => match ev C s c with
    | .val (.bool x) => match c with
      | .tmp t => if x = true then K (ev C (s.refine t true) a) (s.refine t true) else K (ev C (s.refine t false) b) (s.refine t false)
      | _ => if x = true then K (ev C s a) s else K (ev C s b) s
    | _ => none
  | _ => if ownLoad C o s = false then quiet? C o s fun v => K v s else none

def StepFOk (C : Ctx κ) (o : Oper) (s : St κ) (v : AV κ) (s' : St κ) : Prop :=
  ∀ (a : Act) (w : World) (F : Nat → Option Obj) (φ : Nat → Option Pl), Good C.E C.glob a w s F φ → ∃ u, Rep C.E F φ v u ∧ Good C.E C.glob a w s' F φ ∧ (∀ t, o.op = .move (.tmp t) → u = a.tmps.getD t undef) ∧ ∀ w', Fr F w' → (execOp a.eval o).run C.P w' = .ok (.value u) w'

theorem stepF_sound {β : Type} (hC : C.Ok) {K : AV κ → St κ → Option β} {r : β} (h : stepF C o s K = some r) : ∃ v s', K v s' = some r ∧ StepFOk C o s v s' := by
  unfold stepF at h
  split at h
  · rename_i c x y ho
    have hnm : ∀ z, o.op ≠ .move z := fun z hz => by rw [ho] at hz; cases hz
    split at h
    · rename_i b hc
      split at h
      · rename_i t
        have hbool : ∀ {a : Act} {w : World} {F : Nat → Option Obj} {φ : Nat → Option Pl}, Good C.E C.glob a w s F φ → a.tmps.getD t undef = .bool b := fun hg => val_inv (hc ▸ ev_rep hg (.tmp t))
        split at h
        · rename_i hb
          subst hb
          refine ⟨_, _, h, fun a w F φ hg => ?_⟩
          have h1 := refine_good hg (hbool hg)
          exact ⟨a.eval x, ev_rep h1 x, h1, fun t ht => absurd ht (hnm _), fun w' _ => by have := pick_run (P := C.P) (w := w') ho (hbool hg); simpa using this⟩
        · rename_i hb
          have hb' : b = false := by simpa using hb
          subst hb'
          refine ⟨_, _, h, fun a w F φ hg => ?_⟩
          have h1 := refine_good hg (hbool hg)
          exact ⟨a.eval y, ev_rep h1 y, h1, fun t ht => absurd ht (hnm _), fun w' _ => by have := pick_run (P := C.P) (w := w') ho (hbool hg); simpa using this⟩
      · have hbool : ∀ {a : Act} {w : World} {F : Nat → Option Obj} {φ : Nat → Option Pl}, Good C.E C.glob a w s F φ → a.eval c = .bool b := fun hg => val_inv (hc ▸ ev_rep hg c)
        split at h
        · rename_i hb
          subst hb
          exact ⟨_, _, h, fun a w F φ hg => ⟨a.eval x, ev_rep hg x, hg, fun t ht => absurd ht (hnm _), fun w' _ => by have := pick_run (P := C.P) (w := w') ho (hbool hg); simpa using this⟩⟩
        · rename_i hb
          have hb' : b = false := by simpa using hb
          subst hb'
          exact ⟨_, _, h, fun a w F φ hg => ⟨a.eval y, ev_rep hg y, hg, fun t ht => absurd ht (hnm _), fun w' _ => by have := pick_run (P := C.P) (w := w') ho (hbool hg); simpa using this⟩⟩
    · cases h
  · split at h
    · rename_i hol
      obtain ⟨v, h1, h2⟩ := quiet_sound hC.enc h
      refine ⟨v, s, h1, fun a w F φ hg => ?_⟩
      obtain ⟨u, k1, k2, _, k4⟩ := h2 a w F φ hg
      exact ⟨u, k1, hg, k2, k4 hol⟩
    · cases h

mutual
inductive Sched where
  | done
  | take (i : Nat) (t : Sched)
  | all (l : Scheds)
inductive Scheds where
  | nil
  | cons (i : Nat) (t : Sched) (l : Scheds)
end
def holds : Option Prop → Prop
  | some p => p
  | none => False
def guardP (ops : Array Oper) (o : Oper) (s : St κ) (yes no : St κ → Prop) : Prop := match o.guard with
  | none => yes s
  | some (j, want) => match (ops[j]?).bind (·.dst) with
    | none => False
    | some t => match s.get t with
      | .val (.bool c) => if c = want then yes (s.refine t want) else no (s.refine t (!want))
      | .val (.tuple _) => no s
      | _ => False
mutual
/-- However the operations come, what is asked holds in the end. -/
def runs (C : Ctx κ) (kindOf : TypeId → Option κ.Kc) (ops : Array Oper) : Sched → St κ → (St κ → Prop) → Prop
  | .done, s, Q => Q s
  | .take i t, s, Q => match ops[i]? with
    | some o => guardP ops o s (fun s1 => holds (stepF C o s1 fun v s' => some (runs C kindOf ops t (s'.put o v) Q))) (fun s1 => runs C kindOf ops t (s1.put o (.val undef)) Q)
    | none => False
  | .all l, s, Q => runsL C kindOf ops l s Q
def runsL (C : Ctx κ) (kindOf : TypeId → Option κ.Kc) (ops : Array Oper) : Scheds → St κ → (St κ → Prop) → Prop
  | .nil, _, _ => True
  | .cons i t l, s, Q => (match ops[i]? with
    | some o => guardP ops o s (fun s1 => holds (step C kindOf o s1 fun v s' => some (runs C kindOf ops t (s'.put o v) Q))) (fun s1 => runs C kindOf ops t (s1.put o (.val undef)) Q)
    | none => False) ∧ runsL C kindOf ops l s Q
end
def Scheds.idx : Scheds → List Nat
  | .nil => []
  | .cons i _ l => i :: l.idx
mutual
def validT (ops : Array Oper) : Sched → Array Bool → Nat → Bool
  | .done, listed, _ => (Region.ready .any ops listed).isEmpty
  | .take i t, listed, n => match n with
    | 0 => false
    | n + 1 => (Region.ready .any ops listed).contains i && Region.free .any ops listed i && validT ops t (listed.setIfInBounds i true) n
  | .all l, listed, n => match n with
    | 0 => false
    | n + 1 => decide (Region.ready .any ops listed = l.idx) && !l.idx.isEmpty && validL ops l listed n
def validL (ops : Array Oper) : Scheds → Array Bool → Nat → Bool
  | .nil, _, _ => true
  | .cons i t l, listed, n => validT ops t (listed.setIfInBounds i true) n && validL ops l listed n
end

theorem guardP_sound {ops : Array Oper} {yes no : St κ → Prop} (h : guardP ops o s yes no) (hg : Good C.E C.glob a w s F φ) :
    (Region.wanted o (yielded ops a.tmps) = true ∧ ∃ s1, yes s1 ∧ Good C.E C.glob a w s1 F φ) ∨ (Region.wanted o (yielded ops a.tmps) = false ∧ ∃ s1, no s1 ∧ Good C.E C.glob a w s1 F φ) := by
  unfold guardP at h
  split at h
  · rename_i hgd
    exact .inl ⟨by simp [Region.wanted, hgd], s, h, hg⟩
  · rename_i j want hgd
    split at h
    · exact h.elim
    · rename_i t ht
      split at h
      · rename_i c hc
        have hy : Region.wanted o (yielded ops a.tmps) = (c == want) := by simp [Region.wanted, hgd, yielded, ht, (get_bool hg hc).1]
        split at h
        · rename_i hcw
          subst hcw
          exact .inl ⟨by rw [hy]; simp, _, h, refine_good hg (get_bool hg hc).2⟩
        · rename_i hcw
          have hcb : c = !want := by cases c <;> cases want <;> simp_all
          exact .inr ⟨by rw [hy]; simpa using hcw, _, h, refine_good hg (by rw [← hcb]; exact (get_bool hg hc).2)⟩
      · rename_i us hc
        exact .inr ⟨wanted_tup hg hgd ht hc, s, h, hg⟩
      · exact h.elim

theorem held_weak {ops : Array Oper} {md : Region.Mode} {Q : Exit → Act → World → Prop} {S S' : World → Prop} (hS : ∀ w, S' w → S w) : ∀ (n : Nat) (listed : Array Bool) (a : Act) (w : World), wpAnyH P md ops Q S' n listed a w → wpAnyH P md ops Q S n listed a w
  | 0, _, _, _, h => h
  | n + 1, _, _, _, h => ⟨h.1, fun i hi => wpOp_mono (fun a' w' h' => ⟨hS _ h'.1, held_weak hS n _ a' w' h'.2⟩) (h.2 i hi)⟩
theorem keep_all {ops : Array Oper} {a : Act} {i : Nat} {u : Value} (hi : ops[i]? = some o) : KeepT (dsts ops.toList) a (a.put o.dst u) := fun t ht => by
  unfold Act.put
  cases hd : o.dst with
  | none => rfl
  | some d =>
    have : d ≠ t := fun e => ht (by unfold dsts; rw [List.mem_filterMap]; exact ⟨o, by rw [Array.mem_toList_iff]; exact Array.mem_of_getElem? hi, by rw [hd, e]⟩)
    simp [Array.getD_eq_getD_getElem?, Array.getElem?_setIfInBounds, this]
theorem put_undef' {o : Oper} (hg : Good C.E C.glob a w s F φ) : Good C.E C.glob (a.put o.dst undef) w (s.put o (.val undef)) F φ := put_undef hg

mutual
theorem runs_sound (hC : C.Ok) {ops : Array Oper} (hs : Region.noSelect ops = true) {Qx : Exit → Act → World → Prop} (hQp : ∀ c a w, ¬ Qx (.panic c) a w) :
    ∀ (t : Sched) (n : Nat) (listed : Array Bool) (s : St κ) (Q : St κ → Prop) (a : Act) (w : World) (F : Nat → Option Obj) (φ : Nat → Option Pl), runs C kindOf ops t s Q → validT ops t listed n = true → Good C.E C.glob a w s F φ →
      (∀ a' w' F' φ' s', Q s' → Good C.E C.glob a' w' s' F' φ' → Mv w F φ w' F' φ' → KeepT (dsts ops.toList) a a' → Qx .normal a' w') → wpAnyH C.P .any ops Qx (Fr F) n listed a w
  | .done, n, listed, s, Q, a, w, F, φ, h, hv, hg, hQ => by
    have hr : Region.ready .any ops listed = [] := by simpa [validT] using hv
    exact wpAnyH_done hr (hQ a w F φ s h hg (Mv.refl _ _ _) (KeepT.refl _ _)) n
  | .take i t, 0, listed, s, Q, a, w, F, φ, h, hv, hg, hQ => by simp [validT] at hv
  | .take i t, n + 1, listed, s, Q, a, w, F, φ, h, hv, hg, hQ => by
    simp only [validT, Bool.and_eq_true] at hv
    obtain ⟨⟨hv1, hv2⟩, hv3⟩ := hv
    simp only [runs] at h
    split at h
    · rename_i o hi
      rcases guardP_sound h hg with ⟨hw, s1, h1, hg1⟩ | ⟨hw, s1, h1, hg1⟩
      · cases hst : (stepF C o s1 fun v s' => some (runs C kindOf ops t (s'.put o v) Q)) with
        | none => rw [hst] at h1; exact h1.elim
        | some p =>
          rw [hst] at h1
          obtain ⟨v, s2, hK, hok⟩ := stepF_sound hC hst
          have hp : runs C kindOf ops t (s2.put o v) Q := by
            have := Option.some.inj hK
            rw [this]; exact h1
          obtain ⟨u, k1, k2, k3, k4⟩ := hok a w F φ hg1
          refine wpAnyH_take (v := u) hi hs hv2 hv1 (fun c a w hq => (hQp _ _ _ hq).elim) (.inl ⟨hw, k4⟩) hg.rel.frz ?_
          exact runs_sound hC hs hQp t n _ _ Q _ w F φ hp hv3 (put_good k2 k1 k3) fun a' w' F' φ' s' m1 m2 m3 m4 => hQ a' w' F' φ' s' m1 m2 m3 ((keep_all hi).trans m4)
      · refine wpAnyH_take (v := undef) hi hs hv2 hv1 (fun c a w hq => (hQp _ _ _ hq).elim) (.inr ⟨hw, rfl⟩) hg.rel.frz ?_
        exact runs_sound hC hs hQp t n _ _ Q _ w F φ h1 hv3 (put_undef hg1) fun a' w' F' φ' s' m1 m2 m3 m4 => hQ a' w' F' φ' s' m1 m2 m3 ((keep_all hi).trans m4)
    · exact h.elim
  | .all l, 0, listed, s, Q, a, w, F, φ, h, hv, hg, hQ => by simp [validT] at hv
  | .all l, n + 1, listed, s, Q, a, w, F, φ, h, hv, hg, hQ => by
    simp only [validT, Bool.and_eq_true, decide_eq_true_eq] at hv
    obtain ⟨⟨hv1, hv2⟩, hv3⟩ := hv
    refine wpAnyH_all hv1 (fun e => by rw [e] at hv2; simp at hv2) ?_
    simp only [runs] at h
    exact runsL_sound hC hs hQp l n listed s Q a w F φ h hv3 hg hQ
theorem runsL_sound (hC : C.Ok) {ops : Array Oper} (hs : Region.noSelect ops = true) {Qx : Exit → Act → World → Prop} (hQp : ∀ c a w, ¬ Qx (.panic c) a w) :
    ∀ (l : Scheds) (n : Nat) (listed : Array Bool) (s : St κ) (Q : St κ → Prop) (a : Act) (w : World) (F : Nat → Option Obj) (φ : Nat → Option Pl), runsL C kindOf ops l s Q → validL ops l listed n = true → Good C.E C.glob a w s F φ →
      (∀ a' w' F' φ' s', Q s' → Good C.E C.glob a' w' s' F' φ' → Mv w F φ w' F' φ' → KeepT (dsts ops.toList) a a' → Qx .normal a' w') →
      ∀ i ∈ l.idx, wpOp C.P ops Qx i (fun a' w' => Fr F w' ∧ wpAnyH C.P .any ops Qx (Fr F) n (listed.setIfInBounds i true) a' w') a w
  | .nil, n, listed, s, Q, a, w, F, φ, h, hv, hg, hQ => fun i hi => by cases hi
  | .cons i t l, n, listed, s, Q, a, w, F, φ, h, hv, hg, hQ => by
    simp only [validL, Bool.and_eq_true] at hv
    simp only [runsL] at h
    intro j hj
    rcases List.mem_cons.1 (show j ∈ i :: l.idx from hj) with rfl | hj
    · have h := h.1
      split at h
      · rename_i o hi
        unfold wpOp
        simp only [hi]
        rcases guardP_sound h hg with ⟨hw, s1, h1, hg1⟩ | ⟨hw, s1, h1, hg1⟩
        · rw [if_pos hw]
          left
          cases hst : (step C kindOf o s1 fun v s' => some (runs C kindOf ops t (s'.put o v) Q)) with
          | none => rw [hst] at h1; exact h1.elim
          | some p =>
            rw [hst] at h1
            obtain ⟨v, s2, hK, hok⟩ := step_sound hC hst
            have hp : runs C kindOf ops t (s2.put o v) Q := by
              have := Option.some.inj hK
              rw [this]; exact h1
            refine hok a w F φ hg1 _ _ fun u w1 F1 φ1 k1 k2 k3 k4 => ?_
            have g2 := put_good k1 k2 k4
            refine ⟨fun b o hb => k1.rel.frz b o (k3.le b o hb), ?_⟩
            refine held_weak (S' := Fr F1) (fun w hw b o hb => hw b o (k3.le b o hb)) n _ _ _ ?_
            exact runs_sound hC hs hQp t n _ _ Q _ w1 F1 φ1 hp hv.1 g2 fun a' w' F' φ' s' m1 m2 m3 m4 => hQ a' w' F' φ' s' m1 m2 (k3.trans m3) ((keep_all hi).trans m4)
        · rw [if_neg (by rw [hw]; simp)]
          refine ⟨hg.rel.frz, ?_⟩
          exact runs_sound hC hs hQp t n _ _ Q _ w F φ h1 hv.1 (put_undef hg1) fun a' w' F' φ' s' m1 m2 m3 m4 => hQ a' w' F' φ' s' m1 m2 m3 ((keep_all hi).trans m4)
      · exact h.elim
    · exact runsL_sound hC hs hQp l n listed s Q a w F φ h.2 hv.2 hg hQ j hj
end

theorem tree_ok (hC : C.Ok) {rid : Nat} {ops : Array Oper} {N : Nat} {wr : List Nat} {ins : Sh κ} {outs : List (Ex × Sh κ)} {L : ins.den → Option (OutT outs)} {tr : Sched} (hwr : ((writes (.region rid ops true)).all fun t => wr.contains t) = true) (hrw : (wr.all fun t => (writes (.region rid ops true)).contains t) = true)
    (hs : Region.noSelect ops = true) (hv : validT ops tr (Array.replicate ops.size false) ops.size = true) (hL : ∀ d o, L d = some o → runs C kindOf ops tr (can N ins d) (fun s' => Kout N outs .normal s' = some o)) : LamOk C (lamK N wr ins outs L) (.region rid ops true) :=
  lamK_sound hC.enc hwr hrw fun d o ho => by
    intro a w F φ hN hsh Q hQ
    refine Code.wp_mono (Q := fun x a' w' => x = .normal ∧ Q .normal a' w') (fun x a' w' h => by obtain ⟨rfl, h⟩ := h; exact h) ?_
    have hgw : Grow w { w with drawn := w.drawn + 1 } := ⟨rfl, rfl, rfl, Nat.le_refl _, fun _ _ => rfl⟩
    refine wp_region_held (S := Fr F) hC.mix ?_
    refine runs_sound hC hs (fun c a w h => (by cases h.1)) tr _ _ _ _ a _ F φ (hL d o ho) hv ((hsh.good hN).grow hgw) fun a' w' F' φ' s' k0 k1 k2 k3 => ⟨rfl, ?_⟩
    obtain ⟨h3, h5, h4⟩ := Kout_sound hC.enc outs .normal s' o k0
    obtain ⟨φ2, k4, k5⟩ := h4 a' w' F' φ' k1
    have := hQ a' w' F' φ2 k4 ((hgw.mv.trans k2).trans k5) (k3.mono fun t ht => by simpa using List.all_eq_true.1 hwr t ht) (by rw [k1.size]; exact h5)
    rwa [h3] at this
end
end Go.Am
