/- The code of a function: whatever the machine reckons the program does. -/
import Derived.Test.YtebbipofemjnmaaDoorTAm11q
namespace Go.Am
noncomputable section
open Go.RowKit
variable {κ : Kinds} {E : Encs κ} {F F' : Nat → Option Obj} {φ φ' : Nat → Option Pl} {P : Program} {C : Ctx κ} {a : Act} {w w' : World} {s s' : St κ} {o : Oper} {kindOf : TypeId → Option κ.Kc}

def StepOk (C : Ctx κ) (o : Oper) (s : St κ) (v : AV κ) (s' : St κ) : Prop :=
  ∀ (a : Act) (w : World) (F : Nat → Option Obj) (φ : Nat → Option Pl), Good C.E C.glob a w s F φ → ∀ (next : Act → World → Prop) (Q : Exit → Act → World → Prop),
    (∀ u w' F' φ', Good C.E C.glob a w' s' F' φ' → Rep C.E F' φ' v u → Mv w F φ w' F' φ' → (∀ t, o.op = .move (.tmp t) → u = a.tmps.getD t undef) → next (a.put o.dst u) w') → o.wp C.P a w next Q

theorem StepOk.of_quiet {v : AV κ} (h : QuietOk C o s v) : StepOk C o s v s := fun a w F φ hg next Q hn => by
  obtain ⟨u, h1, h2, h3, _⟩ := h a w F φ hg
  exact wp_value (h3 w (Sub.refl w)) (hn u w F φ hg h1 (Mv.refl _ _ _) h2)
theorem StepOk.of_loud {v : AV κ} (hm : ∀ x, o.op ≠ .move x) (h : LoudOk C o s v s') : StepOk C o s v s' := fun a w F φ hg next Q hn =>
  h a w F φ hg next Q fun u w' F' φ' h1 h2 h3 => hn u w' F' φ' h1 h2 h3 fun _ ht => absurd ht (hm _)

theorem pick_run {c x y : Operand} {b : Bool} (ho : o.op = .pick c x y) (hc : a.eval c = .bool b) : (execOp a.eval o).run P w = .ok (.value (if b = true then a.eval x else a.eval y)) w := by
  unfold execOp
  rw [ho]
  simp [hc, asBool]

theorem step_sound {β : Type} (hC : C.Ok) {K : AV κ → St κ → Option β} {r : β} (h : step C kindOf o s K = some r) : ∃ v s', K v s' = some r ∧ StepOk C o s v s' := by
  unfold step at h
  split at h
  · rename_i c x y ho
    split at h
    · rename_i b hc
      split at h
      · rename_i t
        have hbool : ∀ {a : Act} {w : World} {F : Nat → Option Obj} {φ : Nat → Option Pl}, Good C.E C.glob a w s F φ → a.tmps.getD t undef = .bool b := fun hg => val_inv (hc ▸ ev_rep hg (.tmp t))
        split at h
        · rename_i hb
          subst hb
          refine ⟨_, _, h, fun a w F φ hg next Q hn => ?_⟩
          have h1 := refine_good hg (hbool hg)
          exact wp_value (pick_run ho (hbool hg)) (hn _ w F φ h1 (by rw [if_pos rfl]; exact ev_rep h1 x) (Mv.refl _ _ _) fun t ht => by rw [ho] at ht; cases ht)
        · rename_i hb
          have hb' : b = false := by simpa using hb
          subst hb'
          refine ⟨_, _, h, fun a w F φ hg next Q hn => ?_⟩
          have h1 := refine_good hg (hbool hg)
          exact wp_value (pick_run ho (hbool hg)) (hn _ w F φ h1 (by rw [if_neg (by simp)]; exact ev_rep h1 y) (Mv.refl _ _ _) fun t ht => by rw [ho] at ht; cases ht)
      · have hbool : ∀ {a : Act} {w : World} {F : Nat → Option Obj} {φ : Nat → Option Pl}, Good C.E C.glob a w s F φ → a.eval c = .bool b := fun hg => val_inv (hc ▸ ev_rep hg c)
        split at h
        · rename_i hb
          subst hb
          refine ⟨_, _, h, fun a w F φ hg next Q hn => ?_⟩
          exact wp_value (pick_run ho (hbool hg)) (hn _ w F φ hg (by rw [if_pos rfl]; exact ev_rep hg x) (Mv.refl _ _ _) fun t ht => by rw [ho] at ht; cases ht)
        · rename_i hb
          have hb' : b = false := by simpa using hb
          subst hb'
          refine ⟨_, _, h, fun a w F φ hg next Q hn => ?_⟩
          exact wp_value (pick_run ho (hbool hg)) (hn _ w F φ hg (by rw [if_neg (by simp)]; exact ev_rep hg y) (Mv.refl _ _ _) fun t ht => by rw [ho] at ht; cases ht)
    · cases h
  · rename_i t x lo hi mx ho
    split at h
    · obtain ⟨v, s', h1, h2⟩ := loud_sound hC h
      exact ⟨v, s', h1, .of_loud (fun x hx => by rw [ho] at hx; cases hx) h2⟩
    · obtain ⟨v, h1, h2⟩ := quiet_sound hC.enc h
      exact ⟨v, s, h1, .of_quiet h2⟩
  · rename_i ho
    obtain ⟨v, s', h1, h2⟩ := loud_sound hC h
    exact ⟨v, s', h1, .of_loud (fun x hx => by rw [ho] at hx; cases hx) h2⟩
  · split at h
    · obtain ⟨v, h1, h2⟩ := quiet_sound hC.enc h
      exact ⟨v, s, h1, .of_quiet h2⟩
    · rename_i hq
      obtain ⟨v, s', h1, h2⟩ := loud_sound hC h
      exact ⟨v, s', h1, .of_loud (fun x hx => hq (by simp [isQuiet, hx])) h2⟩

theorem stepN_sound {β : Type} (hC : C.Ok) {b : Bool} {K : AV κ → St κ → Option β} {r : β} (h : stepN C kindOf b o s K = some r) : ∃ v s', K v s' = some r ∧ StepOk C o s v s' := by
  unfold stepN at h
  split at h
  · split at h
    · rename_i t p x ho
      obtain ⟨v, s1, h1, h2⟩ := step_sound hC h
      obtain ⟨z, s2, h3, h4⟩ := shut_sound hC.enc h1
      refine ⟨_, _, h3, fun a w F φ hg next Q hn => h2 a w F φ hg next Q fun u w' F' φ' k1 k2 k3 k4 => ?_⟩
      obtain ⟨F2, φ2, k5, k6, k7⟩ := h4 a w' F' φ' _ k1 (env_rep k1 p)
      refine hn u w' F2 φ2 ⟨k5.rel, fun t' v' hv => ?_, by simpa using k5.size, k5.defers, k5.al, k5.glob⟩ (.bot u) (k3.trans k7) k4
      rw [List.getElem?_set] at hv
      split at hv
      · rename_i hp
        subst hp
        split at hv
        · obtain rfl := Option.some.inj hv; exact k6
        · cases hv
      · exact k5.env t' v' hv
    · obtain ⟨v, s1, h1, h2⟩ := step_sound hC h
      obtain ⟨v', s2, h3, h4⟩ := shut_sound hC.enc h1
      refine ⟨v', s2, h3, fun a w F φ hg next Q hn => h2 a w F φ hg next Q fun u w' F' φ' k1 k2 k3 k4 => ?_⟩
      obtain ⟨F2, φ2, k5, k6, k7⟩ := h4 a w' F' φ' u k1 k2
      exact hn u w' F2 φ2 k5 k6 (k3.trans k7) k4
  · exact step_sound hC h

theorem get_bool (hg : Good C.E C.glob a w s F φ) {t : Nat} {b : Bool} (h : s.get t = .val (.bool b)) : a.tmps[t]? = some (.bool b) ∧ a.tmps.getD t undef = .bool b := by
  unfold St.get at h
  rw [List.getD_eq_getElem?_getD] at h
  cases ht : s.env[t]? with
  | none => rw [ht] at h; cases h
  | some v =>
    rw [ht] at h
    simp at h
    subst h
    have hlt : t < a.tmps.size := by rw [hg.size]; exact (List.getElem?_eq_some_iff.1 ht).1
    have := val_inv (hg.env t _ ht)
    refine ⟨?_, this⟩
    simp [hlt] at this ⊢
    exact this

/-- The temporaries that a piece of code may turn. -/
def dsts (l : List Oper) : List Nat := l.filterMap (·.dst)
def writes : Code → List Nat
  | .region _ ops _ => dsts ops.toList
  | .seq a b => writes a ++ writes b
  | .cond _ a b => writes a ++ writes b
  | .block _ c => writes c
  | .loop c => writes c
  | _ => []
/-- All other temporaries are as they were. -/
def KeepT (wr : List Nat) (a a' : Act) : Prop := ∀ t, t ∉ wr → a'.tmps.getD t undef = a.tmps.getD t undef
theorem KeepT.refl (wr : List Nat) (a : Act) : KeepT wr a a := fun _ _ => rfl
theorem KeepT.trans {wr : List Nat} {a b c : Act} (h : KeepT wr a b) (k : KeepT wr b c) : KeepT wr a c := fun t ht => (k t ht).trans (h t ht)
theorem KeepT.mono {wr wr' : List Nat} {a b : Act} (h : KeepT wr a b) (hs : ∀ t, t ∈ wr → t ∈ wr') : KeepT wr' a b := fun t ht => h t fun hm => ht (hs t hm)
theorem KeepT.put {l : List Oper} (a : Act) (u : Value) : KeepT (dsts (o :: l)) a (a.put o.dst u) := fun t ht => by
  unfold Act.put
  cases hd : o.dst with
  | none => rfl
  | some d =>
    have : d ≠ t := fun e => ht (by unfold dsts; rw [List.mem_filterMap]; exact ⟨o, List.mem_cons_self, by rw [hd, e]⟩)
    simp [Array.getD_eq_getD_getElem?, Array.getElem?_setIfInBounds, this]
theorem KeepT.tail {l : List Oper} {a b : Act} (h : KeepT (dsts l) a b) : KeepT (dsts (o :: l)) a b := h.mono fun t ht => by
  unfold dsts at *
  rw [List.mem_filterMap] at *
  obtain ⟨x, h1, h2⟩ := ht
  exact ⟨x, List.mem_cons_of_mem _ h1, h2⟩

theorem put_undef {o : Oper} {a : Act} {w : World} {s : St κ} {F : Nat → Option Obj} {φ : Nat → Option Pl} (hg : Good C.E C.glob a w s F φ) : Good C.E C.glob (a.put o.dst undef) w (s.put o (.val undef)) F φ := by
  have hg' : Good C.E C.glob (a.put o.dst undef) w (s.put { o with op := .ready 0 } (.val undef)) F φ := put_good (o := { o with op := .ready 0 }) hg (.val _) (fun t ht => by cases ht)
  have e : s.put o (.val undef) = s.put { o with op := .ready 0 } (.val undef) := by
    unfold St.put
    cases o.dst with
    | none => rfl
    | some d =>
      simp only
      congr 1
      split <;> simp [isBool, undef]
  rw [e]; exact hg'
theorem wanted_tup {ops : Array Oper} {o : Oper} {a : Act} {w : World} {s : St κ} {F : Nat → Option Obj} {φ : Nat → Option Pl} {j t : Nat} {want : Bool} {us : Array Value} (hg : Good C.E C.glob a w s F φ) (hgd : o.guard = some (j, want)) (ht : (ops[j]?).bind (·.dst) = some t) (hc : s.get t = .val (.tuple us)) : Region.wanted o (yielded ops a.tmps) = false := by
  have h1 : a.tmps.getD t undef = .tuple us := by
    have := env_rep hg t
    rw [show s.env.getD t AV.bot = _ from hc] at this
    exact val_inv this
  have h2 : yielded ops a.tmps j = none := by
    simp only [yielded, ht, Option.bind_some]
    cases hx : a.tmps[t]? with
    | none => rfl
    | some v =>
      have : v = .tuple us := by rw [← h1]; simp [Array.getD_eq_getD_getElem?, hx]
      subst this
      rfl
  simp [Region.wanted, hgd, h2]

theorem execL_sound {β : Type} (hC : C.Ok) {ops : Array Oper} {shut : List Nat} {r : β} : ∀ {l : List Oper} {i : Nat} {s : St κ} {K : St κ → Option β}, execL C kindOf ops shut i l s K = some r →
    ∃ s', K s' = some r ∧ ∀ (a : Act) (w : World) (F : Nat → Option Obj) (φ : Nat → Option Pl), Good C.E C.glob a w s F φ → ∀ Q : Exit → Act → World → Prop, (∀ a' w' F' φ', Good C.E C.glob a' w' s' F' φ' → Mv w F φ w' F' φ' → KeepT (dsts l) a a' → Q .normal a' w') → wpList C.P ops Q l a w
  | [], i, s, K, h => ⟨s, h, fun a w F φ hg Q hQ => hQ a w F φ hg (Mv.refl _ _ _) (KeepT.refl _ _)⟩
  | o :: l, i, s, K, h => by
    unfold execL at h
    split at h
    · rename_i hgd
      obtain ⟨v, s1, h1, h2⟩ := stepN_sound hC h
      obtain ⟨s2, h3, h4⟩ := execL_sound hC h1
      refine ⟨s2, h3, fun a w F φ hg Q hQ => ?_⟩
      unfold wpList
      rw [if_pos (by simp [Region.wanted, hgd])]
      refine .inl (h2 a w F φ hg _ _ fun u w' F' φ' k1 k2 k3 k4 => ?_)
      exact h4 _ w' F' φ' (put_good k1 k2 k4) Q fun a' w2 F2 φ2 k5 k6 k7 => hQ a' w2 F2 φ2 k5 (k3.trans k6) ((KeepT.put a u).trans k7.tail)
    · rename_i j want hgd
      split at h
      · cases h
      · rename_i t ht
        split at h
        · rename_i c hc
          have hy : ∀ {a : Act} {w : World} {F : Nat → Option Obj} {φ : Nat → Option Pl}, Good C.E C.glob a w s F φ → Region.wanted o (yielded ops a.tmps) = (c == want) := fun hg => by
            simp [Region.wanted, hgd, yielded, ht, (get_bool hg hc).1]
          split at h
          · rename_i hcw
            subst hcw
            obtain ⟨v, s1, h1, h2⟩ := stepN_sound hC h
            obtain ⟨s2, h3, h4⟩ := execL_sound hC h1
            refine ⟨s2, h3, fun a w F φ hg Q hQ => ?_⟩
            unfold wpList
            rw [if_pos (by rw [hy hg]; simp)]
            refine .inl (h2 a w F φ (refine_good hg (get_bool hg hc).2) _ _ fun u w' F' φ' k1 k2 k3 k4 => ?_)
            exact h4 _ w' F' φ' (put_good k1 k2 k4) Q fun a' w2 F2 φ2 k5 k6 k7 => hQ a' w2 F2 φ2 k5 (k3.trans k6) ((KeepT.put a u).trans k7.tail)
          · rename_i hcw
            obtain ⟨s2, h3, h4⟩ := execL_sound hC h
            refine ⟨s2, h3, fun a w F φ hg Q hQ => ?_⟩
            unfold wpList
            rw [if_neg (by rw [hy hg]; simpa using hcw)]
            have hcb : c = !want := by cases c <;> cases want <;> simp_all
            exact h4 _ w F φ (put_undef (refine_good hg (by rw [← hcb]; exact (get_bool hg hc).2))) Q fun a' w2 F2 φ2 k5 k6 k7 => hQ a' w2 F2 φ2 k5 k6 ((KeepT.put a undef).trans k7.tail)
        · rename_i us hc
          obtain ⟨s2, h3, h4⟩ := execL_sound hC h
          refine ⟨s2, h3, fun a w F φ hg Q hQ => ?_⟩
          unfold wpList
          rw [if_neg (by rw [wanted_tup hg hgd ht hc]; simp)]
          exact h4 _ w F φ (put_undef hg) Q fun a' w2 F2 φ2 k5 k6 k7 => hQ a' w2 F2 φ2 k5 k6 ((KeepT.put a undef).trans k7.tail)
        · cases h

/-! ### Where the order is open -/
def StepQOk (C : Ctx κ) (o : Oper) (s : St κ) (v : AV κ) (s' : St κ) : Prop :=
  ∀ (a : Act) (w : World) (F : Nat → Option Obj) (φ : Nat → Option Pl), Good C.E C.glob a w s F φ → ∃ u, Rep C.E F φ v u ∧ Good C.E C.glob a w s' F φ ∧ (∀ t, o.op = .move (.tmp t) → u = a.tmps.getD t undef) ∧
    ∀ w', Grow w w' → o.quietAt C.P a (Grow w) w' u
theorem StepQOk.of_quiet {v : AV κ} (h : QuietOk C o s v) : StepQOk C o s v s := fun a w F φ hg => by
  obtain ⟨u, h1, h2, h3, _⟩ := h a w F φ hg
  refine ⟨u, h1, hg, h2, fun w' hw => ?_⟩
  unfold Oper.quietAt
  rw [h3 w' hw.sub]
  exact ⟨rfl, rfl⟩
theorem StepQOk.of_run {v : AV κ} {u : Act → Value} (h : ∀ (a : Act) (w : World) (F : Nat → Option Obj) (φ : Nat → Option Pl), Good C.E C.glob a w s F φ → Good C.E C.glob a w s' F φ ∧ Rep C.E F φ v (u a) ∧ ∀ w', (execOp a.eval o).run C.P w' = .ok (.value (u a)) w') (hm : ∀ x, o.op ≠ .move x) : StepQOk C o s v s' := fun a w F φ hg => by
  obtain ⟨h1, h2, h3⟩ := h a w F φ hg
  refine ⟨u a, h2, h1, fun t ht => absurd ht (hm _), fun w' _ => ?_⟩
  unfold Oper.quietAt
  rw [h3 w']
  exact ⟨rfl, rfl⟩

theorem stepQ_sound {β : Type} (hC : C.Ok) {K : AV κ → St κ → Option β} {r : β} (h : stepQ C o s K = some r) : ∃ v s', K v s' = some r ∧ StepQOk C o s v s' := by
  unfold stepQ at h
  split at h
  · rename_i c x y ho
    have hnm : ∀ z, o.op ≠ .move z := fun z hz => by rw [ho] at hz; cases hz
    split at h
    · rename_i b hc
      split at h
      · rename_i t
        have hbool : ∀ {a : Act} {w : World} {F : Nat → Option Obj} {φ : Nat → Option Pl}, Good C.E C.glob a w s F φ → a.tmps.getD t undef = .bool b := fun hg => val_inv (hc ▸ ev_rep hg (.tmp t))
        split at h
        · rename_i hb
          subst hb
          refine ⟨_, _, h, .of_run (u := fun a => a.eval x) (fun a w F φ hg => ?_) hnm⟩
          have h1 := refine_good hg (hbool hg)
          exact ⟨h1, ev_rep h1 x, fun w' => by have := pick_run (P := C.P) (w := w') ho (hbool hg); simpa using this⟩
        · rename_i hb
          have hb' : b = false := by simpa using hb
          subst hb'
          refine ⟨_, _, h, .of_run (u := fun a => a.eval y) (fun a w F φ hg => ?_) hnm⟩
          have h1 := refine_good hg (hbool hg)
          exact ⟨h1, ev_rep h1 y, fun w' => by have := pick_run (P := C.P) (w := w') ho (hbool hg); simpa using this⟩
      · have hbool : ∀ {a : Act} {w : World} {F : Nat → Option Obj} {φ : Nat → Option Pl}, Good C.E C.glob a w s F φ → a.eval c = .bool b := fun hg => val_inv (hc ▸ ev_rep hg c)
        split at h
        · rename_i hb
          subst hb
          exact ⟨_, _, h, .of_run (u := fun a => a.eval x) (fun a w F φ hg => ⟨hg, ev_rep hg x, fun w' => by have := pick_run (P := C.P) (w := w') ho (hbool hg); simpa using this⟩) hnm⟩
        · rename_i hb
          have hb' : b = false := by simpa using hb
          subst hb'
          exact ⟨_, _, h, .of_run (u := fun a => a.eval y) (fun a w F φ hg => ⟨hg, ev_rep hg y, fun w' => by have := pick_run (P := C.P) (w := w') ho (hbool hg); simpa using this⟩) hnm⟩
    · cases h
  · rename_i f args ts ho
    split at h
    · rename_i fid caps hf
      obtain ⟨hent, v, u, hK, hrep, hcall⟩ := hC.gamq fid β _ _ _ _ h
      refine ⟨v, s, hK, fun a w F φ hg => ⟨u, hrep F φ, hg, fun t ht => (by rw [ho] at ht; cases ht), fun w' hw => ?_⟩⟩
      have hg' := hg.grow hw
      have hfr := ev_rep hg f
      rw [hf] at hfr
      generalize hz : a.eval f = z at hfr
      cases hfr with
      | fn _ _ us hl hr =>
        have hargs : Reps C.E F φ (args.toList.map (ev C s) ++ caps) (args.map a.eval ++ us).toList := by
          rw [Array.toList_append, Array.toList_map]
          exact (reps_map hg _).append ⟨by simpa using hl, fun j c u hc hu => hr j c u hc (by simpa using hu)⟩
        have hrun : (execOp a.eval o).run C.P w' = .ok (.enter fid (args.map a.eval ++ us)) w' := by
          unfold execOp
          simp only [ho, resolve, hz, Deferred.ofValue, Sem.run_bind, Sem.run_pure, Result.andThen_ok, invoke]
          simp only [Array.empty_append]
          exact hent _ w'
        unfold Oper.quietAt
        rw [hrun]
        exact ⟨rfl, (hcall w' F φ _ hg'.rel hg'.glob hargs).mono fun e w2 ⟨h1, h2⟩ => ⟨h1, hw.trans h2⟩⟩
    · cases h
  · obtain ⟨v, h1, h2⟩ := quiet_sound hC.enc h
    exact ⟨v, s, h1, .of_quiet h2⟩

theorem put_bot (hg : Good C.E C.glob a w s F φ) : Good C.E C.glob (a.put o.dst undef) w (s.put o .bot) F φ := by
  have hg' : Good C.E C.glob (a.put o.dst undef) w (s.put { o with op := .ready 0 } .bot) F φ := put_good (o := { o with op := .ready 0 }) hg (.bot _) (fun t ht => by cases ht)
  have e : s.put o .bot = s.put { o with op := .ready 0 } .bot := by
    unfold St.put
    cases o.dst with
    | none => rfl
    | some d =>
      simp only
      congr 1
      split <;> simp [isBool]
  rw [e]; exact hg'

theorem execQ_sound {β : Type} (hC : C.Ok) {ops : Array Oper} {r : β} : ∀ {l : List Oper} {s : St κ} {K : St κ → Option β}, execQ C ops l s K = some r →
    ∃ s', K s' = some r ∧ ∀ (a : Act) (w : World) (F : Nat → Option Obj) (φ : Nat → Option Pl), Good C.E C.glob a w s F φ → ∀ Q : Act → Prop, (∀ a', Good C.E C.glob a' w s' F φ → KeepT (dsts l) a a' → Q a') → wpQuiet C.P ops (Grow w) Q l a
  | [], s, K, h => ⟨s, h, fun a w F φ hg Q hQ => hQ a hg (KeepT.refl _ _)⟩
  | o :: l, s, K, h => by
    unfold execQ at h
    split at h
    · rename_i hgd
      obtain ⟨v, s1, h1, h2⟩ := stepQ_sound hC h
      obtain ⟨s2, h3, h4⟩ := execQ_sound hC h1
      refine ⟨s2, h3, fun a w F φ hg Q hQ => ?_⟩
      unfold wpQuiet
      rw [if_pos (by simp [Region.wanted, hgd])]
      obtain ⟨u, k1, k2, k3, k4⟩ := h2 a w F φ hg
      exact ⟨u, k4, h4 _ w F φ (put_good k2 k1 k3) Q fun a' k5 k6 => hQ a' k5 ((KeepT.put a u).trans k6.tail)⟩
    · rename_i j want hgd
      split at h
      · cases h
      · rename_i t ht
        split at h
        · rename_i c hc
          have hy : ∀ {a : Act} {w : World} {F : Nat → Option Obj} {φ : Nat → Option Pl}, Good C.E C.glob a w s F φ → Region.wanted o (yielded ops a.tmps) = (c == want) := fun hg => by
            simp [Region.wanted, hgd, yielded, ht, (get_bool hg hc).1]
          split at h
          · rename_i hcw
            subst hcw
            obtain ⟨v, s1, h1, h2⟩ := stepQ_sound hC h
            obtain ⟨s2, h3, h4⟩ := execQ_sound hC h1
            refine ⟨s2, h3, fun a w F φ hg Q hQ => ?_⟩
            unfold wpQuiet
            rw [if_pos (by rw [hy hg]; simp)]
            obtain ⟨u, k1, k2, k3, k4⟩ := h2 a w F φ (refine_good hg (get_bool hg hc).2)
            exact ⟨u, k4, h4 _ w F φ (put_good k2 k1 k3) Q fun a' k5 k6 => hQ a' k5 ((KeepT.put a u).trans k6.tail)⟩
          · rename_i hcw
            obtain ⟨s2, h3, h4⟩ := execQ_sound hC h
            refine ⟨s2, h3, fun a w F φ hg Q hQ => ?_⟩
            unfold wpQuiet
            rw [if_neg (by rw [hy hg]; simpa using hcw)]
            have hcb : c = !want := by cases c <;> cases want <;> simp_all
            exact h4 _ w F φ (put_undef (refine_good hg (by rw [← hcb]; exact (get_bool hg hc).2))) Q fun a' k5 k6 => hQ a' k5 ((KeepT.put a undef).trans k6.tail)
        · rename_i us hc
          obtain ⟨s2, h3, h4⟩ := execQ_sound hC h
          refine ⟨s2, h3, fun a w F φ hg Q hQ => ?_⟩
          unfold wpQuiet
          rw [if_neg (by rw [wanted_tup hg hgd ht hc]; simp)]
          exact h4 _ w F φ (put_undef hg) Q fun a' k5 k6 => hQ a' k5 ((KeepT.put a undef).trans k6.tail)
        · cases h

theorem Grow.drawn (w : World) : Grow w { w with drawn := w.drawn + 1 } := ⟨rfl, rfl, rfl, Nat.le_refl _, fun _ _ => rfl⟩

theorem execD_sound {β : Type} (hC : C.Ok) {r : β} {id : Nat} {ops : Array Oper} {n : Note} {s : St κ} {K : St κ → Option β} (h : execD C kindOf ops n s K = some r) :
    ∃ s', K s' = some r ∧ ∀ (a : Act) (w : World) (F : Nat → Option Obj) (φ : Nat → Option Pl), Good C.E C.glob a w s F φ → ∀ Q : Exit → Act → World → Prop,
      (∀ a' w' F' φ', Good C.E C.glob a' w' s' F' φ' → Mv w F φ w' F' φ' → KeepT (dsts ops.toList) a a' → Q .normal a' w') → (Code.region id ops true).wp C.P Q a w := by
  unfold execD at h
  split at h
  · split at h
    · rename_i hB
      obtain ⟨s', h1, h2⟩ := execQ_sound hC h
      refine ⟨s', h1, fun a w F φ hg Q hQ => ?_⟩
      refine wp_region_quiet (C := Grow w) hC.mix hB (Grow.drawn w) (h2 a w F φ hg _ fun a' k1 k2 w' hw => ?_)
      exact hQ a' w' F φ (k1.grow hw) hw.mv k2
    · cases h
  · split at h
    · rename_i hB
      obtain ⟨s1, h1, h2⟩ := execQ_sound hC h
      obtain ⟨s2, h3, h4⟩ := execL_sound hC h1
      refine ⟨s2, h3, fun a w F φ hg Q hQ => ?_⟩
      have e : ops = ops.toList.toArray := by simp
      rw [e]
      refine wp_quiet_tail (CW := Grow w) n.head hC.mix (by rw [← e]; exact hB) (Grow.drawn w) ?_
      rw [← e]
      refine h2 a w F φ hg _ fun a' k1 k2 w' hw => h4 a' w' F φ (k1.grow hw) Q fun a2 w2 F2 φ2 k3 k4 k5 => ?_
      refine hQ a2 w2 F2 φ2 k3 (hw.mv.trans k4) ((k2.mono fun t ht => ?_).trans (k5.mono fun t ht => ?_))
      · unfold dsts at *
        rw [List.mem_filterMap] at *
        obtain ⟨x, h5, h6⟩ := ht
        exact ⟨x, List.mem_of_mem_take h5, h6⟩
      · unfold dsts at *
        rw [List.mem_filterMap] at *
        obtain ⟨x, h5, h6⟩ := ht
        exact ⟨x, List.mem_of_mem_drop h5, h6⟩
    · cases h

def Tr (C : Ctx κ) (c : Code) (s : St κ) (x : Ex) (s' : St κ) : Prop :=
  ∀ (a : Act) (w : World) (F : Nat → Option Obj) (φ : Nat → Option Pl), Good C.E C.glob a w s F φ → ∀ Q : Exit → Act → World → Prop, (∀ a' w' F' φ', Good C.E C.glob a' w' s' F' φ' → Mv w F φ w' F' φ' → KeepT (writes c) a a' → Q x.to a' w') → c.wp C.P Q a w
def LamOk (C : Ctx κ) (lam : Lam κ) (c : Code) : Prop := ∀ (β : Type) (s : St κ) (K : Ex → St κ → Option β) (r : β), lam s K = some r → ∃ x s', K x s' = some r ∧ Tr C c s x s'

/-- The summaries that the notes name are those of the pieces that they stand at. -/
def Fits (C : Ctx κ) : Code → Note → Prop
  | .seq a b, n => match n with | .cut id => LamOk C (C.Λ id) (.seq a b) | n => Fits C a n.l ∧ Fits C b n.r
  | .cond c a b, n => match n with | .cut id => LamOk C (C.Λ id) (.cond c a b) | n => Fits C a n.l ∧ Fits C b n.r
  | .block id c, n => match n with | .cut i => LamOk C (C.Λ i) (.block id c) | n => Fits C c n.l
  | c, n => match n with | .cut id => LamOk C (C.Λ id) c | _ => True

theorem al_good (hg : Good C.E C.glob a w s F φ) : Good C.E C.glob a w { s with al := [] } F φ := ⟨hg.rel, hg.env, hg.size, hg.defers, fun p hp => by simp at hp, hg.glob⟩

theorem ev_bool (hg : Good C.E C.glob a w s F φ) {c : Operand} {b : Bool} (e : ev C s c = .val (.bool b)) : a.eval c = .bool b := val_inv (e ▸ ev_rep hg c)
theorem region_sound {β : Type} (hC : C.Ok) {r : β} {id : Nat} {ops : Array Oper} {draw : Bool} {n : Note} {s : St κ} {K : Ex → St κ → Option β}
    (h : (if draw = true then execD C kindOf ops n { s with al := [] } fun s' => K .normal s' else execL C kindOf ops n.shut 0 ops.toList { s with al := [] } fun s' => K .normal s') = some r) :
    ∃ x s', K x s' = some r ∧ Tr C (.region id ops draw) s x s' := by
  cases draw with
  | true =>
    obtain ⟨s', h1, h2⟩ := execD_sound (id := id) hC (by simpa using h)
    exact ⟨.normal, s', h1, fun a w F φ hg Q hQ => h2 a w F φ (al_good hg) Q fun a' w' F' φ' k1 k2 k3 => hQ a' w' F' φ' k1 k2 k3⟩
  | false =>
    obtain ⟨s', h1, h2⟩ := execL_sound hC (by simpa using h)
    exact ⟨.normal, s', h1, fun a w F φ hg Q hQ => wp_region_list (h2 a w F φ (al_good hg) Q fun a' w' F' φ' k1 k2 k3 => hQ a' w' F' φ' k1 k2 k3)⟩

theorem exec_sound {β : Type} (hC : C.Ok) {r : β} : ∀ {c : Code} {n : Note} {s : St κ} {K : Ex → St κ → Option β}, Fits C c n → exec C kindOf c n s K = some r → ∃ x s', K x s' = some r ∧ Tr C c s x s' := by
  intro c
  induction c with
  | skip =>
    intro n s K hf h
    cases n <;> first | exact ⟨.normal, s, h, fun a w F φ hg Q hQ => wp_skip (hQ a w F φ hg (Mv.refl _ _ _) (KeepT.refl _ _))⟩ | exact hf β s K r h
  | label l =>
    intro n s K hf h
    cases n <;> first | exact ⟨.normal, s, h, fun a w F φ hg Q hQ => wp_label (hQ a w F φ hg (Mv.refl _ _ _) (KeepT.refl _ _))⟩ | exact hf β s K r h
  | exit id =>
    intro n s K hf h
    cases n <;> first | exact ⟨.exit id, s, h, fun a w F φ hg Q hQ => wp_exit (hQ a w F φ hg (Mv.refl _ _ _) (KeepT.refl _ _))⟩ | exact hf β s K r h
  | ret =>
    intro n s K hf h
    cases n <;> first | exact ⟨.ret, s, h, fun a w F φ hg Q hQ => wp_ret (hQ a w F φ hg (Mv.refl _ _ _) (KeepT.refl _ _))⟩ | exact hf β s K r h
  | region id ops draw =>
    intro n s K hf h
    cases n <;> first | exact region_sound hC h | exact hf β s K r h
  | seq x y ihx ihy =>
    intro n s K hf h
    have main : Fits C x n.l → Fits C y n.r → (exec C kindOf x n.l s fun e s' => match e with | .normal => exec C kindOf y n.r s' K | e => K e s') = some r → ∃ e s', K e s' = some r ∧ Tr C (.seq x y) s e s' := by
      intro hfx hfy h
      obtain ⟨e, s1, h1, h2⟩ := ihx hfx h
      cases e with
      | normal =>
        obtain ⟨e', s2, h3, h4⟩ := ihy hfy h1
        refine ⟨e', s2, h3, fun a w F φ hg Q hQ => wp_seq (h2 a w F φ hg _ fun a' w' F' φ' k1 k2 k0 => ?_)⟩
        exact h4 a' w' F' φ' k1 Q fun a2 w2 F2 φ2 k3 k4 k5 => hQ a2 w2 F2 φ2 k3 (k2.trans k4) ((k0.mono fun t ht => List.mem_append_left _ ht).trans (k5.mono fun t ht => List.mem_append_right _ ht))
      | exit i => exact ⟨.exit i, s1, h1, fun a w F φ hg Q hQ => wp_seq (h2 a w F φ hg _ fun a' w' F' φ' k1 k2 k0 => hQ a' w' F' φ' k1 k2 (k0.mono fun t ht => List.mem_append_left _ ht))⟩
      | ret => exact ⟨.ret, s1, h1, fun a w F φ hg Q hQ => wp_seq (h2 a w F φ hg _ fun a' w' F' φ' k1 k2 k0 => hQ a' w' F' φ' k1 k2 (k0.mono fun t ht => List.mem_append_left _ ht))⟩
    cases n <;> first | exact main hf.1 hf.2 h | exact hf β s K r h
  | cond c x y ihx ihy =>
    intro n s K hf h
    cases n with
    | cut id => exact hf β s K r h
    | _ =>
      obtain ⟨hfx, hfy⟩ := hf
      simp only [exec] at h
      split at h
      · rename_i b hb
        split at h
        · rename_i t
          split at h
          · rename_i hbt
            subst hbt
            obtain ⟨e, s1, h1, h2⟩ := ihx hfx h
            exact ⟨e, s1, h1, fun a w F φ hg Q hQ => wp_cond_true (ev_bool hg hb) (h2 a w F φ (refine_good (al_good hg) (ev_bool hg hb)) Q fun a' w' F' φ' k1 k2 k0 => hQ a' w' F' φ' k1 k2 (k0.mono fun t ht => List.mem_append_left _ ht))⟩
          · rename_i hbt
            have hb' : b = false := by simpa using hbt
            subst hb'
            obtain ⟨e, s1, h1, h2⟩ := ihy hfy h
            exact ⟨e, s1, h1, fun a w F φ hg Q hQ => wp_cond_false (ev_bool hg hb) (h2 a w F φ (refine_good (al_good hg) (ev_bool hg hb)) Q fun a' w' F' φ' k1 k2 k0 => hQ a' w' F' φ' k1 k2 (k0.mono fun t ht => List.mem_append_right _ ht))⟩
        · split at h
          · rename_i hbt
            subst hbt
            obtain ⟨e, s1, h1, h2⟩ := ihx hfx h
            exact ⟨e, s1, h1, fun a w F φ hg Q hQ => wp_cond_true (ev_bool hg hb) (h2 a w F φ hg Q fun a' w' F' φ' k1 k2 k0 => hQ a' w' F' φ' k1 k2 (k0.mono fun t ht => List.mem_append_left _ ht))⟩
          · rename_i hbt
            have hb' : b = false := by simpa using hbt
            subst hb'
            obtain ⟨e, s1, h1, h2⟩ := ihy hfy h
            exact ⟨e, s1, h1, fun a w F φ hg Q hQ => wp_cond_false (ev_bool hg hb) (h2 a w F φ hg Q fun a' w' F' φ' k1 k2 k0 => hQ a' w' F' φ' k1 k2 (k0.mono fun t ht => List.mem_append_right _ ht))⟩
      · cases h
  | block id c ih =>
    intro n s K hf h
    have main : Fits C c n.l → (exec C kindOf c n.l s fun x s' => match x with
      | .exit j => if j = id then K .normal s' else K (.exit j) s'
      | x => K x s') = some r → ∃ e s', K e s' = some r ∧ Tr C (.block id c) s e s' := by
      intro hfc h
      obtain ⟨e, s1, h1, h2⟩ := ih hfc h
      cases e with
      | normal => exact ⟨.normal, s1, h1, fun a w F φ hg Q hQ => wp_block (h2 a w F φ hg _ fun a' w' F' φ' k1 k2 k0 => hQ a' w' F' φ' k1 k2 k0)⟩
      | ret => exact ⟨.ret, s1, h1, fun a w F φ hg Q hQ => wp_block (h2 a w F φ hg _ fun a' w' F' φ' k1 k2 k0 => hQ a' w' F' φ' k1 k2 k0)⟩
      | exit j =>
        simp only at h1
        split at h1
        · rename_i hj
          exact ⟨.normal, s1, h1, fun a w F φ hg Q hQ => wp_block (h2 a w F φ hg _ fun a' w' F' φ' k1 k2 k0 => by
            simp only [Ex.to, Exit.inBlock, if_pos hj]; exact hQ a' w' F' φ' k1 k2 k0)⟩
        · rename_i hj
          exact ⟨.exit j, s1, h1, fun a w F φ hg Q hQ => wp_block (h2 a w F φ hg _ fun a' w' F' φ' k1 k2 k0 => by
            simp only [Ex.to, Exit.inBlock, if_neg hj]; exact hQ a' w' F' φ' k1 k2 k0)⟩
    cases n <;> first | exact main hf h | exact hf β s K r h
  | loop c ih =>
    intro n s K hf h
    cases n <;> first | exact hf β s K r h | (simp [exec] at h)
  | _ => intro n s K hf h; simp [exec] at h
end
end Go.Am
