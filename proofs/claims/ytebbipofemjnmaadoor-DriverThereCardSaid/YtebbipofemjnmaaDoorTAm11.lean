/- One operation, a list of operations: whatever the machine reckons the program does. -/
import Derived.Test.YtebbipofemjnmaaDoorTAm10
namespace Go.Am
noncomputable section
open Go.RowKit
variable {κ : Kinds} {E : Encs κ} {F F' : Nat → Option Obj} {φ φ' : Nat → Option Pl} {P : Program} {C : Ctx κ} {a : Act} {w w' : World} {s s' : St κ} {o : Oper}

/-- What a callee does: from memory as told to memory as told. -/
def CallOk (P : Program) (E : Encs κ) (G : Nat → AV κ) (fid : FuncId) (args : List (AV κ)) (S : List (Blk κ)) (v : AV κ) (S' : List (Blk κ)) (m : List (Nat × Nat)) : Prop :=
  ∀ (w : World) (F : Nat → Option Obj) (φ : Nat → Option Pl) (us : Array Value), Rel E F φ S w → (∀ (g : Nat) (ψ : Nat → Option Pl), Rep E F ψ (G g) (.pointer (some ⟨g, 0, none⟩))) → Reps E F φ args us.toList →
    Calls P fid us w fun e w' => ∃ u F' φ', e = .returned u ∧ Rel E F' φ' S' w' ∧ Rep E F' φ' v u ∧ Mv w F φ w' F' φ' ∧ ∀ (es : List (AV κ)) (vs : List Value), Reps E F φ es vs → Reps E F' φ' (kwE m es) vs
def EntOk (P : Program) (E : Encs κ) (G : Nat → AV κ) (fid : FuncId) (en : Ent κ) : Prop :=
  ∀ (β : Type) (args : List (AV κ)) (S : List (Blk κ)) (K : AV κ → List (Blk κ) → List (Nat × Nat) → Option β) (r : β), en args S K = some r →
    (∀ (us : Array Value) (w : World), (callFunc fid us).run P w = .ok (.enter fid us) w) ∧ ∃ v S' m, K v S' m = some r ∧ CallOk P E G fid args S v S' m

/-- Nothing that was there has turned. -/
structure Grow (w w' : World) : Prop where
  os : w'.os = w.os
  tape : w'.tape = w.tape
  output : w'.output = w.output
  size : w.heap.size ≤ w'.heap.size
  blk : ∀ b, b < w.heap.size → w'.heap[b]? = w.heap[b]?
theorem Grow.sub (h : Grow w w') : Sub w w' := fun b o hb => by rw [h.blk b (Array.getElem?_eq_some_iff.1 hb).1]; exact hb
theorem Grow.trans {w2 : World} (h : Grow w w') (k : Grow w' w2) : Grow w w2 := ⟨k.os.trans h.os, k.tape.trans h.tape, k.output.trans h.output, Nat.le_trans h.size k.size, fun b hb => (k.blk b (Nat.lt_of_lt_of_le hb h.size)).trans (h.blk b hb)⟩
theorem Grow.mv (h : Grow w w') : Mv w F φ w' F φ := ⟨h.os, h.tape, h.output, h.size, fun b hb _ => h.blk b hb, fun _ hb _ => hb, Le.refl F, fun b o h1 h2 => by rw [h2] at h1; cases h1⟩
theorem Rel.sub {S : List (Blk κ)} (h : Rel E F φ S w) (k : Sub w w') (hs : w.heap.size ≤ w'.heap.size) : Rel E F φ S w' := by
  refine ⟨fun b o hb => k b o (h.frz b o hb), fun i b hb => ?_, h.out, h.inj, h.apart, fun i p g h1 h2 => Nat.lt_of_lt_of_le (h.lt i p g h1 h2) hs⟩
  exact (h.blk i b hb).keep rfl (fun _ _ h => h) fun p g ob _ _ h3 => k g ob h3
theorem Good.grow (h : Good C.E C.glob a w s F φ) (k : Grow w w') : Good C.E C.glob a w' s F φ := ⟨h.rel.sub k.sub k.size, h.env, h.size, h.defers, h.al, h.glob⟩

def QEntOk (P : Program) (E : Encs κ) (G : Nat → AV κ) (fid : FuncId) (en : QEnt κ) : Prop :=
  ∀ (β : Type) (args : List (AV κ)) (S : List (Blk κ)) (K : AV κ → Option β) (r : β), en args S K = some r →
    (∀ (us : Array Value) (w : World), (callFunc fid us).run P w = .ok (.enter fid us) w) ∧ ∃ v u, K v = some r ∧ (∀ F φ, Rep E F φ v u) ∧
    ∀ (w : World) (F : Nat → Option Obj) (φ : Nat → Option Pl) (us : Array Value), Rel E F φ S w → (∀ (g : Nat) (ψ : Nat → Option Pl), Rep E F ψ (G g) (.pointer (some ⟨g, 0, none⟩))) → Reps E F φ args us.toList →
      Calls P fid us w fun e w' => e = .returned u ∧ Grow w w'

structure Ctx.Ok (C : Ctx κ) : Prop where
  enc : C.E.Ok
  fit : ∀ k : κ.Kc, Fit C.P k
  gam : ∀ fid, EntOk C.P C.E C.glob fid (C.Γ fid)
  gamq : ∀ fid, QEntOk C.P C.E C.glob fid (C.Γq fid)
  mix : C.P.follows .mixedOrders = true

theorem loud_slice {β : Type} (hC : C.Ok) {kindOf : TypeId → Option κ.Kc} {t : TypeId} {x h' : Operand} {K : AV κ → St κ → Option β} {r : β} (ho : o.op = .slice t x none (some h') none) (h : loud? C kindOf o s K = some r) :
    ∃ v s', K v s' = some r ∧ LoudOk C o s v s' := by
  simp only [loud?, ho] at h
  split at h
  · rename_i d e k i kh vh hu hx hh
    split at h
    · rename_i k' xs hS
      split at h
      · rename_i hk
        obtain ⟨rfl, hsz⟩ := hk
        split at h
        · rename_i hv
          refine ⟨_, _, h, fun a w F φ hg next Q hn => ?_⟩
          have hxr := ev_rep hg x
          rw [hx] at hxr
          have e2 := val_inv (hh ▸ ev_rep hg h')
          have hpos : 0 < sizeOf? C.P e := by rw [hsz]; exact hC.enc.pos k'
          have hle : vh.toNat ≤ xs.length := by omega
          have htl : (xs.take vh.toNat).length = vh.toNat := by simp; omega
          obtain ⟨p, h1, h2, hh⟩ := own_inv hg hxr hS
          rcases hh with ⟨hpg, rfl, hxv⟩ | ⟨g, hpg, hxv⟩
          · have h0 : vh.toNat = 0 := by simpa using hle
            obtain ⟨n1, n2, n3⟩ := nil_turn hC.enc hg hS k'
            refine wp_value (u := .slice none 0 0) (w' := w) ?_ (hn _ _ _ _ (by rw [h0]; exact n1) n2 n3)
            unfold execOp
            rw [ho]
            refine run_v ?_
            rw [hxv]
            simp only [Option.map_some, Option.map_none]
            rw [e2]
            exact run_sliceNil hu hpos (fun w => by simp [Instr.sliceBounds, run_bound (y := 0) hv.1 (by omega), h0]) w
          · obtain ⟨p', h3, h4, hh⟩ := hg.rel.blk i _ hS
            obtain rfl := Option.some.inj (h1.symm.trans h3)
            rcases hh with ⟨hn, _⟩ | ⟨g', cur, hpg', h5, h6, h7, h8, h9⟩
            · rw [hpg] at hn; cases hn
            obtain rfl := Option.some.inj (hpg.symm.trans hpg')
            have n1 := rows_turn hC.enc hg hS (w' := w) (row := none) (k := k') (zs := xs.take vh.toNat) (cur := cur) (cap := p.cap) (g := g) h6 (by omega) h8 (fun r x j c u hx hc hu => h9 r x j c u (by
                rw [List.getElem?_take] at hx
                split at hx
                · exact hx
                · cases hx) hc (by simpa using hu)) ⟨rfl, rfl, rfl, Nat.le_refl _, fun _ _ _ => rfl⟩ (fun k h => by cases h) h5 (.inl ⟨p, h1, hpg⟩)
            rw [htl] at n1
            refine wp_value (u := .slice (some ⟨g, 0, none⟩) vh.toNat p.cap) (w' := w) ?_ (hn _ _ _ _ n1.1 n1.2.1 n1.2.2)
            unfold execOp
            rw [ho]
            refine run_v ?_
            rw [hxv]
            simp only [Option.map_some, Option.map_none]
            rw [e2]
            have := run_sliceAt (b := g) (off := 0) (len := xs.length) (cap := p.cap) (lo := none) (hi := some (.int kh vh)) 0 vh.toNat hu hpos hsz (fun w => by simp [Instr.sliceBounds, run_bound (y := p.cap) hv.1 (by omega)]) w
            simpa using this
        · cases h
      · cases h
    · cases h
  · cases h

theorem reps_map (hg : Good C.E C.glob a w s F φ) (xs : List Operand) : Reps C.E F φ (xs.map (ev C s)) (xs.map a.eval) := by
  refine ⟨by simp, fun j c u hc hu => ?_⟩
  rw [List.getElem?_map] at hc hu
  cases hx : xs[j]? with
  | none => rw [hx] at hc; cases hc
  | some x =>
    rw [hx] at hc hu
    simp at hc hu
    subst hc; subst hu
    exact ev_rep hg x
theorem Reps.append {cs ds : List (AV κ)} {us vs : List Value} (h : Reps E F φ cs us) (k : Reps E F φ ds vs) : Reps E F φ (cs ++ ds) (us ++ vs) := by
  refine ⟨by simp [h.1, k.1], fun j c u hc hu => ?_⟩
  by_cases hj : j < cs.length
  · rw [List.getElem?_append_left hj] at hc
    rw [List.getElem?_append_left (by rw [← h.1]; exact hj)] at hu
    exact h.2 j c u hc hu
  · rw [List.getElem?_append_right (by omega)] at hc
    rw [List.getElem?_append_right (by rw [← h.1]; omega), ← h.1] at hu
    exact k.2 _ c u hc hu

theorem loud_call {β : Type} (hC : C.Ok) {kindOf : TypeId → Option κ.Kc} {f : Operand} {args : Array Operand} {ts : Array TypeId} {K : AV κ → St κ → Option β} {r : β} (ho : o.op = .call ⟨.value f, args, ts⟩) (h : loud? C kindOf o s K = some r) :
    ∃ v s', K v s' = some r ∧ LoudOk C o s v s' := by
  simp only [loud?, ho] at h
  split at h
  · rename_i fid caps hf
    obtain ⟨hent, v, S', m, hK, hcall⟩ := hC.gam fid β _ _ _ _ h
    refine ⟨v, _, hK, fun a w F φ hg next Q hn => ?_⟩
    have hfr := ev_rep hg f
    rw [hf] at hfr
    generalize hz : a.eval f = z at hfr
    cases hfr with
    | fn _ _ us hl hr =>
      have hargs : Reps C.E F φ (args.toList.map (ev C s) ++ caps) (args.map a.eval ++ us).toList := by
        rw [Array.toList_append, Array.toList_map]
        exact (reps_map hg _).append ⟨by simpa using hl, fun j c u hc hu => hr j c u hc (by simpa using hu)⟩
      have hrun : (execOp a.eval o).run C.P w = .ok (.enter fid (args.map a.eval ++ us)) w := by
        unfold execOp
        simp only [ho, resolve, hz, Deferred.ofValue, Sem.run_bind, Sem.run_pure, Result.andThen_ok, invoke]
        simp only [Array.empty_append]
        exact hent _ w
      unfold Oper.wp
      rw [hrun]
      refine (hcall w F φ _ hg.rel hg.glob hargs).mono ?_
      rintro e w' ⟨u, F', φ', rfl, h1, h2, h3, h4⟩
      have hen : Reps C.E F φ s.env a.tmps.toList := ⟨by simpa using hg.size.symm, fun j c u hc hu => by
        have := hg.env j c hc
        have e : a.tmps.getD j undef = u := by
          have hlt : j < a.tmps.size := by have := (List.getElem?_eq_some_iff.1 hu).1; simpa using this
          simp [hlt] at hu ⊢; exact hu
        rwa [e] at this⟩
      have hen' := h4 _ _ hen
      refine hn u w' F' φ' ⟨h1, fun t v hv => ?_, by have := hen'.1; simpa using this.symm, hg.defers, hg.al, fun g ψ => (hg.glob g ψ).mono h3.le⟩ h2 h3
      have hlt : t < a.tmps.size := by have := (List.getElem?_eq_some_iff.1 hv).1; rw [hen'.1] at this; simpa using this
      exact hen'.2 t v _ hv (by simp [hlt])
  · cases h

theorem loud_sound {β : Type} (hC : C.Ok) {kindOf : TypeId → Option κ.Kc} {K : AV κ → St κ → Option β} {r : β} (h : loud? C kindOf o s K = some r) : ∃ v s', K v s' = some r ∧ LoudOk C o s v s' := by
  cases ho : o.op with
  | alloc t => exact loud_alloc ho h
  | box t x => exact loud_box ho h
  | assign x =>
    cases x with
    | const v =>
      cases v with
      | slice b l c =>
        cases b with
        | some _ => simp [loud?, ho] at h
        | none =>
          cases l with
          | succ _ => simp [loud?, ho] at h
          | zero =>
            cases c with
            | succ _ => simp [loud?, ho] at h
            | zero => exact loud_nil ho h
      | _ => simp [loud?, ho] at h
    | _ => simp [loud?, ho] at h
  | store t p x => exact loud_store hC.enc ho h
  | buildSlice t n ps => exact loud_buildSlice hC.enc hC.fit ho h
  | makeSlice t x y => exact loud_makeSlice hC.enc hC.fit ho h
  | slice t x lo hi mx =>
    cases lo with
    | some l => simp [loud?, ho] at h
    | none =>
      cases hi with
      | none => simp [loud?, ho] at h
      | some hh =>
        cases mx with
        | some m => simp [loud?, ho] at h
        | none => exact loud_slice hC ho h
  | call c =>
    obtain ⟨callee, args, ts⟩ := c
    cases callee with
    | builtin b =>
      cases b with
      | append => exact loud_append hC.enc hC.fit ho h
      | _ => simp [loud?, ho] at h
    | value f => exact loud_call hC ho h
    | invoke _ _ => simp [loud?, ho] at h
  | _ => simp [loud?, ho] at h

theorem alike_spec {tmps : Array Value} {t : Nat} : ∀ {al : List (Nat × Nat)}, (∀ p, p ∈ al → tmps.getD p.1 undef = tmps.getD p.2 undef) → ∀ x, x ∈ alike t al → tmps.getD x undef = tmps.getD t undef
  | [], _, x, hx => by simp [alike] at hx; rw [hx]
  | (d, u) :: al, h, x, hx => by
    have ih := alike_spec (t := t) (al := al) (fun p hp => h p (List.mem_cons_of_mem _ hp))
    have hdu := h (d, u) List.mem_cons_self
    simp only at hdu
    simp only [alike] at hx
    split at hx
    · rename_i hc
      have hu := ih u (by simpa using hc)
      rcases List.mem_cons.1 hx with rfl | hx
      · rw [hdu, hu]
      · exact ih x hx
    · split at hx
      · rename_i hc
        have hd := ih d (by simpa using hc)
        rcases List.mem_cons.1 hx with rfl | hx
        · rw [← hdu, hd]
        · exact ih x hx
      · exact ih x hx
theorem setAll_get {v : AV κ} : ∀ (l : List Nat) (e : List (AV κ)) (t : Nat) (z : AV κ), (setAll v l e)[t]? = some z → (t ∈ l ∧ z = v) ∨ e[t]? = some z
  | [], e, t, z, h => .inr h
  | x :: l, e, t, z, h => by
    simp only [setAll] at h
    rcases setAll_get l (e.set x v) t z h with ⟨h1, h2⟩ | h1
    · exact .inl ⟨List.mem_cons_of_mem _ h1, h2⟩
    · rw [List.getElem?_set] at h1
      split at h1
      · rename_i he
        subst he
        split at h1
        · exact .inl ⟨List.mem_cons_self, (Option.some.inj h1).symm⟩
        · cases h1
      · exact .inr h1
theorem setAll_length {v : AV κ} : ∀ (l : List Nat) (e : List (AV κ)), (setAll v l e).length = e.length
  | [], _ => rfl
  | x :: l, e => by simp [setAll, setAll_length l]
theorem refine_good (hg : Good C.E C.glob a w s F φ) {t : Nat} {b : Bool} (h : a.tmps.getD t undef = .bool b) : Good C.E C.glob a w (s.refine t b) F φ := by
  refine ⟨hg.rel, fun x v hv => ?_, by simp only [St.refine, setAll_length]; exact hg.size, hg.defers, hg.al, hg.glob⟩
  simp only [St.refine] at hv
  rcases setAll_get _ _ _ _ hv with ⟨h1, rfl⟩ | h1
  · rw [alike_spec hg.al x h1, h]; exact .val _
  · exact hg.env x v h1

theorem put_good (hg : Good C.E C.glob a w s F φ) {v : AV κ} {u : Value} (h : Rep C.E F φ v u) (hm : ∀ t, o.op = .move (.tmp t) → u = a.tmps.getD t undef) : Good C.E C.glob (a.put o.dst u) w (s.put o v) F φ := by
  unfold St.put Act.put
  cases hd : o.dst with
  | none => exact hg
  | some d =>
    refine ⟨hg.rel, fun t z hz => ?_, by simpa using hg.size, hg.defers, fun p hp => ?_, hg.glob⟩
    · simp only at hz ⊢
      rw [List.getElem?_set] at hz
      split at hz
      · rename_i he
        subst he
        split at hz
        · rename_i hlt
          obtain rfl := Option.some.inj hz
          have : (a.tmps.setIfInBounds d u).getD d undef = u := by simp [hg.size, hlt]
          rw [this]; exact h
        · cases hz
      · rename_i he
        have : (a.tmps.setIfInBounds d u).getD t undef = a.tmps.getD t undef := by simp [Array.getD_eq_getD_getElem?, Array.getElem?_setIfInBounds, he]
        rw [this]; exact hg.env t z hz
    · simp only at hp ⊢
      have keep : ∀ q, q ∈ s.al.filter (fun p => p.1 != d && p.2 != d) → (a.tmps.setIfInBounds d u).getD q.1 undef = (a.tmps.setIfInBounds d u).getD q.2 undef := fun q hq => by
        obtain ⟨h1, h2⟩ := List.mem_filter.1 hq
        simp only [Bool.and_eq_true, bne_iff_ne, ne_eq] at h2
        have e1 : (a.tmps.setIfInBounds d u).getD q.1 undef = a.tmps.getD q.1 undef := by simp [Array.getD_eq_getD_getElem?, Array.getElem?_setIfInBounds, Ne.symm h2.1]
        have e2 : (a.tmps.setIfInBounds d u).getD q.2 undef = a.tmps.getD q.2 undef := by simp [Array.getD_eq_getD_getElem?, Array.getElem?_setIfInBounds, Ne.symm h2.2]
        rw [e1, e2]; exact hg.al q h1
      split at hp
      · rename_i t ht
        split at hp
        · rename_i hc
          simp only [Bool.and_eq_true, bne_iff_ne, ne_eq, decide_eq_true_eq] at hc
          rcases List.mem_cons.1 hp with rfl | hp
          · have e1 : (a.tmps.setIfInBounds d u).getD d undef = u := by simp [hg.size, hc.2]
            have e2 : (a.tmps.setIfInBounds d u).getD t undef = a.tmps.getD t undef := by simp [Array.getD_eq_getD_getElem?, Array.getElem?_setIfInBounds, Ne.symm hc.1.2]
            simp only [e1, e2]
            exact hm t ht
          · exact keep p hp
        · exact keep p hp
      · exact keep p hp

theorem shut_sound {β : Type} (hE : C.E.Ok) {v : AV κ} {K : AV κ → St κ → Option β} {r : β} (h : shutV s v K = some r) :
    ∃ v' s', K v' s' = some r ∧ ∀ (a : Act) (w : World) (F : Nat → Option Obj) (φ : Nat → Option Pl) (u : Value), Good C.E C.glob a w s F φ → Rep C.E F φ v u → ∃ F' φ', Good C.E C.glob a w s' F' φ' ∧ Rep C.E F' φ' v' u ∧ Mv w F φ w F' φ' := by
  have turn : ∀ {a : Act} {w : World} {F : Nat → Option Obj} {φ : Nat → Option Pl} {i : Nat} {b : Blk κ} {p : Pl} {g : Nat} {ob : Obj}, Good C.E C.glob a w s F φ → s.S[i]? = some b → φ i = some p → p.g = some g → w.heap[g]? = some ob →
      Good C.E C.glob a w (s.turn i .dead) (fun x => if x = g then some ob else F x) (at_ φ i none) ∧ Mv w F φ w (fun x => if x = g then some ob else F x) (at_ φ i none) := by
    intro a w F φ i b p g ob hg hS hp hpg hob
    refine turn_good hE hg hS (w' := w) (row := none) ⟨rfl, rfl, rfl, Nat.le_refl _, fun _ _ _ => rfl⟩ (fun k h => by cases h) none (b' := .dead) (fun p g h => by cases h) (fun x o' hx => ?_) (fun x o' hx => ?_) (fun j q g' h1 h2 => ?_) (fun x o' h1 h2 => ?_) (at_self _ _ _)
    · have hne : x ≠ g := fun e => by subst e; rw [hg.rel.apart i p x hp hpg] at hx; cases hx
      show (if x = g then some ob else F x) = some o'
      rw [if_neg hne]; exact hx
    · split at hx
      · rename_i e
        subst e
        obtain rfl := Option.some.inj hx
        exact hob
      · exact hg.rel.frz x o' hx
    · by_cases hj : j = i
      · subst hj; rw [at_self] at h1; cases h1
      · rw [at_ne _ _ hj] at h1
        have hne : g' ≠ g := fun e => by subst e; exact hj (hg.rel.inj j i q p g' h1 hp h2 hpg)
        show (if g' = g then some ob else F g') = none
        rw [if_neg hne]
        exact hg.rel.apart j q g' h1 h2
    · split at h1
      · rename_i e
        subst e
        exact .inr ⟨i, p, hp, hpg⟩
      · rw [h2] at h1; cases h1
  unfold shutV at h
  split at h
  · rename_i k i
    split at h
    · rename_i k' xs hS
      split at h
      · rename_i hk
        subst hk
        refine ⟨_, _, h, fun a w F φ u hg hr => ?_⟩
        obtain ⟨p, h1, h2, hh⟩ := own_inv hg hr hS
        rcases hh with ⟨hpg, rfl, rfl⟩ | ⟨g, hpg, rfl⟩
        · have := turn_good hE hg hS (w' := w) (row := none) ⟨rfl, rfl, rfl, Nat.le_refl _, fun _ _ _ => rfl⟩ (fun k h => by cases h) none (b' := .dead) (F' := F) (fun p g h => by cases h) (Le.refl F) hg.rel.frz (fun j q g' h3 h4 => by
            by_cases hj : j = i
            · subst hj; rw [at_self] at h3; cases h3
            · rw [at_ne _ _ hj] at h3; exact hg.rel.apart j q g' h3 h4) (fun x o' h1 h2 => by rw [h2] at h1; cases h1) (at_self _ _ _)
          exact ⟨F, _, this.1, .roNil k', this.2⟩
        · obtain ⟨p', h3, h4, hh⟩ := hg.rel.blk i _ hS
          obtain rfl := Option.some.inj (h1.symm.trans h3)
          rcases hh with ⟨hn, _⟩ | ⟨g', cur, hpg', h5, h6, h7, h8, h9⟩
          · rw [hpg] at hn; cases hn
          obtain rfl := Option.some.inj (hpg.symm.trans hpg')
          obtain ⟨n1, n2⟩ := turn hg hS h1 hpg h5
          refine ⟨_, _, n1, .ro k' xs g 0 p.cap (fun r j => cur.getD (r * κ.sz k' + j) undef) h7 (fun r j hr hj => ?_) (fun r x j c hx hc => ?_), n2⟩
          · have h10 : (r + 1) * κ.sz k' ≤ p.cap * κ.sz k' := Nat.mul_le_mul_right _ (by omega)
            rw [Nat.add_mul, Nat.one_mul] at h10
            have : r * κ.sz k' + j < cur.size := by omega
            simp [FCell, this]
          · have hj : j < κ.sz k' := by rw [← hE.len k' x]; exact (List.getElem?_eq_some_iff.1 hc).1
            have hrl : r < xs.length := (List.getElem?_eq_some_iff.1 hx).1
            have h10 : (r + 1) * κ.sz k' ≤ p.cap * κ.sz k' := Nat.mul_le_mul_right _ (by omega)
            rw [Nat.add_mul, Nat.one_mul] at h10
            have hlt : r * κ.sz k' + j < cur.size := by omega
            have := h9 r x j c _ hx hc (show cur[r * κ.sz k' + j]? = some (cur.getD (r * κ.sz k' + j) undef) by simp [hlt])
            exact ((this.flat hE (hE.flat k' x c (List.mem_of_getElem? hc))).1).mono n2.le
      · cases h
    · cases h
  · rename_i i
    split at h
    · rename_i t cs hS
      split at h
      · rename_i hfl
        refine ⟨_, _, h, fun a w F φ u hg hr => ?_⟩
        cases hr with
        | ptr _ _ p g hp hpg =>
          obtain ⟨p', g', cur, h1, h2, h3, h4, h5⟩ := hg.rel.blk i _ hS
          obtain rfl := Option.some.inj (hp.symm.trans h1)
          obtain rfl := Option.some.inj (hpg.symm.trans h2)
          obtain ⟨n1, n2⟩ := turn hg hS hp hpg h3
          refine ⟨_, _, n1, .rop cs g 0 (fun j => cur.getD j undef) (fun j hj => ?_) (fun j c hc => ?_), n2⟩
          · have : j < cur.size := by omega
            simp [FCell, this]
          · have hlt : j < cur.size := by rw [h4]; exact (List.getElem?_eq_some_iff.1 hc).1
            have := h5 j c _ hc (show cur[j]? = some (cur.getD j undef) by simp [hlt])
            exact ((this.flat hE (List.all_eq_true.1 hfl c (List.mem_of_getElem? hc))).1).mono n2.le
      · cases h
    · cases h
  · cases h
end
end Go.Am
