/- Quiet operations, the last: places in slices, parts of slices and strings, lengths; all of them together. -/
import Derived.Test.YtebbipofemjnmaaDoorTAm5
namespace Go.Am
open Go.RowKit
variable {κ : Kinds} {E : Encs κ} {F F' : Nat → Option Obj} {φ φ' : Nat → Option Pl} {P : Program} {C : Ctx κ} {a : Act} {w : World} {s : St κ} {o : Oper}

theorem info_of_pos {t : TypeId} (h : 0 < sizeOf? P t) : ∃ i, P.info? t = some i ∧ i.size = sizeOf? P t := by
  cases hi : P.info? t with
  | none => simp [sizeOf?, hi] at h
  | some i => exact ⟨i, rfl, (info_size hi).symm⟩

theorem run_indexAt {t e : TypeId} {b off len cap n : Nat} {k : IntKind} {i : Int} (hu : P.underlying t = some (.slice e)) (hn : 0 < sizeOf? P e) (hs : sizeOf? P e = n) (h0 : 0 ≤ i) (h1 : i < (len : Int)) (w : World) :
    (Instr.indexAt t (.slice (some ⟨b, off, none⟩) len cap) (.int k i)).run P w = .ok (.pointer (some ⟨b, off + i.toNat * n, none⟩)) w := by
  obtain ⟨inf, hi, hs'⟩ := info_of_pos hn
  subst hs
  simp [Instr.indexAt, asIntOf, run_underlying hu, h0, h1, run_sizeOf' hi, hs', Addr.add_lit]

theorem own_inv {k : κ.Kc} {i : Nat} {xs : List (κ.ty k)} {u : Value} (h : Good C.E C.glob a w s F φ) (hr : Rep C.E F φ (.own k i) u) (hS : s.S[i]? = some (.rows k xs)) :
    ∃ p, φ i = some p ∧ p.len = xs.length ∧ ((p.g = none ∧ xs = [] ∧ u = .slice none 0 0) ∨ ∃ g, p.g = some g ∧ u = .slice (some ⟨g, 0, none⟩) xs.length p.cap) := by
  obtain ⟨p, h1, h4, hh⟩ := h.rel.blk i _ hS
  refine ⟨p, h1, h4, ?_⟩
  rcases hh with ⟨hn, hx⟩ | ⟨g, cur, hg', h2, h3, h5, h6, h7⟩
  · cases hr with
    | own _ _ p' g hp hpg =>
      obtain rfl := Option.some.inj (h1.symm.trans hp)
      rw [hn] at hpg; cases hpg
    | ownNil _ _ _ _ _ => exact .inl ⟨hn, hx, rfl⟩
  · cases hr with
    | own _ _ p' g2 hp hpg =>
      obtain rfl := Option.some.inj (h1.symm.trans hp)
      exact .inr ⟨g2, hpg, by rw [h4]⟩
    | ownNil _ _ p' hp hpg =>
      obtain rfl := Option.some.inj (h1.symm.trans hp)
      rw [hg'] at hpg; cases hpg

theorem quiet_convert {β : Type} (hE : C.E.Ok) {t t' : TypeId} {x : Operand} {K : AV κ → Option β} {r : β} (ho : o.op = .convert t t' x) (h : quiet? C o s K = some r) : ∃ v, K v = some r ∧ QuietOk C o s v := by
  simp only [quiet?, ho] at h
  split at h
  · rename_i q n hm
    split at h
    · rename_i d k hs hd
      refine ⟨_, h, .pure fun a F φ w hg => ⟨_, .val _, fun t ht => by rw [ho] at ht; simp at ht, fun w' => ?_⟩⟩
      have e1 := val_inv (hm ▸ ev_rep hg x)
      unfold execOp
      rw [ho]
      simp only [e1]
      refine run_v ?_
      simp [convert, run_underlying hs, run_underlying hd, Conv.intToInt]
    · split at h
      · rename_i u hu
        refine ⟨_, h, .pure fun a F φ w hg => ⟨u, .val u, fun t ht => by rw [ho] at ht; simp at ht, fun w' => ?_⟩⟩
        have e1 := val_inv (hm ▸ ev_rep hg x)
        unfold execOp
        rw [ho]
        simp only [e1]
        exact run_v (pureRun_sound hu w')
      · cases h
  · rename_i m _ hm
    split at h
    · rename_i u hu
      refine ⟨_, h, .pure fun a F φ w hg => ⟨u, .val u, fun t ht => by rw [ho] at ht; simp at ht, fun w' => ?_⟩⟩
      have e1 := val_inv (hm ▸ ev_rep hg x)
      unfold execOp
      rw [ho]
      simp only [e1]
      exact run_v (pureRun_sound hu w')
    · cases h
  · rename_i k xs hx
    split at h
    · rename_i e f hs hd hf
      split at h
      · rename_i he
        refine ⟨_, h, fun a w F φ hg => ?_⟩
        have hr := ev_rep hg x
        rw [hx] at hr
        generalize hz : a.eval x = z at hr
        have hsz := byte_sz hE hf
        have main : ∀ w', Fr F w' → (execOp a.eval o).run C.P w' = .ok (.value (.string (strOfNums (xs.map f)))) w' := fun w' hw' => by
          unfold execOp
          rw [ho]
          refine run_v ?_
          rw [hz]
          cases hr with
          | ro _ _ b off cap us hcap hc h' =>
            refine conv_cells hs he hd (by simp) fun i hi => ?_
            have h1 := hw'.cell (hc i 0 hi (by omega))
            rw [hsz, Nat.mul_one, Nat.add_zero] at h1
            rw [h1]
            have := byte_cell hE hf (x := xs[i]) (u := us i 0) fun j c hj => by
              have hj0 : j = 0 := by have := (List.getElem?_eq_some_iff.1 hj).1; rw [hE.len, hsz] at this; omega
              subst hj0
              exact h' i xs[i] 0 c (List.getElem?_eq_getElem hi) hj
            rw [this]
            simp [hi]
          | roNil _ => exact conv_none hs he hd
          | roEmp _ _ _ => exact conv_zero hs he hd
        exact ⟨_, .val _, fun t ht => by rw [ho] at ht; simp at ht, fun w' hw' => main w' fun b o hb => hw' _ _ (hg.rel.frz b o hb), fun _ => main⟩
      · cases h
    · cases h
  · rename_i k i hx
    split at h
    · rename_i k' xs hS
      split at h
      · rename_i hk
        subst hk
        split at h
        · rename_i e f hs hd hf
          split at h
          · rename_i he
            refine ⟨_, h, fun a w F φ hg => ⟨_, .val _, fun t ht => by rw [ho] at ht; simp at ht, fun w' hw' => ?_, fun hol => ?_⟩⟩
            · have hr := ev_rep hg x
              rw [hx] at hr
              have hsz := byte_sz hE hf
              obtain ⟨p, hp, hlen, hh⟩ := own_inv hg hr hS
              unfold execOp
              rw [ho]
              refine run_v ?_
              rcases hh with ⟨_, hx0, hu⟩ | ⟨g, hpg, hu⟩
              · rw [hu]; subst hx0; exact conv_none hs he hd
              · rw [hu]
                obtain ⟨p', h1, h4, hh⟩ := hg.rel.blk i _ hS
                obtain rfl := Option.some.inj (hp.symm.trans h1)
                rcases hh with ⟨hn, _⟩ | ⟨g', cur, hg', h2, h3, h5, h6, h7⟩
                · rw [hpg] at hn; cases hn
                obtain rfl := Option.some.inj (hpg.symm.trans hg')
                refine conv_cells hs he hd (by simp) fun j hj => ?_
                have hjc : j < cur.size := by rw [h3, hsz]; omega
                rw [cell_at (hw' _ _ h2)]
                have := byte_cell hE hf (x := xs[j]) (u := cur[j]) fun q c hq => by
                  have hq0 : q = 0 := by have := (List.getElem?_eq_some_iff.1 hq).1; rw [hE.len, hsz] at this; omega
                  subst hq0
                  exact h7 j xs[j] 0 c _ (List.getElem?_eq_getElem hj) hq (by rw [hsz]; simp [hjc])
                simp [hjc, this, hj]
            · unfold ownLoad at hol
              rw [ho] at hol
              simp only [hx] at hol
              cases hol
          · cases h
        · cases h
      · cases h
    · cases h
  · cases h

theorem quiet_indexAddr {β : Type} (hE : C.E.Ok) {t : TypeId} {x y : Operand} {K : AV κ → Option β} {r : β} (ho : o.op = .indexAddr t x y) (h : quiet? C o s K = some r) : ∃ v, K v = some r ∧ QuietOk C o s v := by
  simp only [quiet?, ho] at h
  split at h
  · rename_i d e k xs ki i hu hx hy
    split at h
    · rename_i hsz
      split at h
      · rename_i hi
        refine ⟨_, h, .pure fun a F φ w hg => ?_⟩
        have hr := ev_rep hg x
        rw [hx] at hr
        have e2 := val_inv (hy ▸ ev_rep hg y)
        generalize hz : a.eval x = z at hr
        have hlt : i.toNat < xs.length := by omega
        have hget : xs[i.toNat]? = some (xs.getD i.toNat (C.E.dflt k)) := by rw [List.getD_eq_getElem?_getD, List.getElem?_eq_getElem hlt]; rfl
        cases hr with
        | ro _ _ b off cap us hcap hc h' =>
          refine ⟨_, .rop _ b (off + i.toNat * κ.sz k) (fun j => us i.toNat j) (fun j hj => ?_) (fun j c hj => h' _ _ j c hget hj), fun t ht => by rw [ho] at ht; simp at ht, fun w' => ?_⟩
          · rw [hE.len] at hj
            have := hc i.toNat j hlt hj
            rw [← Nat.add_assoc] at this
            exact this
          · unfold execOp
            rw [ho]
            refine run_v ?_
            rw [hz, e2]
            exact run_indexAt hu (by rw [hsz]; exact hE.pos k) hsz hi.1 hi.2 w'
        | roNil _ => simp at hlt
        | roEmp _ _ _ => simp at hlt
      · cases h
    · cases h
  · rename_i d e k b ki i hu hx hy
    split at h
    · rename_i k' xs hS
      split at h
      · rename_i hk
        obtain ⟨rfl, hsz⟩ := hk
        split at h
        · rename_i hi
          refine ⟨_, h, .pure fun a F φ w hg => ?_⟩
          have hr := ev_rep hg x
          rw [hx] at hr
          have e2 := val_inv (hy ▸ ev_rep hg y)
          have hlt : i.toNat < xs.length := by omega
          obtain ⟨p, hp, hlen, hh⟩ := own_inv hg hr hS
          rcases hh with ⟨_, hx0, _⟩ | ⟨g, hpg, hu'⟩
          · subst hx0; simp at hlt
          refine ⟨_, .ptrE k' b i.toNat 0 p g hp hpg (by omega), fun t ht => by rw [ho] at ht; simp at ht, fun w' => ?_⟩
          unfold execOp
          rw [ho]
          refine run_v ?_
          rw [hu', e2, run_indexAt hu (by rw [hsz]; exact hE.pos k') hsz hi.1 hi.2 w']
          simp
        · cases h
      · cases h
    · cases h
  · rename_i d n e k xs ki i hu hx hy
    split at h
    · rename_i hc
      split at h
      · rename_i hi
        refine ⟨_, h, .pure fun a F φ w hg => ?_⟩
        have hr := ev_rep hg x
        rw [hx] at hr
        have e2 := val_inv (hy ▸ ev_rep hg y)
        generalize hz : a.eval x = z at hr
        have hlt : i.toNat < xs.length := by omega
        have hget : xs[i.toNat]? = some (xs.getD i.toNat (C.E.dflt k)) := by rw [List.getD_eq_getElem?_getD, List.getElem?_eq_getElem hlt]; rfl
        have h0 : 0 < sizeOf? C.P e := by rw [hc.1]; exact hE.pos k
        obtain ⟨inf, hinf, hs⟩ := info_pos h0
        cases hr with
        | tab _ _ b hx0 h' =>
          obtain ⟨rest, hrest⟩ := flat_drop hE hget
          generalize hcs : xs.flatMap (C.E.enc k) = cs at h' hrest
          cases h' with
          | rop _ _ _ us hc0 h1 =>
            have hget2 : ∀ j, j < (C.E.enc k (xs.getD i.toNat (C.E.dflt k))).length → cs[i.toNat * κ.sz k + j]? = (C.E.enc k (xs.getD i.toNat (C.E.dflt k)))[j]? := fun j hj => by
              rw [← List.getElem?_drop, hrest, List.getElem?_append_left hj]
            refine ⟨_, .rop _ b (0 + i.toNat * κ.sz k) (fun j => us (i.toNat * κ.sz k + j)) (fun j hj => ?_) (fun j c hj => ?_), fun t ht => by rw [ho] at ht; simp at ht, fun w' => ?_⟩
            · have h2 := hget2 j hj
              have hlt2 : i.toNat * κ.sz k + j < cs.length := by
                rcases Nat.lt_or_ge (i.toNat * κ.sz k + j) cs.length with h | h
                · exact h
                · rw [List.getElem?_eq_none h, List.getElem?_eq_getElem hj] at h2; cases h2
              have := hc0 _ hlt2
              rwa [← Nat.add_assoc] at this
            · have hj' : j < (C.E.enc k (xs.getD i.toNat (C.E.dflt k))).length := (List.getElem?_eq_some_iff.1 hj).1
              exact h1 _ c (by rw [hget2 j hj']; exact hj)
            · unfold execOp
              rw [ho]
              refine run_v ?_
              rw [hz, e2]
              have hi2 : i < (n : Int) := hi.2
              simp [Instr.indexAt, asIntOf, run_underlying hu, hi.1, hi2, run_sizeOf' hinf, hs, hc.1, Instr.sureAddr, Addr.add_lit]
      · cases h
    · cases h
  · rename_i d n e cs ki i hu hx hy
    split at h
    · rename_i h0
      obtain ⟨inf, hinf, hs⟩ := info_pos h0
      obtain ⟨m, _, hm, rfl, hK⟩ := caseK_some h
      refine ⟨_, hK, .pure fun a F φ w hg => ?_⟩
      have hr := ev_rep hg x
      rw [hx] at hr
      have e2 := val_inv (hy ▸ ev_rep hg y)
      generalize hz : a.eval x = z at hr
      cases hr with
      | rop _ b off us hc0 h1 =>
        refine ⟨_, .rop _ b (off + m * sizeOf? C.P e) (fun j => us (m * sizeOf? C.P e + j)) (fun j hj => ?_) (fun j c hj => ?_), fun t ht => by rw [ho] at ht; simp at ht, fun w' => ?_⟩
        · have := hc0 (m * sizeOf? C.P e + j) (by rw [List.length_drop] at hj; omega)
          rwa [← Nat.add_assoc] at this
        · rw [List.getElem?_drop] at hj
          exact h1 _ c hj
        · unfold execOp
          rw [ho]
          refine run_v ?_
          rw [hz, e2]
          have hm' : m < n := by omega
          simp [Instr.indexAt, asIntOf, run_underlying hu, hm', run_sizeOf' hinf, hs, Instr.sureAddr, Addr.add_lit]
    · cases h
  · rename_i d n e b off ki i hu hx hy
    split at h
    · rename_i h0
      obtain ⟨inf, hinf, hs⟩ := info_pos h0
      obtain ⟨m, _, hm, rfl, hK⟩ := caseK_some h
      refine ⟨_, hK, .pure fun a F φ w hg => ?_⟩
      have hr := ev_rep hg x
      rw [hx] at hr
      have e2 := val_inv (hy ▸ ev_rep hg y)
      generalize hz : a.eval x = z at hr
      cases hr with
      | ptr _ _ p g hp hpg =>
        refine ⟨_, .ptr b _ p g hp hpg, fun t ht => by rw [ho] at ht; simp at ht, fun w' => ?_⟩
        unfold execOp
        rw [ho]
        refine run_v ?_
        rw [hz, e2]
        have hm' : m < n := by omega
        simp [Instr.indexAt, asIntOf, run_underlying hu, hm', run_sizeOf' hinf, hs, Instr.sureAddr, Addr.add_lit]
    · cases h
  · cases h

theorem quiet_len {β : Type} {args : Array Operand} {ts : Array TypeId} {K : AV κ → Option β} {r : β} (ho : o.op = .call ⟨.builtin .len, args, ts⟩) (h : quiet? C o s K = some r) : ∃ v, K v = some r ∧ QuietOk C o s v := by
  simp only [quiet?, ho] at h
  split at h
  · rename_i x t hargs hts
    have ha : args = #[x] := by cases args; simp_all
    have ht' : ts = #[t] := by cases ts; simp_all
    subst ha; subst ht'
    have done : ∀ (n : Nat), K (.val (.int .i64 (n : Int))) = some r → (∀ (a : Act) (F : Nat → Option Obj) (φ : Nat → Option Pl) (w : World), Good C.E C.glob a w s F φ → ∀ w', (Builtin.len_ #[t] o.type #[a.eval x]).run C.P w' = .ok (.int .i64 (n : Int)) w') → ∃ v, K v = some r ∧ QuietOk C o s v := by
      intro n hk hrun
      refine ⟨_, hk, .pure fun a F φ w hg => ⟨_, .val _, fun t ht => by rw [ho] at ht; simp at ht, fun w' => ?_⟩⟩
      unfold execOp
      rw [ho]
      simp only [resolve, invoke, builtin, Sem.run_bind, Sem.run_pure, Result.andThen_ok, List.map_toArray, List.map_cons, List.map_nil, hrun a F φ w hg w']
    split at h
    · rename_i d b hu hx
      exact done _ h fun a F φ w hg w' => by
        have e1 := val_inv (hx ▸ ev_rep hg x)
        rw [e1]
        simp [Builtin.len_, run_underlying hu, goInt]
    · rename_i d e k xs hu hx
      refine done _ h fun a F φ w hg w' => ?_
      have hr := ev_rep hg x
      rw [hx] at hr
      generalize a.eval x = z at hr
      cases hr <;> simp [Builtin.len_, run_underlying hu, goInt]
    · rename_i d e k b hu hx
      split at h
      · rename_i k' xs hS
        split at h
        · rename_i hk
          subst hk
          refine done _ h fun a F φ w hg w' => ?_
          have hr := ev_rep hg x
          rw [hx] at hr
          obtain ⟨p, hp, hlen, hh⟩ := own_inv hg hr hS
          rcases hh with ⟨_, hx0, hz⟩ | ⟨g, _, hz⟩
          · rw [hz, hx0]; simp [Builtin.len_, run_underlying hu, goInt]
          · rw [hz]; simp [Builtin.len_, run_underlying hu, goInt]
        · cases h
      · cases h
    · rename_i d e n cap ad hu hx
      exact done _ h fun a F φ w hg w' => by
        have e1 := val_inv (hx ▸ ev_rep hg x)
        rw [e1]
        simp [Builtin.len_, run_underlying hu, goInt]
    · cases h
  · cases h

theorem map_eval {xs : List Operand} {vs : List Value} (hg : Good C.E C.glob a w s F φ) (h : xs.map (ev C s) = vs.map AV.val) : xs.map a.eval = vs := by
  induction xs generalizing vs with
  | nil => cases vs <;> simp at h ⊢
  | cons x xs ih =>
    cases vs with
    | nil => simp at h
    | cons v vs =>
      simp only [List.map_cons, List.cons.injEq] at h ⊢
      exact ⟨val_inv (h.1 ▸ ev_rep hg x), ih h.2⟩

theorem quiet_max {β : Type} {args : Array Operand} {ts : Array TypeId} {K : AV κ → Option β} {r : β} (ho : o.op = .call ⟨.builtin .max, args, ts⟩) (h : quiet? C o s K = some r) : ∃ v, K v = some r ∧ QuietOk C o s v := by
  simp only [quiet?, ho] at h
  split at h
  · rename_i k m k' n he
    refine ⟨_, h, .pure fun a F φ w hg => ⟨_, .val _, fun t ht => by rw [ho] at ht; simp at ht, fun w' => ?_⟩⟩
    have e := map_eval (vs := [.int k m, .int k' n]) hg he
    have e' : args.map a.eval = #[.int k m, .int k' n] := by rw [← Array.toList_inj, Array.toList_map, e]
    unfold execOp
    rw [ho]
    simp only [resolve, invoke, builtin, Sem.run_bind, Sem.run_pure, Result.andThen_ok, e']
    have : (if n > m then n else m) = max m n := by split <;> omega
    simp [Builtin.max_, Builtin.max2, this]
  · rename_i k m k' n k'' q he
    refine ⟨_, h, .pure fun a F φ w hg => ⟨_, .val _, fun t ht => by rw [ho] at ht; simp at ht, fun w' => ?_⟩⟩
    have e := map_eval (vs := [.int k m, .int k' n, .int k'' q]) hg he
    have e' : args.map a.eval = #[.int k m, .int k' n, .int k'' q] := by rw [← Array.toList_inj, Array.toList_map, e]
    unfold execOp
    rw [ho]
    simp only [resolve, invoke, builtin, Sem.run_bind, Sem.run_pure, Result.andThen_ok, e']
    have : (if q > (if n > m then n else m) then q else if n > m then n else m) = max (max m n) q := by split <;> split <;> omega
    simp [Builtin.max_, Builtin.max2, this]
  · cases h

theorem quiet_min {β : Type} {args : Array Operand} {ts : Array TypeId} {K : AV κ → Option β} {r : β} (ho : o.op = .call ⟨.builtin .min, args, ts⟩) (h : quiet? C o s K = some r) : ∃ v, K v = some r ∧ QuietOk C o s v := by
  simp only [quiet?, ho] at h
  split at h
  · rename_i k m k' n he
    refine ⟨_, h, .pure fun a F φ w hg => ⟨_, .val _, fun t ht => by rw [ho] at ht; simp at ht, fun w' => ?_⟩⟩
    have e := map_eval (vs := [.int k m, .int k' n]) hg he
    have e' : args.map a.eval = #[.int k m, .int k' n] := by rw [← Array.toList_inj, Array.toList_map, e]
    unfold execOp
    rw [ho]
    simp only [resolve, invoke, builtin, Sem.run_bind, Sem.run_pure, Result.andThen_ok, e']
    have : (if n < m then n else m) = min m n := by split <;> omega
    simp [Builtin.min_, Builtin.min2, this]
  · rename_i k m k' n k'' q he
    refine ⟨_, h, .pure fun a F φ w hg => ⟨_, .val _, fun t ht => by rw [ho] at ht; simp at ht, fun w' => ?_⟩⟩
    have e := map_eval (vs := [.int k m, .int k' n, .int k'' q]) hg he
    have e' : args.map a.eval = #[.int k m, .int k' n, .int k'' q] := by rw [← Array.toList_inj, Array.toList_map, e]
    unfold execOp
    rw [ho]
    simp only [resolve, invoke, builtin, Sem.run_bind, Sem.run_pure, Result.andThen_ok, e']
    have : (if q < (if n < m then n else m) then q else if n < m then n else m) = min (min m n) q := by split <;> split <;> omega
    simp [Builtin.min_, Builtin.min2, this]
  · cases h

/-- A part of a slice that is read. -/
theorem ro_part {k : κ.Kc} {xs : List (κ.ty k)} {b off len cap : Nat} (h : Rep E F φ (.ro k xs) (.slice (some ⟨b, off, none⟩) len cap)) (l m : Nat) (hl : l ≤ m) (hm : m ≤ xs.length) :
    Rep E F φ (.ro k ((xs.take m).drop l)) (.slice (some (if cap = l then ⟨b, off, none⟩ else ⟨b, off + l * κ.sz k, none⟩)) (m - l) (cap - l)) := by
  cases h with
  | ro _ _ _ _ _ us hcap hc hr =>
    have hlen : ((xs.take m).drop l).length = m - l := by simp; omega
    by_cases hcl : cap = l
    · rw [if_pos hcl]
      have he : (xs.take m).drop l = [] := by apply List.eq_nil_of_length_eq_zero; omega
      rw [he]
      have : m - l = 0 := by omega
      rw [this]
      exact .ro k [] b off (cap - l) (fun _ _ => undef) (by simp) (fun r j hr => by simp at hr) (fun r x j c hx => by simp at hx)
    · rw [if_neg hcl, ← hlen]
      refine .ro k _ b (off + l * κ.sz k) (cap - l) (fun r j => us (l + r) j) (by omega) (fun r j hr' hj => ?_) (fun r x j c hx hj => ?_)
      · rw [hlen] at hr'
        have := hc (l + r) j (by omega) hj
        rw [Nat.add_mul] at this
        rw [show off + l * κ.sz k + (r * κ.sz k + j) = off + (l * κ.sz k + r * κ.sz k + j) by omega]
        exact this
      · rw [List.getElem?_drop, List.getElem?_take] at hx
        split at hx
        · exact hr _ _ _ _ hx hj
        · cases hx
  | roEmp _ _ _ =>
    have hm0 : m = 0 := by simpa using hm
    have hl0 : l = 0 := by omega
    subst hm0; subst hl0
    simp only [List.take_nil, List.drop_nil, Nat.sub_self]
    exact .roEmp k _ _

theorem run_sliceAt {t e : TypeId} {b off len cap n : Nat} {lo hi : Option Value} (l m : Nat) (hu : P.underlying t = some (.slice e)) (hn : 0 < sizeOf? P e) (hs : sizeOf? P e = n)
    (hb : ∀ w, (Instr.sliceBounds true len cap lo hi none).run P w = .ok (l, m, cap) w) (w : World) :
    (Instr.sliceAt t (.slice (some ⟨b, off, none⟩) len cap) lo hi none).run P w = .ok (.slice (some (if cap = l then ⟨b, off, none⟩ else ⟨b, off + l * n, none⟩)) (m - l) (cap - l)) w := by
  obtain ⟨inf, hi', hs'⟩ := info_of_pos hn
  subst hs
  simp only [Instr.sliceAt, run_underlying hu, Sem.run_bind, Result.andThen_ok, Instr.slice, hb, run_sizeOf' hi', hs', Sem.run_pure]
  by_cases hc : cap = l <;> simp [hc, Addr.add_lit]
theorem run_sliceNil {t e : TypeId} {lo hi : Option Value} (hu : P.underlying t = some (.slice e)) (hn : 0 < sizeOf? P e)
    (hb : ∀ w, (Instr.sliceBounds true 0 0 lo hi none).run P w = .ok (0, 0, 0) w) (w : World) :
    (Instr.sliceAt t (.slice none 0 0) lo hi none).run P w = .ok (.slice none 0 0) w := by
  obtain ⟨inf, hi', hs'⟩ := info_of_pos hn
  simp [Instr.sliceAt, Instr.slice, run_underlying hu, hb, run_sizeOf' hi']

theorem run_sliceEmp {t e : TypeId} {ad : Addr} {cap : Nat} {lo hi : Option Value} (hu : P.underlying t = some (.slice e)) (hn : 0 < sizeOf? P e)
    (hb : ∀ w, (Instr.sliceBounds true 0 cap lo hi none).run P w = .ok (0, 0, cap) w) :
    ∃ ad' : Addr, ∀ w, (Instr.sliceAt t (.slice (some ad) 0 cap) lo hi none).run P w = .ok (.slice (some ad') 0 cap) w := by
  obtain ⟨inf, hi', hs'⟩ := info_of_pos hn
  refine ⟨if cap = 0 then ad else ad.add (0 * inf.size), fun w => ?_⟩
  simp only [Instr.sliceAt, run_underlying hu, Sem.run_bind, Result.andThen_ok, Instr.slice, hb, run_sizeOf' hi', Sem.run_pure]
  by_cases hc : cap = 0 <;> simp [hc]

theorem run_bound {v : Int} {k : IntKind} {y : Nat} {code : BoundsCode} (h0 : 0 ≤ v) (h1 : v ≤ (y : Int)) (w : World) : (Instr.sliceBound (.int k v) y code).run P w = .ok v.toNat w := by
  simp [Instr.sliceBound, asIntOf, h0, h1]

theorem ro_inv {k : κ.Kc} {xs : List (κ.ty k)} {u : Value} (h : Rep E F φ (.ro k xs) u) : (xs = [] ∧ u = .slice none 0 0) ∨ (xs = [] ∧ ∃ a cap, u = .slice (some a) 0 cap) ∨ ∃ b off cap, xs.length ≤ cap ∧ u = .slice (some ⟨b, off, none⟩) xs.length cap := by
  cases h with
  | ro _ _ b off cap us hcap hc hr => exact .inr (.inr ⟨b, off, cap, hcap, rfl⟩)
  | roNil _ => exact .inl ⟨rfl, rfl⟩
  | roEmp _ a cap => exact .inr (.inl ⟨rfl, a, cap, rfl⟩)

theorem quiet_slice {β : Type} (hE : C.E.Ok) {t : TypeId} {x : Operand} {lo hi mx : Option Operand} {K : AV κ → Option β} {r : β} (ho : o.op = .slice t x lo hi mx) (h : quiet? C o s K = some r) : ∃ v, K v = some r ∧ QuietOk C o s v := by
  cases mx with
  | some m => simp [quiet?, ho] at h
  | none =>
  simp only [quiet?, ho] at h
  -- a slice that is read
  have roCase : ∀ (e : TypeId) (k : κ.Kc) (xs : List (κ.ty k)) (l m : Nat), C.P.underlying t = some (.slice e) → ev C s x = .ro k xs → sizeOf? C.P e = κ.sz k → l ≤ m → m ≤ xs.length →
      (∀ (a : Act) (w : World) (F : Nat → Option Obj) (φ : Nat → Option Pl), Good C.E C.glob a w s F φ → ∀ cap, xs.length ≤ cap → ∀ w', (Instr.sliceBounds true xs.length cap (lo.map a.eval) (hi.map a.eval) none).run C.P w' = .ok (l, m, cap) w') →
      QuietOk C o s (.ro k ((xs.take m).drop l)) := by
    intro e k xs l m hu hx hsz hl hm hb
    refine .pure fun a F φ w hg => ?_
    have hr := ev_rep hg x
    rw [hx] at hr
    rcases ro_inv hr with ⟨h0, hz⟩ | ⟨h0, ad, cap, hz⟩ | ⟨b, off, cap, hcap, hz⟩
    · subst h0
      refine ⟨.slice none 0 0, ?_, fun t ht => by rw [ho] at ht; simp at ht, fun w' => ?_⟩
      · simp only [List.take_nil, List.drop_nil]; exact .roNil k
      · have hl0 : l = 0 := by simp at hm; omega
        have hm0 : m = 0 := by simpa using hm
        subst hl0; subst hm0
        unfold execOp
        rw [ho]
        refine run_v ?_
        rw [hz]
        exact run_sliceNil hu (by rw [hsz]; exact hE.pos k) (fun w' => hb a w F φ hg 0 (by simp) w') w'
    · subst h0
      have hl0 : l = 0 := by simp at hm; omega
      have hm0 : m = 0 := by simpa using hm
      subst hl0; subst hm0
      obtain ⟨ad', hrun⟩ := run_sliceEmp (P := C.P) (ad := ad) (cap := cap) hu (by rw [hsz]; exact hE.pos k) (fun w' => hb a w F φ hg cap (by simp) w')
      refine ⟨.slice (some ad') 0 cap, ?_, fun t ht => by rw [ho] at ht; simp at ht, fun w' => ?_⟩
      · simp only [List.take_nil, List.drop_nil]; exact .roEmp k ad' cap
      · unfold execOp
        rw [ho]
        refine run_v ?_
        rw [hz]
        exact hrun w'
    · rw [hz] at hr
      refine ⟨_, ro_part hr l m hl hm, fun t ht => by rw [ho] at ht; simp at ht, fun w' => ?_⟩
      unfold execOp
      rw [ho]
      refine run_v ?_
      rw [hz]
      exact run_sliceAt l m hu (by rw [hsz]; exact hE.pos k) hsz (fun w' => hb a w F φ hg cap hcap w') w'
  split at h
  · rename_i d b hu hx
    have strCase : ∀ (l m : Nat), (∀ (a : Act) (w : World) (F : Nat → Option Obj) (φ : Nat → Option Pl), Good C.E C.glob a w s F φ → ∀ w', (Instr.sliceBounds false b.size b.size (lo.map a.eval) (hi.map a.eval) none).run C.P w' = .ok (l, m, b.size) w') → QuietOk C o s (.val (.string (b.extract l m))) := by
      intro l m hb
      refine .pure fun a F φ w hg => ⟨_, .val _, fun t ht => by rw [ho] at ht; simp at ht, fun w' => ?_⟩
      have e1 := val_inv (hx ▸ ev_rep hg x)
      unfold execOp
      rw [ho]
      refine run_v ?_
      rw [e1]
      simp [Instr.sliceAt, Instr.slice, run_underlying hu, hb a w F φ hg]
    split at h
    · rename_i hh
      split at h
      · rename_i kh vh hvh
        split at h
        · rename_i hc
          refine ⟨_, h, strCase 0 vh.toNat fun a w F φ hg w' => ?_⟩
          have e2 := val_inv (hvh ▸ ev_rep hg hh)
          simp [Instr.sliceBounds, e2, run_bound hc.1 hc.2]
        · cases h
      · cases h
    · rename_i ll
      split at h
      · rename_i kl vl hvl
        split at h
        · rename_i hc
          refine ⟨_, h, strCase vl.toNat b.size fun a w F φ hg w' => ?_⟩
          have e2 := val_inv (hvl ▸ ev_rep hg ll)
          simp [Instr.sliceBounds, e2, run_bound hc.1 hc.2]
        · cases h
      · cases h
    · rename_i ll hh
      split at h
      · rename_i kl vl kh vh hvl hvh
        split at h
        · rename_i hc
          refine ⟨_, h, strCase vl.toNat vh.toNat fun a w F φ hg w' => ?_⟩
          have e2 := val_inv (hvl ▸ ev_rep hg ll)
          have e3 := val_inv (hvh ▸ ev_rep hg hh)
          simp [Instr.sliceBounds, e2, e3, run_bound (show 0 ≤ vh by omega) hc.1, run_bound (y := vh.toNat) hc.2.1 (by omega)]
        · cases h
      · cases h
    · cases h
  · rename_i d e k xs hu hx
    split at h
    · rename_i hsz
      split at h
      · rename_i hh
        split at h
        · rename_i kh vh hvh
          split at h
          · rename_i hc
            refine ⟨_, h, ?_⟩
            have := roCase e k xs 0 vh.toNat hu hx hsz (by omega) (by omega) fun a w F φ hg cap hcap w' => by
              have e2 := val_inv (hvh ▸ ev_rep hg hh)
              simp [Instr.sliceBounds, e2, run_bound (y := cap) hc.1 (by omega)]
            simpa using this
          · cases h
        · cases h
      · rename_i ll
        split at h
        · rename_i kl vl hvl
          split at h
          · rename_i hc
            refine ⟨_, h, ?_⟩
            have := roCase e k xs vl.toNat xs.length hu hx hsz (by omega) (by omega) fun a w F φ hg cap hcap w' => by
              have e2 := val_inv (hvl ▸ ev_rep hg ll)
              simp [Instr.sliceBounds, e2, run_bound hc.1 hc.2]
            simpa using this
          · cases h
        · cases h
      · rename_i ll hh
        split at h
        · rename_i kl vl kh vh hvl hvh
          split at h
          · rename_i hc
            refine ⟨_, h, roCase e k xs vl.toNat vh.toNat hu hx hsz (by omega) (by omega) fun a w F φ hg cap hcap w' => ?_⟩
            have e2 := val_inv (hvl ▸ ev_rep hg ll)
            have e3 := val_inv (hvh ▸ ev_rep hg hh)
            simp [Instr.sliceBounds, e2, e3, run_bound (y := cap) (show 0 ≤ vh by omega) (by omega), run_bound (y := vh.toNat) hc.2.1 (by omega)]
          · cases h
        · cases h
      · cases h
    · cases h
  · cases h

/-- **All quiet operations.** -/
theorem quiet_sound {β : Type} (hE : C.E.Ok) {K : AV κ → Option β} {r : β} (h : quiet? C o s K = some r) : ∃ v, K v = some r ∧ QuietOk C o s v := by
  cases ho : o.op with
  | move x => simp only [quiet?, ho] at h; exact ⟨_, h, quiet_move (.inl ho)⟩
  | assign x => simp only [quiet?, ho] at h; exact ⟨_, h, quiet_move (.inr ho)⟩
  | build t ps => exact quiet_build ho h
  | load t x => exact quiet_load hE ho h
  | nilCheck x => exact quiet_nilCheck ho h
  | binOp op t x y t' => exact quiet_bin ho h
  | unOp op t x => exact quiet_un ho h
  | convert t t' x => exact quiet_convert hE ho h
  | makeFunc f first caps =>
    cases f with
    | func f => exact quiet_makeFunc ho h
    | _ => simp [quiet?, ho] at h
  | slice t x lo hi mx => exact quiet_slice hE ho h
  | fieldAddr t x f => exact quiet_fieldAddr ho h
  | field t x f => exact quiet_field ho h
  | indexAddr t x y => exact quiet_indexAddr hE ho h
  | index t x y => exact quiet_index hE ho h
  | extract x f => exact quiet_extract ho h
  | call c =>
    obtain ⟨callee, args, ts⟩ := c
    cases callee with
    | builtin b =>
      cases b with
      | len => exact quiet_len ho h
      | max => exact quiet_max ho h
      | min => exact quiet_min ho h
      | _ => simp [quiet?, ho] at h
    | _ => simp [quiet?, ho] at h
  | _ => simp [quiet?, ho] at h
end Go.Am
