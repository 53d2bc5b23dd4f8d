/- append; a slice cut short; a callee with a summary; what is shut for good. -/
import Derived.Test.YtebbipofemjnmaaDoorTAm9
namespace Go.Am
open Go.RowKit
variable {κ : Kinds} {E : Encs κ} {F F' : Nat → Option Obj} {φ φ' : Nat → Option Pl} {P : Program} {C : Ctx κ} {a : Act} {w w' : World} {s s' : St κ} {o : Oper}

/-- Rows told: the cells of each element stand for it. -/
def RowsAt (E : Encs κ) (F : Nat → Option Obj) (φ : Nat → Option Pl) (k : κ.Kc) (xs : List (κ.ty k)) (us : List Value) : Prop :=
  ∀ (r : Nat) (x : κ.ty k) (j : Nat) (c : AV κ) (u : Value), xs[r]? = some x → (E.enc k x)[j]? = some c → us[r * κ.sz k + j]? = some u → Rep E F φ c u

theorem RowsAt.append (hE : E.Ok) {k : κ.Kc} {xs ys : List (κ.ty k)} {A B D : List Value} (hA : A.length = xs.length * κ.sz k) (hB : B.length = ys.length * κ.sz k) (ha : RowsAt E F φ k xs A) (hb : RowsAt E F φ k ys B) : RowsAt E F φ k (xs ++ ys) (A ++ B ++ D) := by
  intro r x j c u hx hc hu
  have hj : j < κ.sz k := by rw [← hE.len k x]; exact (List.getElem?_eq_some_iff.1 hc).1
  by_cases hr : r < xs.length
  · rw [List.getElem?_append_left hr] at hx
    have h1 : (r + 1) * κ.sz k ≤ xs.length * κ.sz k := Nat.mul_le_mul_right _ hr
    rw [Nat.add_mul, Nat.one_mul] at h1
    rw [List.append_assoc, List.getElem?_append_left (by omega)] at hu
    exact ha r x j c u hx hc hu
  · rw [List.getElem?_append_right (by omega)] at hx
    have hr2 : r - xs.length < ys.length := (List.getElem?_eq_some_iff.1 hx).1
    have h1 : (r - xs.length + 1) * κ.sz k ≤ ys.length * κ.sz k := Nat.mul_le_mul_right _ hr2
    have h2 : r * κ.sz k = xs.length * κ.sz k + (r - xs.length) * κ.sz k := by rw [← Nat.add_mul]; congr 1; omega
    rw [Nat.add_mul, Nat.one_mul] at h1
    rw [List.append_assoc, List.getElem?_append_right (by omega), List.getElem?_append_left (by omega), show r * κ.sz k + j - A.length = (r - xs.length) * κ.sz k + j by omega] at hu
    exact hb _ x j c u hx hc hu
theorem RowsAt.any (hE : E.Ok) {k : κ.Kc} {xs : List (κ.ty k)} {us : List Value} (h : RowsAt E F φ k xs us) : RowsAt E F φ' k xs us := fun r x j c u hx hc hu =>
  ((h r x j c u hx hc hu).flat hE (hE.flat k x c (List.mem_of_getElem? hc))).1
theorem RowsAt.take {k : κ.Kc} {xs : List (κ.ty k)} {us : List Value} (h : RowsAt E F φ k xs us) : RowsAt E F φ k xs (us.take (xs.length * κ.sz k)) := fun r x j c u hx hc hu => by
  rw [List.getElem?_take] at hu
  split at hu
  · exact h r x j c u hx hc hu
  · cases hu
theorem RowsAt.one (hE : E.Ok) {k : κ.Kc} {xs : List (κ.ty k)} {us : List Value} (h : RowsAt E F φ k xs us) (hl : us.length = xs.length * κ.sz k) : ∀ u ∈ us, u.oneCell' = true := by
  intro u hu
  obtain ⟨i, hi⟩ := List.getElem?_of_mem hu
  have hlt : i < xs.length * κ.sz k := by rw [← hl]; exact (List.getElem?_eq_some_iff.1 hi).1
  have hp := hE.pos k
  have hr : i / κ.sz k < xs.length := Nat.div_lt_of_lt_mul (by rw [Nat.mul_comm]; exact hlt)
  have hm := Nat.mod_lt i hp
  have hj : i % κ.sz k < (E.enc k xs[i / κ.sz k]).length := by rw [hE.len]; exact hm
  have he : i / κ.sz k * κ.sz k + i % κ.sz k = i := by rw [Nat.mul_comm]; exact Nat.div_add_mod i _
  have := h (i / κ.sz k) _ (i % κ.sz k) _ u (List.getElem?_eq_getElem hr) (List.getElem?_eq_getElem hj) (by rw [he]; exact hi)
  exact (this.flat (φ' := φ) hE (hE.flat k _ _ (List.getElem_mem hj))).2

theorem rows_turn (hE : C.E.Ok) (hg : Good C.E C.glob a w s F φ) {i : Nat} {b : Blk κ} (hS : s.S[i]? = some b) {k : κ.Kc} {zs : List (κ.ty k)} {cur : Array Value} {cap g : Nat} {row : Option Nat} (hs : cur.size = cap * κ.sz k) (hlen : zs.length ≤ cap) (hcap : cap ≤ maxLen)
    (hr : RowsAt C.E F φ k zs cur.toList) (hw : w.grownBy w' row) (hrow : ∀ k, row = some k → ∃ q, φ i = some q ∧ q.g = some k) (hnew : w'.heap[g]? = some (.cells cur (κ.elem k) (0, 0))) (hgg : (∃ q, φ i = some q ∧ q.g = some g) ∨ w.heap.size ≤ g) :
    Good C.E C.glob a w' (s.turn i (.rows k zs)) F (at_ φ i (some ⟨some g, zs.length, cap⟩)) ∧ Rep C.E F (at_ φ i (some ⟨some g, zs.length, cap⟩)) (.own k i) (.slice (some ⟨g, 0, none⟩) zs.length cap) ∧
    Mv w F φ w' F (at_ φ i (some ⟨some g, zs.length, cap⟩)) := by
  have := turn_good hE hg hS hw hrow (some ⟨some g, zs.length, cap⟩) (b' := .rows k zs) (F' := F) (fun p g' h1 h2 => by
      simp at h1; subst h1; simp at h2; subst h2
      exact ⟨(Array.getElem?_eq_some_iff.1 hnew).1, hgg⟩) (Le.refl F) (fun x ob hx => by
      have h1 := hg.rel.frz x ob hx
      rw [hw.block x (Array.getElem?_eq_some_iff.1 h1).1 (fun e => by
        obtain ⟨q, h2, h3⟩ := hrow x e.symm
        rw [hg.rel.apart i q x h2 h3] at hx
        cases hx)]
      exact h1) (fun j p g' h1 h2 => by
      by_cases hj : j = i
      · subst hj
        rw [at_self] at h1
        simp at h1; subst h1; simp at h2; subst h2
        rcases hgg with ⟨q, h3, h4⟩ | h3
        · exact hg.rel.apart _ q _ h3 h4
        · cases hF : F g with
          | none => rfl
          | some ob =>
            have := (Array.getElem?_eq_some_iff.1 (hg.rel.frz g ob hF)).1
            omega
      · rw [at_ne _ _ hj] at h1
        exact hg.rel.apart j p g' h1 h2) (fun x ob h1 h2 => by rw [h2] at h1; cases h1)
    ⟨⟨some g, zs.length, cap⟩, at_self _ _ _, rfl, .inr ⟨g, cur, rfl, hnew, hs, hlen, hcap, fun r x j c u h1 h2 h3 => by
      have h4 := RowsAt.any (φ' := at_ φ i (some ⟨some g, zs.length, cap⟩)) hE hr
      exact h4 r x j c u h1 h2 (by simpa using h3)⟩⟩
  exact ⟨this.1, .own k i ⟨some g, zs.length, cap⟩ g (at_self _ _ _) rfl, this.2⟩

theorem nil_turn (hE : C.E.Ok) (hg : Good C.E C.glob a w s F φ) {i : Nat} {b : Blk κ} (hS : s.S[i]? = some b) (k : κ.Kc) :
    Good C.E C.glob a w (s.turn i (.rows k [])) F (at_ φ i (some ⟨none, 0, 0⟩)) ∧ Rep C.E F (at_ φ i (some ⟨none, 0, 0⟩)) (.own k i) (.slice none 0 0) ∧ Mv w F φ w F (at_ φ i (some ⟨none, 0, 0⟩)) := by
  have := turn_good hE hg hS (w' := w) (row := none) ⟨rfl, rfl, rfl, Nat.le_refl _, fun _ _ _ => rfl⟩ (fun k h => by cases h) (some ⟨none, 0, 0⟩) (b' := .rows k []) (F' := F) (fun p g' h1 h2 => by simp at h1; subst h1; simp at h2)
    (Le.refl F) hg.rel.frz (fun j p g' h1 h2 => by
      by_cases hj : j = i
      · subst hj
        rw [at_self] at h1
        simp at h1; subst h1; simp at h2
      · rw [at_ne _ _ hj] at h1
        exact hg.rel.apart j p g' h1 h2) (fun x ob h1 h2 => by rw [h2] at h1; cases h1)
    ⟨⟨none, 0, 0⟩, at_self _ _ _, rfl, .inl ⟨rfl, rfl⟩⟩
  exact ⟨this.1, .ownNil k i ⟨none, 0, 0⟩ (at_self _ _ _) rfl, this.2⟩

/-- A source of rows. -/
theorem rowsOf_sound (hE : C.E.Ok) (hg : Good C.E C.glob a w s F φ) {y : AV κ} {u : Value} (hy : Rep C.E F φ y u) {k : κ.Kc} {ys : List (κ.ty k)} (h : rowsOf s y = some ⟨k, ys⟩) :
    (ys = [] ∧ u = .slice none 0 0) ∨ ∃ (ad : Addr) (cap : Nat), u = .slice (some ad) ys.length cap ∧ ∃ us : List Value, us.length = ys.length * κ.sz k ∧ (∀ (j : Nat) (v : Value), us[j]? = some v → w.cell? (ad.add j) = some v) ∧ RowsAt C.E F φ k ys us := by
  have hp := hE.pos k
  cases y with
  | ro k' xs =>
    simp only [rowsOf, Option.some.injEq, Sigma.mk.injEq] at h
    obtain ⟨rfl, h⟩ := h
    obtain rfl := eq_of_heq h
    cases hy with
    | roNil _ => exact .inl ⟨rfl, rfl⟩
    | roEmp _ ad cap => exact .inr ⟨ad, cap, rfl, [], by simp, fun j v hj => by simp at hj, fun r x j c u hx => by simp at hx⟩
    | ro _ _ b off cap us hcap hc hr =>
      refine .inr ⟨⟨b, off, none⟩, cap, rfl, (List.range (xs.length * κ.sz k')).map fun i => us (i / κ.sz k') (i % κ.sz k'), by simp, fun j v hj => ?_, fun r x j c u hx hj hu => ?_⟩
      · rw [List.getElem?_map] at hj
        obtain ⟨i, hi, rfl⟩ := Option.map_eq_some_iff.1 hj
        have hlt : j < xs.length * κ.sz k' := by have := (List.getElem?_eq_some_iff.1 hi).1; simpa using this
        rw [List.getElem?_range hlt] at hi
        obtain rfl := Option.some.inj hi
        have h1 := hc (j / κ.sz k') (j % κ.sz k') (Nat.div_lt_of_lt_mul (by rw [Nat.mul_comm]; exact hlt)) (Nat.mod_lt _ hp)
        have he : j / κ.sz k' * κ.sz k' + j % κ.sz k' = j := by rw [Nat.mul_comm]; exact Nat.div_add_mod j _
        rw [he] at h1
        rw [Addr.add_lit]
        exact fcell_cell hg.rel.frz h1
      · have hlt : j < κ.sz k' := by rw [← hE.len k' x]; exact (List.getElem?_eq_some_iff.1 hj).1
        rw [List.getElem?_map] at hu
        obtain ⟨i, hi, rfl⟩ := Option.map_eq_some_iff.1 hu
        have hlt2 := (List.getElem?_eq_some_iff.1 hi).1
        simp only [List.length_range] at hlt2
        rw [List.getElem?_range hlt2] at hi
        obtain rfl := Option.some.inj hi
        rw [show (r * κ.sz k' + j) / κ.sz k' = r by rw [Nat.mul_comm, Nat.mul_add_div hp, Nat.div_eq_of_lt hlt, Nat.add_zero], show (r * κ.sz k' + j) % κ.sz k' = j by rw [Nat.mul_comm, Nat.mul_add_mod, Nat.mod_eq_of_lt hlt]]
        exact hr r x j c hx hj
  | own k' i =>
    simp only [rowsOf] at h
    split at h
    · rename_i k'' xs hS
      split at h
      · rename_i hk
        subst hk
        simp only [Option.some.injEq, Sigma.mk.injEq] at h
        obtain ⟨rfl, h⟩ := h
        obtain rfl := eq_of_heq h
        obtain ⟨p, h1, h2, hh⟩ := hg.rel.blk i _ hS
        rcases hh with ⟨hn, hx⟩ | ⟨g, cur, hpg, h4, h5, h6, h7, h8⟩
        · cases hy with
          | own _ _ p' g hp' hpg =>
            obtain rfl := Option.some.inj (h1.symm.trans hp')
            rw [hn] at hpg; cases hpg
          | ownNil _ _ _ _ _ => exact .inl ⟨hx, rfl⟩
        · cases hy with
          | ownNil _ _ p' hp' hpg' =>
            obtain rfl := Option.some.inj (h1.symm.trans hp')
            rw [hpg] at hpg'; cases hpg'
          | own _ _ p' g' hp' hpg' =>
            obtain rfl := Option.some.inj (h1.symm.trans hp')
            obtain rfl := Option.some.inj (hpg.symm.trans hpg')
            have hmul : xs.length * κ.sz k'' ≤ p.cap * κ.sz k'' := Nat.mul_le_mul_right _ h6
            refine .inr ⟨⟨g, 0, none⟩, p.cap, by rw [h2], cur.toList.take (xs.length * κ.sz k''), by simp; omega, fun j v hj => ?_, ?_⟩
            · rw [Addr.add_lit, cell_at h4]
              rw [List.getElem?_take] at hj
              split at hj
              · simpa using hj
              · cases hj
            · exact RowsAt.take fun r x j c u hx hc hu => h8 r x j c u hx hc (by simpa using hu)
      · cases h
    · cases h
  | _ => simp [rowsOf] at h

theorem run_append_srcNil {t e : TypeId} {base : Option Addr} {n cap : Nat} (hu : P.underlying t = some (.slice e)) {i : TypeInfo} (hi : P.info? e = some i) (hn : n ≤ cap) (ty : TypeId) (w : World) :
    (Builtin.append_ #[t, t] ty #[.slice base n cap, .slice none 0 0]).run P w = .ok (.slice base n cap) w := by
  cases base <;> simp [Builtin.append_, run_underlying hu, sizeOf, typeInfo, hi, Builtin.lenOf, hn, Builtin.firstCells, storeCells]
theorem run_append_nil0 {t e : TypeId} {b : Addr} {c : Nat} (hu : P.underlying t = some (.slice e)) {i : TypeInfo} (hi : P.info? e = some i) (ty : TypeId) (w : World) :
    (Builtin.append_ #[t, t] ty #[.slice none 0 0, .slice (some b) 0 c]).run P w = .ok (.slice none 0 0) w := by
  simp [Builtin.append_, run_underlying hu, sizeOf, typeInfo, hi, Builtin.lenOf, Builtin.firstCells, loadCells, loadCellsFrom]

theorem grown_drewAlloc (w : World) (ob : Obj) (row : Option Nat) : w.grownBy (w.drew.alloc ob) row := ⟨rfl, rfl, rfl, by show _ ≤ (w.heap.push _).size; simp, fun k hk _ => heap_alloc_old w.drew _ k hk⟩
theorem grown_setRow (w : World) (g : Nat) (cs : Array Value) : w.grownBy (w.setRow g cs) (some g) := ⟨rfl, rfl, rfl, by simp [World.setRow], fun k _ hk => setRow_other w g k _ (fun e => hk (by rw [e]))⟩

theorem grownCap_max (w : World) (need old : Nat) (e : TypeId) (h : need ≤ capBytes) : grownCap w need old e ≤ maxLen := grownCap_le_maxLen w need old e (by unfold capBytes at h; unfold maxLen; omega)

theorem run_append_op {x y : Operand} {t : TypeId} {u v r : Value} (ho : o.op = .call ⟨.builtin .append, #[x, y], #[t, t]⟩) (hx : a.eval x = u) (hy : a.eval y = v) (h : (Builtin.append_ #[t, t] o.type #[u, v]).run P w = .ok r w') : (execOp a.eval o).run P w = .ok (.value r) w' := by
  unfold execOp
  simp only [ho, resolve, invoke, builtin, Sem.run_bind, Sem.run_pure, Result.andThen_ok, List.map_toArray, List.map_cons, List.map_nil, hx, hy, h]

theorem loud_append {β : Type} (hE : C.E.Ok) (hfit : ∀ k : κ.Kc, Fit C.P k) {kindOf : TypeId → Option κ.Kc} {args : Array Operand} {ts : Array TypeId} {K : AV κ → St κ → Option β} {r : β} (ho : o.op = .call ⟨.builtin .append, args, ts⟩) (h : loud? C kindOf o s K = some r) :
    ∃ v s', K v s' = some r ∧ LoudOk C o s v s' := by
  simp only [loud?, ho] at h
  split at h
  · rename_i x y t t' hargs hts
    have ha : args = #[x, y] := by cases args; simp_all
    have ht' : ts = #[t, t'] := by cases ts; simp_all
    subst ha; subst ht'
    split at h
    · rename_i htt
      subst htt
      split at h
      · rename_i d e k ys hu hys
        split at h
        · rename_i hel
          obtain ⟨inf, z, hi, hsz, hby, hz, hzs, hp1, hp2⟩ := hfit k
          rw [hel] at hi
          split at h
          · -- onto nil
            rename_i hx
            rw [room_ite] at h
            split at h
            · rename_i hcb
              refine ⟨_, _, h, fun a w F φ hg next Q hn => ?_⟩
              have e1 := val_inv (hx ▸ ev_rep hg x)
              have hmx : ys.length ≤ capBytes := Nat.le_trans (Nat.le_mul_of_pos_right _ hp2) hcb
              obtain ⟨n1, n2, n3⟩ := nil_fresh hg k
              rcases rowsOf_sound hE hg (ev_rep hg y) hys with ⟨rfl, hyv⟩ | ⟨ad, cap, hyv, us, hl, hcell, hrows⟩
              · exact wp_value (run_append_op ho e1 hyv (run_append_srcNil hu hi (Nat.le_refl _) _ w)) (hn _ _ _ _ n1 n2 n3)
              · by_cases h0 : ys.length = 0
                · obtain rfl := List.eq_nil_of_length_eq_zero h0
                  exact wp_value (run_append_op ho e1 hyv (run_append_nil0 hu hi _ w)) (hn _ _ _ _ n1 n2 n3)
                · have hrun := run_append_nil (P := C.P) w t o.type e inf z hu hi hz ad ys.length cap us (by rw [hsz]; exact hl) hcell (by omega) (by unfold capBytes at hmx; omega) (by rw [hby]; unfold capBytes at hcb; omega)
                  have hge := grownCap_ge w ys.length 0 e
                  obtain ⟨h1, h2, h3⟩ := rows_fresh hg (w' := w.drew.alloc (.cells (us.toArray ++ Builtin.zeroCells z.cells (grownCap w ys.length 0 e - ys.length)) e)) (k := k) (xs := ys) (cur := us.toArray ++ Builtin.zeroCells z.cells (grownCap w ys.length 0 e - ys.length)) (cap := grownCap w ys.length 0 e)
                    (by simp only [Array.size_append, List.size_toArray, size_zeroCells, hl, hzs, ← Nat.add_mul]; congr 1; omega) hge (grownCap_max w _ _ e hmx)
                    (fun r x j c u hx hc hu' => by
                      have := RowsAt.append (D := (Builtin.zeroCells z.cells (grownCap w ys.length 0 e - ys.length)).toList) hE (xs := []) (A := []) (by simp) hl (fun r x j c u hx => by simp at hx) hrows
                      refine this r x j c u (by simpa using hx) hc ?_
                      rw [← Array.getElem?_toList] at hu'
                      simpa using hu')
                    (grown_drewAlloc w _ none) (by rw [hel]; exact heap_alloc_new w.drew _)
                  exact wp_value (run_append_op ho e1 hyv hrun) (hn _ _ _ _ h1 h2 h3)
            · cases h
          · -- onto a slice of the call's own
            rename_i k' i hx
            split at h
            · rename_i k'' xs hS
              split at h
              · rename_i hk
                subst hk
                split at h
                · rename_i hk
                  subst hk
                  rw [room_ite] at h
                  split at h
                  · rename_i hcb
                    refine ⟨_, _, h, fun a w F φ hg next Q hn => ?_⟩
                    simp only at hcb
                    have hmx : xs.length + ys.length ≤ capBytes := Nat.le_trans (Nat.le_mul_of_pos_right _ hp2) hcb
                    have hxr := ev_rep hg x
                    rw [hx] at hxr
                    obtain ⟨p, h1, h2, hh⟩ := own_inv hg hxr hS
                    rcases hh with ⟨hpg, rfl, hxv⟩ | ⟨g, hpg, hxv⟩
                    · -- a nil slice
                      have hnil : ys = [] → ∃ w', w' = w ∧ Good C.E C.glob a w' (s.turn i (.rows k' ([] ++ ys))) F (at_ φ i (some ⟨none, 0, 0⟩)) ∧ Rep C.E F (at_ φ i (some ⟨none, 0, 0⟩)) (.own k' i) (.slice none 0 0) ∧ Mv w F φ w F (at_ φ i (some ⟨none, 0, 0⟩)) := by
                        rintro rfl
                        exact ⟨w, rfl, nil_turn hE hg hS k'⟩
                      rcases rowsOf_sound hE hg (ev_rep hg y) hys with ⟨h0, hyv⟩ | ⟨ad, cap, hyv, us, hl, hcell, hrows⟩
                      · obtain ⟨w', rfl, n1, n2, n3⟩ := hnil h0
                        exact wp_value (run_append_op ho hxv hyv (run_append_srcNil hu hi (Nat.le_refl _) _ w')) (hn _ _ _ _ n1 n2 n3)
                      · by_cases h0 : ys.length = 0
                        · obtain ⟨w', rfl, n1, n2, n3⟩ := hnil (List.eq_nil_of_length_eq_zero h0)
                          rw [h0] at hyv
                          exact wp_value (run_append_op ho hxv hyv (run_append_nil0 hu hi _ w')) (hn _ _ _ _ n1 n2 n3)
                        · have hmx' : ys.length ≤ capBytes := by simpa using hmx
                          have hcb' : ys.length * κ.bytes k' ≤ capBytes := by simpa using hcb
                          have hrun := run_append_nil (P := C.P) w t o.type e inf z hu hi hz ad ys.length cap us (by rw [hsz]; exact hl) hcell (by omega) (by unfold capBytes at hmx'; omega) (by rw [hby]; unfold capBytes at hcb'; omega)
                          have hge := grownCap_ge w ys.length 0 e
                          obtain ⟨h3, h4, h5⟩ := rows_turn hE hg hS (w' := w.drew.alloc (.cells (us.toArray ++ Builtin.zeroCells z.cells (grownCap w ys.length 0 e - ys.length)) e)) (row := none) (g := w.heap.size) (k := k') (zs := [] ++ ys) (cur := us.toArray ++ Builtin.zeroCells z.cells (grownCap w ys.length 0 e - ys.length)) (cap := grownCap w ys.length 0 e)
                            (by simp only [Array.size_append, List.size_toArray, size_zeroCells, hl, hzs, ← Nat.add_mul]; congr 1; omega) (by simpa using hge) (grownCap_max w _ _ e hmx')
                            (by
                              have := RowsAt.append (D := (Builtin.zeroCells z.cells (grownCap w ys.length 0 e - ys.length)).toList) hE (xs := []) (A := []) (by simp) hl (fun r x j c u hx => by simp at hx) hrows
                              simpa using this)
                            (grown_drewAlloc w _ none) (fun k h => by cases h) (by rw [hel]; exact heap_alloc_new w.drew _) (.inr (Nat.le_refl _))
                          exact wp_value (run_append_op ho hxv hyv hrun) (hn _ _ _ _ h3 h4 h5)
                    · -- a slice over a block
                      obtain ⟨p', h3, h4, hh⟩ := hg.rel.blk i _ hS
                      obtain rfl := Option.some.inj (h1.symm.trans h3)
                      rcases hh with ⟨hn, _⟩ | ⟨g', cur, hpg', h5, h6, h7, h8, h9⟩
                      · rw [hpg] at hn; cases hn
                      obtain rfl := Option.some.inj (hpg.symm.trans hpg')
                      have hrowsx : RowsAt C.E F φ k' xs cur.toList := fun r x j c u hx hc hu => h9 r x j c u hx hc (by simpa using hu)
                      have hmul : xs.length * κ.sz k' ≤ p.cap * κ.sz k' := Nat.mul_le_mul_right _ h7
                      rcases rowsOf_sound hE hg (ev_rep hg y) hys with ⟨rfl, hyv⟩ | ⟨ad, cap, hyv, us, hl, hcell, hrows⟩
                      · have n1 := rows_turn hE hg hS (w' := w) (row := none) (k := k') (zs := xs ++ []) (cur := cur) (cap := p.cap) (g := g) h6 (by simpa using h7) h8 (by simpa using hrowsx) ⟨rfl, rfl, rfl, Nat.le_refl _, fun _ _ _ => rfl⟩ (fun k h => by cases h) h5 (.inl ⟨p, h1, hpg⟩)
                        simp only [List.append_nil] at n1
                        refine wp_value (run_append_op ho hxv hyv (run_append_srcNil hu hi h7 _ w)) (hn _ _ _ _ ?_ n1.2.1 n1.2.2)
                        simpa using n1.1
                      · by_cases hroom : xs.length + ys.length ≤ p.cap
                        · have hfit2 : xs.length * κ.sz k' + us.length ≤ cur.size := by rw [hl, h6, ← Nat.add_mul]; exact Nat.mul_le_mul_right _ hroom
                          have hrun := run_append_room (P := C.P) w t o.type e inf hu hi g xs.length p.cap cur (by rw [hel] at h5; exact h5) ad ys.length cap us (by rw [hsz]; exact hl) hcell (hrows.one hE hl) hroom (by rw [hsz]; exact hfit2)
                          rw [hsz] at hrun
                          have n1 := rows_turn hE hg hS (w' := w.setRow g (cur.toList.take (xs.length * κ.sz k') ++ us ++ cur.toList.drop (xs.length * κ.sz k' + us.length)).toArray) (row := some g) (k := k') (zs := xs ++ ys) (cur := (cur.toList.take (xs.length * κ.sz k') ++ us ++ cur.toList.drop (xs.length * κ.sz k' + us.length)).toArray) (cap := p.cap) (g := g)
                            (by simp only [List.size_toArray, List.length_append, List.length_take, List.length_drop, Array.length_toList]; omega) (by simpa using hroom) h8
                            (by simpa using RowsAt.append hE (A := cur.toList.take (xs.length * κ.sz k')) (D := cur.toList.drop (xs.length * κ.sz k' + us.length)) (by simp; omega) hl hrowsx.take hrows)
                            (grown_setRow w g _) (fun k h => by obtain rfl := Option.some.inj h; exact ⟨p, h1, hpg⟩) (setRow_heap w g cur _ _ _ h5) (.inl ⟨p, h1, hpg⟩)
                          simp only [List.length_append] at n1
                          exact wp_value (run_append_op ho hxv hyv hrun) (hn _ _ _ _ n1.1 n1.2.1 n1.2.2)
                        · have holds : ∀ (j : Nat) (v : Value), (cur.toList.take (xs.length * κ.sz k'))[j]? = some v → w.cell? ((⟨g, 0, none⟩ : Addr).add j) = some v := fun j v hj => by
                            rw [Addr.add_lit, cell_at h5]
                            rw [List.getElem?_take] at hj
                            split at hj
                            · simpa using hj
                            · cases hj
                          have hrun := run_append_grow (P := C.P) w t o.type e inf z hu hi hz ⟨g, 0, none⟩ xs.length p.cap (cur.toList.take (xs.length * κ.sz k')) (by rw [hsz]; simp; omega) holds ad ys.length cap us (by rw [hsz]; exact hl) hcell (by omega) (by unfold capBytes at hmx; omega) (growslice_fits (by omega) (by rw [hby]; unfold capBytes at hcb; exact hcb))
                          have hge := grownCap_ge w (xs.length + ys.length) p.cap e
                          have n1 := rows_turn hE hg hS (w' := w.drew.alloc (.cells ((cur.toList.take (xs.length * κ.sz k')).toArray ++ us.toArray ++ Builtin.zeroCells z.cells (grownCap w (xs.length + ys.length) p.cap e - (xs.length + ys.length))) e)) (row := none) (k := k') (zs := xs ++ ys)
                            (cur := (cur.toList.take (xs.length * κ.sz k')).toArray ++ us.toArray ++ Builtin.zeroCells z.cells (grownCap w (xs.length + ys.length) p.cap e - (xs.length + ys.length))) (cap := grownCap w (xs.length + ys.length) p.cap e) (g := w.heap.size)
                            (by
                              have e1 : (cur.toList.take (xs.length * κ.sz k')).length = xs.length * κ.sz k' := by simp; omega
                              simp only [Array.size_append, List.size_toArray, size_zeroCells, hl, hzs, e1, ← Nat.add_mul]; congr 1; omega) (by simpa using hge) (grownCap_max w _ _ e hmx)
                            (by simpa using RowsAt.append hE (A := cur.toList.take (xs.length * κ.sz k')) (D := (Builtin.zeroCells z.cells (grownCap w (xs.length + ys.length) p.cap e - (xs.length + ys.length))).toList) (by simp; omega) hl hrowsx.take hrows)
                            (grown_drewAlloc w _ none) (fun k h => by cases h) (by rw [hel]; exact heap_alloc_new w.drew _) (.inr (Nat.le_refl _))
                          simp only [List.length_append] at n1
                          exact wp_value (run_append_op ho hxv hyv hrun) (hn _ _ _ _ n1.1 n1.2.1 n1.2.2)
                  · cases h
                · cases h
              · cases h
            · cases h
          · cases h
        · cases h
      · cases h
    · cases h
  · cases h
end Go.Am
