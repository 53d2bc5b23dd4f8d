/- Quiet operations: what the machine reckons is what the program's operation yields, in every world that holds what this one holds. -/
import Derived.Test.YtebbipofemjnmaaDoorTAm3
import Derived.Laws.StructEq
namespace Go.Am
open Go.RowKit
variable {κ : Kinds} {E : Encs κ} {F F' : Nat → Option Obj} {φ φ' : Nat → Option Pl} {P : Program} {C : Ctx κ} {a : Act} {w : World} {s : St κ} {o : Oper}

theorem part_agg {t : TypeId} {cs : List (AV κ)} {us : Array Value} {off : Nat} {v : AV κ} (h : part? P t (cs.drop off) = some v) (hl : cs.length = us.size) (hr : ∀ (j : Nat) (c : AV κ) (u : Value), cs[j]? = some c → us[j]? = some u → Rep E F φ c u) :
    ∃ u, Rep E F φ v u ∧ ∀ w, (part t us off).run P w = .ok u w := by
  unfold part? at h
  have agg : ∀ (i : TypeInfo) (d : TypeDesc), P.underlying t = some d → P.info? t = some i → aggD d = true → (if i.size ≤ (cs.drop off).length then some (AV.agg ((cs.drop off).take i.size)) else none) = some v →
      ∃ u, Rep E F φ v u ∧ ∀ w, (part t us off).run P w = .ok u w := by
    intro i d hd hi hb h
    split at h
    · rename_i hle
      simp only [Option.some.injEq] at h
      subst h
      simp only [List.length_drop] at hle
      refine ⟨.agg (us.extract off (off + i.size)), .agg _ _ (by simp; omega) fun j c u hc hu => ?_, fun w => ?_⟩
      · rw [List.getElem?_take] at hc
        split at hc
        · rename_i hj
          rw [List.getElem?_drop] at hc
          have : us[off + j]? = some u := by
            rw [Array.getElem?_extract] at hu
            split at hu
            · exact hu
            · cases hu
          exact hr _ _ _ hc this
        · cases hc
      · simp [part, Sem.run_bind, run_isAgg' hd, hb, run_sizeOf' hi]
    · cases h
  cases hd : P.underlying t with
  | none => simp [hd] at h
  | some d =>
    cases hi : P.info? t with
    | none => rw [hd, hi] at h; cases d <;> simp at h
    | some i =>
      rw [hd, hi] at h
      cases hb : aggD d with
      | true => exact agg i d hd hi hb (by cases d <;> first | exact h | simp [aggD] at hb)
      | false =>
        have h' : (cs.drop off).head? = some v := by cases d <;> first | exact h | simp [aggD] at hb
        rw [List.head?_eq_getElem?, List.getElem?_drop, Nat.add_zero] at h'
        have hlt : off < us.size := by rw [← hl]; exact (List.getElem?_eq_some_iff.1 h').1
        refine ⟨us[off], hr off v _ h' (by simp [hlt]), fun w => ?_⟩
        simp [part, Sem.run_bind, run_isAgg' hd, hb, hlt]

/-- A load from memory of its own. -/
def ownLoad (C : Ctx κ) (o : Oper) (s : St κ) : Bool := match o.op with
  | .load _ x => match ev C s x with
    | .rop _ | .tab _ _ => false
    | _ => true
  | .convert _ _ x => match ev C s x with
    | .own _ _ => true
    | _ => false
  | _ => false
/-- What is frozen stands. -/
def Fr (F : Nat → Option Obj) (w : World) : Prop := ∀ b o, F b = some o → w.heap[b]? = some o
theorem Fr.cell {F : Nat → Option Obj} {w : World} (h : Fr F w) {b o : Nat} {v : Value} (hc : FCell F b o = some v) : w.cell? ⟨b, o, none⟩ = some v := by
  unfold FCell at hc
  split at hc
  · rename_i c ty fr hb
    rw [cell_at (h _ _ hb)]
    simpa using hc
  · cases hc
/-- What is shown of a quiet operation. -/
def QuietOk (C : Ctx κ) (o : Oper) (s : St κ) (v : AV κ) : Prop :=
  ∀ (a : Act) (w : World) (F : Nat → Option Obj) (φ : Nat → Option Pl), Good C.E C.glob a w s F φ → ∃ u, Rep C.E F φ v u ∧ (∀ t, o.op = .move (.tmp t) → u = a.tmps.getD t undef) ∧ (∀ w', Sub w w' → (execOp a.eval o).run C.P w' = .ok (.value u) w') ∧ (ownLoad C o s = false → ∀ w', Fr F w' → (execOp a.eval o).run C.P w' = .ok (.value u) w')

theorem QuietOk.pure {v : AV κ} (h : ∀ (a : Act) (F : Nat → Option Obj) (φ : Nat → Option Pl) (w : World), Good C.E C.glob a w s F φ → ∃ u, Rep C.E F φ v u ∧ (∀ t, o.op = .move (.tmp t) → u = a.tmps.getD t undef) ∧ ∀ w', (execOp a.eval o).run C.P w' = .ok (.value u) w') : QuietOk C o s v :=
  fun a w F φ hg => let ⟨u, h1, h2, h3⟩ := h a F φ w hg; ⟨u, h1, h2, fun w' _ => h3 w', fun _ w' _ => h3 w'⟩

theorem quiet_move {x : Operand} (ho : o.op = .move x ∨ o.op = .assign x) : QuietOk C o s (ev C s x) :=
  .pure fun a F φ w hg => ⟨a.eval x, ev_rep hg x, fun t ht => by rcases ho with ho | ho <;> rw [ho] at ht <;> simp at ht; subst ht; rfl, fun w' => by
    unfold execOp
    rcases ho with ho | ho <;> rw [ho] <;> rfl⟩

theorem run_v {m : Sem Value} {u : Value} {w w' : World} (h : m.run P w = .ok u w') : (do pure (Next.value (← m)) : Sem Next).run P w = .ok (.value u) w' := by
  simp [h]

theorem val_inv {v u : Value} (h : Rep E F φ (.val v) u) : u = v := by cases h; rfl

theorem bin_sound {β : Type} {op : BinOp} {t : TypeId} {x y : Operand} {m n : Value} {K : AV κ → Option β} {r : β} (h : bin? P op t x y m n K = some r) :
    ∃ u, K (.val u) = some r ∧ ∀ w, (do eqGuard op t x y m n; binOp op t m n : Sem Value).run P w = .ok u w := by
  have fallback : (match pureRun P (do eqGuard op t x y m n; binOp op t m n) with | some v => K (.val v) | none => none) = some r → ∃ u, K (.val u) = some r ∧ ∀ w, (do eqGuard op t x y m n; binOp op t m n : Sem Value).run P w = .ok u w := by
    intro h
    split at h
    · rename_i v hv
      exact ⟨v, h, fun w => pureRun_sound hv w⟩
    · cases h
  unfold bin? at h
  split at h
  · split at h
    · rename_i hk
      subst hk
      split at h
      · cases h
      · rename_i hn
        exact ⟨_, h, fun w => by simp [eqGuard, binOp, Op.intDiv, hn, quo]⟩
    · cases h
  · split at h
    · rename_i hk
      subst hk
      split at h
      · cases h
      · rename_i hn
        exact ⟨_, h, fun w => by simp [eqGuard, binOp, Op.intDiv, hn, rem]⟩
    · cases h
  · split at h
    · cases h
    · rename_i hn
      exact ⟨_, h, fun w => by simp [eqGuard, binOp, Op.shift, hn, shl]⟩
  · split at h
    · cases h
    · rename_i hn
      exact ⟨_, h, fun w => by simp [eqGuard, binOp, Op.shift, hn, shr]⟩
  · obtain ⟨hn, h⟩ := tooLong_some.1 h
    · exact ⟨_, h, fun w => by simp only [eqGuard, binOp, Op.stringOp]; simp only [if_neg hn]; rfl⟩
  · cases h
  · exact fallback h

theorem eqV_sound {t : TypeId} {a b : Value} {e : Bool} (h : eqV P t a b = some e) (d : Nat) (w : World) : (Op.equalIn (d + 1) t a b).run P w = .ok e w := by
  unfold eqV at h
  split at h
  · split at h
    · rename_i hu
      split at h
      · rename_i hk
        subst hk
        obtain rfl := Option.some.inj h
        exact run_equalIn_int w d t _ _ _ _ hu
      · cases h
    · cases h
  · split at h
    · rename_i hu
      obtain rfl := Option.some.inj h
      exact run_equalIn_bool' w d t _ _ hu
    · cases h
  · split at h
    · rename_i hu
      obtain rfl := Option.some.inj h
      exact run_equalIn_string w d t _ _ hu
    · cases h
  · cases h
theorem eqF_sound {cs ds : List (AV κ)} {us vs : Array Value} (hl : cs.length = us.size) (hr : ∀ (j : Nat) (c : AV κ) (u : Value), cs[j]? = some c → us[j]? = some u → Rep E F φ c u)
    (hl' : ds.length = vs.size) (hr' : ∀ (j : Nat) (c : AV κ) (u : Value), ds[j]? = some c → vs[j]? = some u → Rep E F φ c u) (d : Nat) (w : World) :
    ∀ {fs : List Field} {r : Bool}, eqF P cs ds fs = some r → (Op.eqFields (d + 1) us vs fs).run P w = .ok r w
  | [], r, h => by obtain rfl := Option.some.inj h; simp [Op.eqFields]
  | f :: fs, r, h => by
    simp only [eqF] at h
    split at h
    · rename_i hn
      split at h
      · rename_i a b r' h1 h2 h3
        split at h
        · rename_i e he
          obtain rfl := Option.some.inj h
          obtain ⟨u, hu, run1⟩ := part_agg h1 hl hr
          obtain ⟨v, hv, run2⟩ := part_agg h2 hl' hr'
          obtain rfl := val_inv hu
          obtain rfl := val_inv hv
          simp only [Op.eqFields, if_pos hn, Sem.run_bind, run1, run2, Result.andThen_ok, eqV_sound he d w]
          cases e
          · simp
          · simpa using eqF_sound hl hr hl' hr' d w h3
        · cases h
      · cases h
    · rename_i hn
      simp only [Op.eqFields, if_neg hn]
      exact eqF_sound hl hr hl' hr' d w h

theorem quiet_bin {β : Type} {op : BinOp} {t t' : TypeId} {x y : Operand} {K : AV κ → Option β} {r : β} (ho : o.op = .binOp op t x y t') (h : quiet? C o s K = some r) : ∃ v, K v = some r ∧ QuietOk C o s v := by
  simp only [quiet?, ho] at h
  split at h
  · rename_i m n hm hn
    obtain ⟨u, hu, hr⟩ := bin_sound h
    refine ⟨_, hu, .pure fun a F φ w hg => ⟨u, .val u, fun t ht => by rw [ho] at ht; simp at ht, fun w' => ?_⟩⟩
    have e1 := val_inv (hm ▸ ev_rep hg x)
    have e2 := val_inv (hn ▸ ev_rep hg y)
    unfold execOp
    rw [ho]
    simp only [e1, e2]
    exact run_v (hr w')
  · rename_i cs ds hm hn
    unfold binA? at h
    split at h
    · rename_i hg
      split at h
      · rename_i fs hfs
        split at h
        · rename_i r hr
          have key : ∀ (a : Act) (w : World) (F : Nat → Option Obj) (φ : Nat → Option Pl), Good C.E C.glob a w s F φ → ∃ us vs, a.eval x = .agg us ∧ a.eval y = .agg vs ∧ ∀ w', (Op.equalIn 10000 t (.agg us) (.agg vs)).run C.P w' = .ok r w' := by
            intro a w F φ hg'
            have e1 := hm ▸ ev_rep hg' x
            have e2 := hn ▸ ev_rep hg' y
            cases hu : a.eval x with
            | agg us =>
              cases hv : a.eval y with
              | agg vs =>
                rw [hu] at e1
                rw [hv] at e2
                cases e1 with
                | agg _ _ l1 r1 =>
                  cases e2 with
                  | agg _ _ l2 r2 =>
                    refine ⟨us, vs, rfl, rfl, fun w' => ?_⟩
                    have hf : C.P.fieldsOf t = fs := by simp [Program.fieldsOf, hfs]
                    have ht : C.P.underlying t = some (.struct (C.P.fieldsOf t)) := by rw [hf]; exact hfs
                    rw [show (10000 : Nat) = 9998 + 1 + 1 from rfl, run_equalIn_agg w' (9998 + 1) t us vs ht hg.2, hf]
                    exact eqF_sound l1 r1 l2 r2 9998 w' hr
              | _ => rw [hv] at e2; cases e2
            | _ => rw [hu] at e1; cases e1
          split at h
          · refine ⟨_, h, .pure fun a F φ w hg' => ⟨_, .val _, fun t ht => by rw [ho] at ht; simp at ht, fun w' => ?_⟩⟩
            obtain ⟨us, vs, k1, k2, k3⟩ := key a w F φ hg'
            unfold execOp
            rw [ho]
            simp only [k1, k2]
            refine run_v ?_
            simp only [Sem.run_bind, run_eqGuard_agg _ _ _ _ _ _ _ hg.1, Result.andThen_ok, run_eql_struct, k3]
          · refine ⟨_, h, .pure fun a F φ w hg' => ⟨_, .val _, fun t ht => by rw [ho] at ht; simp at ht, fun w' => ?_⟩⟩
            obtain ⟨us, vs, k1, k2, k3⟩ := key a w F φ hg'
            unfold execOp
            rw [ho]
            simp only [k1, k2]
            refine run_v ?_
            simp only [Sem.run_bind, run_eqGuard_agg _ _ _ _ _ _ _ hg.1, Result.andThen_ok, run_neq_struct, k3]
          · cases h
        · cases h
      · cases h
    · cases h
  · cases h

theorem quiet_un {β : Type} {op : UnOp} {t : TypeId} {x : Operand} {K : AV κ → Option β} {r : β} (ho : o.op = .unOp op t x) (h : quiet? C o s K = some r) : ∃ v, K v = some r ∧ QuietOk C o s v := by
  simp only [quiet?, ho] at h
  split at h
  · rename_i m hm
    split at h
    · rename_i u hu
      refine ⟨_, h, .pure fun a F φ w hg => ⟨u, .val u, fun t ht => by rw [ho] at ht; simp at ht, fun w' => ?_⟩⟩
      have e1 := val_inv (hm ▸ ev_rep hg x)
      unfold execOp
      rw [ho]
      simp only [e1]
      exact run_v (pureRun_sound hu w')
    · cases h
  · cases h

theorem conv_cells {src e dst : TypeId} (hs : P.underlying src = some (.slice e)) (he : P.underlying e = some (.int .u8)) (hd : P.underlying dst = some .string) {w : World} {b off len cap : Nat} {xs : List Int} (hl : xs.length = len) (hc : ∀ i, i < len → w.cell? ⟨b, off + i, none⟩ = some (.int .u8 (xs.getD i 0))) :
    (convert src dst (.slice (some ⟨b, off, none⟩) len cap)).run P w = .ok (.string (strOfNums xs)) w := run_convert_bytes_arg w src e hs he b off len cap xs hl hc dst hd
theorem conv_none {src e dst : TypeId} (hs : P.underlying src = some (.slice e)) (he : P.underlying e = some (.int .u8)) (hd : P.underlying dst = some .string) {w : World} {l c : Nat} :
    (convert src dst (.slice none l c)).run P w = .ok (.string (strOfNums [])) w := run_convert_bytes_nil w src e hs he l c dst hd
theorem conv_zero {src e dst : TypeId} (hs : P.underlying src = some (.slice e)) (he : P.underlying e = some (.int .u8)) (hd : P.underlying dst = some .string) {w : World} {a : Addr} {c : Nat} :
    (convert src dst (.slice (some a) 0 c)).run P w = .ok (.string (strOfNums [])) w := by
  rw [run_convert_bytes_string w src dst e _ 0 c hs he hd, run_bytesToString w a 0 c [] (by simp [loadCells, loadCellsFrom])]
  rfl
theorem byte_cell {E : Encs κ} (hE : E.Ok) {k : κ.Kc} {f : κ.ty k → Int} (hf : E.byte k = some f) {F : Nat → Option Obj} {φ : Nat → Option Pl} {x : κ.ty k} {u : Value} (h : ∀ (j : Nat) (c : AV κ), (E.enc k x)[j]? = some c → Rep E F φ c u) : u = .int .u8 (f x) := by
  have := h 0 (.val (.int .u8 (f x))) (by rw [hE.byte k f x hf]; rfl)
  cases this; rfl
theorem byte_sz {E : Encs κ} (hE : E.Ok) {k : κ.Kc} {f : κ.ty k → Int} (hf : E.byte k = some f) : κ.sz k = 1 := by
  have hp := hE.pos k
  cases hk : κ.sz k with
  | zero => omega
  | succ n =>
    have : ∀ x, (E.enc k x).length = 1 := fun x => by rw [hE.byte k f x hf]; rfl
    have h2 := hE.len k (E.dflt k)
    rw [this, hk] at h2
    omega
theorem quiet_nilCheck {β : Type} {x : Operand} {K : AV κ → Option β} {r : β} (ho : o.op = .nilCheck x) (h : quiet? C o s K = some r) : ∃ v, K v = some r ∧ QuietOk C o s v := by
  simp only [quiet?, ho] at h
  split at h
  all_goals first
    | (cases h; done)
    | (rename_i he
       refine ⟨_, h, .pure fun a F φ w hg => ?_⟩
       have hr := ev_rep hg x
       rw [he] at hr
       generalize hz : a.eval x = z at hr
       refine ⟨z, hr, fun t ht => by rw [ho] at ht; simp at ht, fun w' => ?_⟩
       unfold execOp
       rw [ho]
       simp only [hz]
       cases hr <;> rfl)

theorem quiet_load {β : Type} (hE : C.E.Ok) {t : TypeId} {x : Operand} {K : AV κ → Option β} {r : β} (ho : o.op = .load t x) (h : quiet? C o s K = some r) : ∃ v, K v = some r ∧ QuietOk C o s v := by
  simp only [quiet?, ho] at h
  split at h
  · rename_i k xs hx
    split at h
    · rename_i n e i hu hi
      split at h
      · rename_i hsz
        refine ⟨_, h, fun a w F φ hg => ?_⟩
        have hr := ev_rep hg x
        rw [hx] at hr
        generalize hz : a.eval x = z at hr
        cases hr with
        | tab _ _ b hx0 h' =>
          generalize hcs : xs.flatMap (C.E.enc k) = cs at h'
          have hlen : cs.length = i.size := by
            rw [← hcs, hsz, List.length_flatMap]
            have : (xs.map fun a => (C.E.enc k a).length) = List.replicate xs.length (κ.sz k) := by
              rw [List.eq_replicate_iff]
              exact ⟨by simp, fun n hn => by obtain ⟨y, _, rfl⟩ := List.mem_map.1 hn; exact hE.len k y⟩
            rw [this, List.sum_replicate_nat]
          cases h' with
          | rop _ _ _ us0 hc0 h0 =>
            have hp : part? C.P t cs = some (.agg cs) := by
              unfold part?
              rw [hu, hi]
              simp only
              rw [if_pos (by omega), ← hlen, List.take_length]
            obtain ⟨u, hru, hrun⟩ := part_load (P := C.P) hp h0
            have main : ∀ w', Fr F w' → (execOp a.eval o).run C.P w' = .ok (.value u) w' := fun w' hw' => by
              unfold execOp
              rw [ho]
              refine run_v ?_
              rw [hz]
              have := hrun w' b 0 (fun j hj => hw'.cell (hc0 j hj))
              simp [Instr.loadAt, Instr.sureAddr, this]
            exact ⟨u, .arr k xs u (by rw [hcs]; exact hru), fun t ht => by rw [ho] at ht; simp at ht, fun w' hw' => main w' fun b o hb => hw' _ _ (hg.rel.frz b o hb), fun _ => main⟩
      · cases h
    · cases h
  split at h
  · rename_i cs hcs
    split at h
    · rename_i v hv
      refine ⟨v, h, fun a w F φ hg => ?_⟩
      obtain ⟨b, off, hu, us, h1, h2⟩ := cellsAt_sound hE hg (ev_rep hg x) hcs
      obtain ⟨u, hr, hrun⟩ := part_load hv h2
      refine ⟨u, hr, fun t ht => by rw [ho] at ht; simp at ht, fun w' hw' => ?_, fun hol w' hw' => ?_⟩
      · unfold execOp
        rw [ho]
        refine run_v ?_
        rw [hu]
        have := hrun w' b off (fun j hj => h1 j hj w' hw')
        simp [Instr.loadAt, Instr.sureAddr, this]
      · unfold ownLoad at hol
        rw [ho] at hol
        simp only at hol
        have hrr := ev_rep hg x
        have key : ∃ us' : Nat → Value, (∀ j, j < cs.length → w'.cell? ⟨b, off + j, none⟩ = some (us' j)) ∧ ∀ j, j < cs.length → us' j = us j := by
          split at hol
          · rename_i cs' he
            rw [he] at hcs hrr
            obtain rfl := Option.some.inj (show some cs' = some cs from hcs)
            rw [hu] at hrr
            cases hrr with
            | rop _ _ _ us0 hc0 h0 =>
              refine ⟨us0, fun j hj => hw'.cell (hc0 j hj), fun j hj => ?_⟩
              have e1 := h1 j hj w (Sub.refl w)
              have e2 := Fr.cell (F := F) (w := w) hg.rel.frz (hc0 j hj)
              rw [e2] at e1
              exact Option.some.inj e1
          · rename_i k' xs' he
            rw [he] at hcs
            cases hcs
          · cases hol
        obtain ⟨us', k1, k2⟩ := key
        unfold execOp
        rw [ho]
        refine run_v ?_
        rw [hu]
        have := hrun w' b off (fun j hj => by rw [k1 j hj, k2 j hj])
        simp [Instr.loadAt, Instr.sureAddr, this]
    · cases h
  · cases h

theorem quiet_fieldAddr {β : Type} {t : TypeId} {x : Operand} {f : Nat} {K : AV κ → Option β} {r : β} (ho : o.op = .fieldAddr t x f) (h : quiet? C o s K = some r) : ∃ v, K v = some r ∧ QuietOk C o s v := by
  simp only [quiet?, ho] at h
  split at h
  · rename_i fs hfs
    split at h
    · rename_i fd hfd
      split at h
      · cases h
      · rename_i hsz
        have hi : ∃ i, C.P.info? fd.type = some i := by
          cases hi : C.P.info? fd.type with
          | none => simp [sizeOf?, hi] at hsz
          | some i => exact ⟨i, rfl⟩
        obtain ⟨i, hi⟩ := hi
        have hne : i.size ≠ 0 := by rw [info_size hi] at hsz; exact hsz
        have hrun : ∀ (a : Act) (b off : Nat) (w : World), a.eval x = .pointer (some ⟨b, off, none⟩) → (execOp a.eval o).run C.P w = .ok (.value (.pointer (some ⟨b, off + fd.offset, none⟩))) w := by
          intro a b off w e
          unfold execOp
          rw [ho]
          refine run_v ?_
          rw [e]
          simp [Instr.fieldAt, Instr.sureAddr, run_underlying hfs, hfd, fieldPlace, run_sizeOf' hi, hne, Addr.add_lit]
        split at h
        · rename_i cs he
          refine ⟨_, h, .pure fun a F φ w hg => ?_⟩
          have hr := ev_rep hg x
          rw [he] at hr
          generalize hz : a.eval x = z at hr
          cases hr with
          | rop _ b off us hc h' =>
            refine ⟨_, .rop _ b (off + fd.offset) (fun j => us (fd.offset + j)) (fun j hj => ?_) (fun j c hj => ?_), fun t ht => by rw [ho] at ht; simp at ht, fun w' => hrun a b off w' hz⟩
            · have := hc (fd.offset + j) (by simp at hj; omega)
              rw [← Nat.add_assoc] at this
              exact this
            · rw [List.getElem?_drop] at hj
              exact h' _ _ hj
        · rename_i j off he
          refine ⟨_, h, .pure fun a F φ w hg => ?_⟩
          have hr := ev_rep hg x
          rw [he] at hr
          generalize hz : a.eval x = z at hr
          cases hr with
          | ptr _ _ p g hp hpg => exact ⟨_, .ptr j _ p g hp hpg, fun t ht => by rw [ho] at ht; simp at ht, fun w' => hrun a _ _ w' hz⟩
        · rename_i k j row col he
          refine ⟨_, h, .pure fun a F φ w hg => ?_⟩
          have hr := ev_rep hg x
          rw [he] at hr
          generalize hz : a.eval x = z at hr
          cases hr with
          | ptrE _ _ _ _ p g hp hpg hrow =>
            refine ⟨_, .ptrE k j row _ p g hp hpg hrow, fun t ht => by rw [ho] at ht; simp at ht, fun w' => ?_⟩
            rw [hrun a _ _ w' hz, Nat.add_assoc]
        · cases h
    · cases h
  · cases h

theorem caseK_some {β : Type} {i : Int} {f : Nat → Option β} {r : β} : ∀ {m j : Nat}, caseK i f m j = some r → ∃ n, j ≤ n ∧ n < j + m ∧ i = (n : Int) ∧ f n = some r
  | 0, j, h => by cases h
  | m + 1, j, h => by
    unfold caseK at h
    split at h
    · rename_i hi; exact ⟨j, Nat.le_refl _, by omega, hi, h⟩
    · obtain ⟨n, h1, h2, h3, h4⟩ := caseK_some h
      exact ⟨n, by omega, by omega, h3, h4⟩
theorem info_pos {t : TypeId} (h : 0 < sizeOf? P t) : ∃ inf, P.info? t = some inf ∧ inf.size = sizeOf? P t := by
  unfold sizeOf? at h ⊢
  cases hi : P.info? t with
  | none => rw [hi] at h; simp at h
  | some i => exact ⟨i, rfl, rfl⟩
theorem flat_len {E : Encs κ} (hE : E.Ok) {k : κ.Kc} : ∀ {xs : List (κ.ty k)}, (xs.flatMap (E.enc k)).length = xs.length * κ.sz k
  | [] => by simp
  | x :: xs => by rw [List.flatMap_cons, List.length_append, hE.len, flat_len hE, List.length_cons, Nat.add_mul]; omega
theorem flat_drop {E : Encs κ} (hE : E.Ok) {k : κ.Kc} : ∀ {xs : List (κ.ty k)} {i : Nat} {x : κ.ty k}, xs[i]? = some x → ∃ rest, (xs.flatMap (E.enc k)).drop (i * κ.sz k) = E.enc k x ++ rest
  | [], i, x, h => by simp at h
  | y :: xs, 0, x, h => by simp at h; subst h; exact ⟨xs.flatMap (E.enc k), by simp⟩
  | y :: xs, i + 1, x, h => by
    obtain ⟨rest, hr⟩ := flat_drop hE (xs := xs) (i := i) (by simpa using h)
    refine ⟨rest, ?_⟩
    rw [List.flatMap_cons, Nat.add_mul, Nat.one_mul, Nat.add_comm, List.drop_append, List.drop_of_length_le (by rw [hE.len]; omega), hE.len, show κ.sz k + i * κ.sz k - κ.sz k = i * κ.sz k by omega, hr]
    rfl
theorem part_app {t : TypeId} {l r : List (AV κ)} (hl : l.length = sizeOf? P t) (h0 : 0 < sizeOf? P t) : part? P t (l ++ r) = part? P t l := by
  obtain ⟨inf, hi, hs⟩ := info_pos h0
  have hh : (l ++ r).head? = l.head? := by
    cases l with
    | nil => simp at hl; omega
    | cons c l => rfl
  unfold part?
  rw [hi]
  cases hu : P.underlying t with
  | none => rfl
  | some d =>
    cases d <;> first
      | exact hh
      | (simp only []
         rw [if_pos (by simp; omega), if_pos (by omega), List.take_append_of_le_length (by omega)])
theorem quiet_field {β : Type} {t : TypeId} {x : Operand} {f : Nat} {K : AV κ → Option β} {r : β} (ho : o.op = .field t x f) (h : quiet? C o s K = some r) : ∃ v, K v = some r ∧ QuietOk C o s v := by
  simp only [quiet?, ho] at h
  split at h
  · rename_i fs cs hfs he
    split at h
    · rename_i fd hfd
      split at h
      · rename_i v hv
        refine ⟨v, h, .pure fun a F φ w hg => ?_⟩
        have hr := ev_rep hg x
        rw [he] at hr
        generalize hz : a.eval x = z at hr
        cases hr with
        | agg _ us hl hp =>
          obtain ⟨u, h1, h2⟩ := part_agg hv hl hp
          refine ⟨u, h1, fun t ht => by rw [ho] at ht; simp at ht, fun w' => ?_⟩
          unfold execOp
          rw [ho]
          refine run_v ?_
          rw [hz]
          simp [Instr.field, run_underlying hfs, hfd, asAgg, h2]
      · cases h
    · cases h
  · cases h

theorem quiet_extract {β : Type} {x : Operand} {f : Nat} {K : AV κ → Option β} {r : β} (ho : o.op = .extract x f) (h : quiet? C o s K = some r) : ∃ v, K v = some r ∧ QuietOk C o s v := by
  simp only [quiet?, ho] at h
  split at h
  · rename_i cs he
    split at h
    · rename_i v hv
      refine ⟨v, h, .pure fun a F φ w hg => ?_⟩
      have hr := ev_rep hg x
      rw [he] at hr
      generalize hz : a.eval x = z at hr
      cases hr with
      | tup _ us hl hp =>
        have hlt : f < us.size := by rw [← hl]; exact (List.getElem?_eq_some_iff.1 hv).1
        refine ⟨us[f], hp f v _ hv (by simp [hlt]), fun t ht => by rw [ho] at ht; simp at ht, fun w' => ?_⟩
        unfold execOp
        rw [ho]
        refine run_v ?_
        rw [hz]
        simp [Instr.extract, hlt]
    · cases h
  · cases h

theorem quiet_index {β : Type} (hE : C.E.Ok) {t : TypeId} {x y : Operand} {K : AV κ → Option β} {r : β} (ho : o.op = .index t x y) (h : quiet? C o s K = some r) : ∃ v, K v = some r ∧ QuietOk C o s v := by
  simp only [quiet?, ho] at h
  split at h
  · rename_i d b k i hd hx hy
    split at h
    · rename_i hi
      refine ⟨_, h, .pure fun a F φ w hg => ⟨_, .val _, fun t ht => by rw [ho] at ht; simp at ht, fun w' => ?_⟩⟩
      have e1 := val_inv (hx ▸ ev_rep hg x)
      have e2 := val_inv (hy ▸ ev_rep hg y)
      unfold execOp
      rw [ho]
      refine run_v ?_
      rw [e1, e2]
      have hlt : i.toNat < b.size := by omega
      have hb : b[i.toNat]? = some (b[i.toNat]'hlt) := by rw [getElem?_pos]
      have hb2 : bt b i = ((b[i.toNat]'hlt).toNat : Int) := by
        unfold bt
        have : b.data.getD i.toNat 0 = b.data[i.toNat]'hlt := by simp [Array.getD, hlt]
        rw [this]
        rfl
      simp [Instr.index, asIntOf, run_underlying hd, hi.1, hb, hb2]
    · cases h
  · rename_i n e k xs ki i hu hx hy
    split at h
    · rename_i hc
      split at h
      · rename_i hi
        split at h
        · rename_i v hv
          refine ⟨v, h, .pure fun a F φ w hg => ?_⟩
          have hr := ev_rep hg x
          rw [hx] at hr
          have e2 := val_inv (hy ▸ ev_rep hg y)
          generalize hz : a.eval x = z at hr
          have hlt : i.toNat < xs.length := by omega
          have hget : xs[i.toNat]? = some (xs.getD i.toNat (C.E.dflt k)) := by rw [List.getD_eq_getElem?_getD, List.getElem?_eq_getElem hlt]; rfl
          have h0 : 0 < sizeOf? C.P e := by rw [hc.1]; exact hE.pos k
          obtain ⟨inf, hinf, hs⟩ := info_pos h0
          cases hr with
          | arr _ _ _ h' =>
            cases h' with
            | agg _ us hl hp =>
              obtain ⟨rest, hrest⟩ := flat_drop hE hget
              have hv' : part? C.P e ((xs.flatMap (C.E.enc k)).drop (i.toNat * inf.size)) = some v := by
                rw [hs, hc.1, hrest, part_app (by rw [hE.len, hc.1]) h0]; exact hv
              obtain ⟨u, h1, h2⟩ := part_agg hv' hl hp
              refine ⟨u, h1, fun t ht => by rw [ho] at ht; simp at ht, fun w' => ?_⟩
              unfold execOp
              rw [ho]
              refine run_v ?_
              rw [hz, e2]
              have hi2 : i < (n : Int) := hi.2
              simp [Instr.index, asIntOf, run_underlying hu, hi.1, hi2, run_sizeOf' hinf, h2]
        · cases h
      · cases h
    · cases h
  · rename_i n e cs ki i hu hx hy
    split at h
    · rename_i h0
      obtain ⟨inf, hinf, hs⟩ := info_pos h0
      obtain ⟨m, _, hm, rfl, hK⟩ := caseK_some h
      clear h
      split at hK
      · rename_i v hv
        refine ⟨v, hK, .pure fun a F φ w hg => ?_⟩
        have hr := ev_rep hg x
        rw [hx] at hr
        have e2 := val_inv (hy ▸ ev_rep hg y)
        generalize hz : a.eval x = z at hr
        cases hr with
        | agg _ us hl hp =>
          rw [← hs] at hv
          obtain ⟨u, h1, h2⟩ := part_agg hv hl hp
          refine ⟨u, h1, fun t ht => by rw [ho] at ht; simp at ht, fun w' => ?_⟩
          unfold execOp
          rw [ho]
          refine run_v ?_
          rw [hz, e2]
          have hm' : m < n := by omega
          simp [Instr.index, asIntOf, run_underlying hu, hm', run_sizeOf' hinf, h2]
      · cases hK
    · cases h
  · cases h
end Go.Am
