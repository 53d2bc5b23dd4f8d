/- Parts of this work, put into one text: Am9 Am10 Am10m Am11 Am11q Am12 Am13 Am14 -/
import Derived.Test.YtdgempbldhdihaaDoorVAmA
import Derived.StillTail
import Derived.LoopN
section
namespace Go.Am
open Go.RowKit
variable {κ : Kinds} {E : Encs κ} {F F' : Nat → Option Obj} {φ φ' : Nat → Option Pl} {P : Program} {C : Ctx κ} {a : Act} {w w' : World} {s s' : St κ} {o : Oper}

theorem at_place (hg : Good C.E C.glob a w s F φ) (pl : Pl) : ∀ j p, φ j = some p → at_ φ s.S.length (some pl) j = some p := fun j p h => by
  by_cases hj : j = s.S.length
  · subst hj; rw [hg.rel.out _ (Nat.le_refl _)] at h; cases h
  · rw [at_ne _ _ hj]; exact h

theorem rows_fresh (hg : Good C.E C.glob a w s F φ) {k : κ.Kc} {xs : List (κ.ty k)} {cur : Array Value} {cap : Nat} (hs : cur.size = cap * κ.sz k) (hlen : xs.length ≤ cap) (hcap : cap ≤ maxLen)
    (hr : ∀ (r : Nat) (x : κ.ty k) (j : Nat) (c : AV κ) (u : Value), xs[r]? = some x → (C.E.enc k x)[j]? = some c → cur[r * κ.sz k + j]? = some u → Rep C.E F φ c u) (hw : w.grownBy w' none) (hnew : w'.heap[w.heap.size]? = some (.cells cur (κ.elem k) (0, 0))) :
    Good C.E C.glob a w' (s.fresh (.rows k xs)) F (at_ φ s.S.length (some ⟨some w.heap.size, xs.length, cap⟩)) ∧ Rep C.E F (at_ φ s.S.length (some ⟨some w.heap.size, xs.length, cap⟩)) (.own k s.S.length) (.slice (some ⟨w.heap.size, 0, none⟩) xs.length cap) ∧
    Mv w F φ w' F (at_ φ s.S.length (some ⟨some w.heap.size, xs.length, cap⟩)) := by
  have hφ := at_place hg ⟨some w.heap.size, xs.length, cap⟩
  have := fresh_good hg ⟨some w.heap.size, xs.length, cap⟩ hw (fun g h => by simp at h; subst h; exact ⟨Nat.le_refl _, (Array.getElem?_eq_some_iff.1 hnew).1⟩) (b := .rows k xs)
    ⟨⟨some w.heap.size, xs.length, cap⟩, at_self _ _ _, rfl, .inr ⟨w.heap.size, cur, rfl, hnew, hs, hlen, hcap, fun r x j c u h1 h2 h3 => (hr r x j c u h1 h2 h3).place hφ⟩⟩
  exact ⟨this.1, .own k _ ⟨some w.heap.size, xs.length, cap⟩ _ (at_self _ _ _) rfl, this.2⟩

theorem nil_fresh (hg : Good C.E C.glob a w s F φ) (k : κ.Kc) :
    Good C.E C.glob a w (s.fresh (.rows k [])) F (at_ φ s.S.length (some ⟨none, 0, 0⟩)) ∧ Rep C.E F (at_ φ s.S.length (some ⟨none, 0, 0⟩)) (.own k s.S.length) (.slice none 0 0) ∧
    Mv w F φ w F (at_ φ s.S.length (some ⟨none, 0, 0⟩)) := by
  have := fresh_good hg ⟨none, 0, 0⟩ (w' := w) ⟨rfl, rfl, rfl, Nat.le_refl _, fun _ _ _ => rfl⟩ (fun g h => by simp at h) (b := .rows k [])
    ⟨⟨none, 0, 0⟩, at_self _ _ _, rfl, .inl ⟨rfl, rfl⟩⟩
  exact ⟨this.1, .ownNil k _ ⟨none, 0, 0⟩ (at_self _ _ _) rfl, this.2⟩

theorem flat_get {α β : Type} {f : α → List β} {n : Nat} : ∀ (l : List α), (∀ x ∈ l, (f x).length = n) → ∀ (r j : Nat), j < n → (l.flatMap f)[r * n + j]? = (l[r]?).bind fun x => (f x)[j]?
  | [], _, r, j, _ => by simp
  | x :: l, h, 0, j, hj => by
    rw [List.flatMap_cons, Nat.zero_mul, Nat.zero_add, List.getElem?_append_left (by rw [h x (by simp)]; exact hj)]
    simp
  | x :: l, h, r + 1, j, hj => by
    have hx := h x (by simp)
    rw [List.flatMap_cons, List.getElem?_append_right (by rw [hx, Nat.add_mul]; omega), hx, show (r + 1) * n + j - n = r * n + j by rw [Nat.add_mul]; omega, flat_get l (fun y hy => h y (by simp [hy])) r j hj]
    simp
theorem flat_length {α β : Type} {f : α → List β} {n : Nat} : ∀ (l : List α), (∀ x ∈ l, (f x).length = n) → (l.flatMap f).length = l.length * n
  | [], _ => by simp
  | x :: l, h => by
    rw [List.flatMap_cons, List.length_append, h x (by simp), flat_length l (fun y hy => h y (by simp [hy])), List.length_cons, Nat.add_mul]
    omega

theorem fill_seq {n : Nat} : ∀ (parts : List (Nat × Value)) (k : Nat) (A : Array Value), parts.map (·.1) = List.range' k parts.length → (∀ p ∈ parts, p.2.cells.size = n) → A.size = (k + parts.length) * n →
    ∃ A', Instr.fill (fun i => some (i * n, n)) A parts = some A' ∧ A'.toList = A.toList.take (k * n) ++ parts.flatMap fun p => p.2.cells.toList
  | [], k, A, _, _, hA => ⟨A, rfl, by simp at hA ⊢; rw [List.take_of_length_le (by simp; omega)]⟩
  | (i, u) :: parts, k, A, hm, hn, hA => by
    simp only [List.map_cons, List.length_cons, List.range'_succ, List.cons.injEq] at hm
    obtain ⟨rfl, hm⟩ := hm
    have hu := hn _ (List.mem_cons_self)
    simp only at hu
    simp only [List.length_cons] at hA
    have hmul : (i + (parts.length + 1)) * n = i * n + n + parts.length * n := by rw [Nat.add_mul, Nat.add_mul]; omega
    have e : (u.cells.zipIdx.foldl (fun cs x => cs.setIfInBounds (i * n + x.2) x.1) A).toList = A.toList.take (i * n) ++ u.cells.toList ++ A.toList.drop (i * n + n) := by
      rw [← Array.foldl_toList, Array.toList_zipIdx, foldl_upd, upd_eq _ _ _ (by simp; omega)]
      simp [hu]
    obtain ⟨A', h1, h2⟩ := fill_seq parts (i + 1) (u.cells.zipIdx.foldl (fun cs x => cs.setIfInBounds (i * n + x.2) x.1) A) hm (fun p hp => hn p (List.mem_cons_of_mem _ hp)) (by
      have := congrArg List.length e
      rw [Array.length_toList] at this
      rw [this]
      simp only [List.length_append, List.length_take, List.length_drop, Array.length_toList, hu]
      have h3 : (i + 1 + parts.length) * n = i * n + n + parts.length * n := by rw [Nat.add_mul, Nat.add_mul]; omega
      omega)
    refine ⟨A', ?_, ?_⟩
    · simp only [Instr.fill]
      rw [if_neg (by simp [hu]; omega)]
      exact h1
    · rw [h2, e, show (i + 1) * n = i * n + n by rw [Nat.add_mul]; omega]
      rw [List.take_append_of_le_length (by simp; omega), List.take_of_length_le (by simp; omega)]
      simp

theorem decL_spec {k : κ.Kc} : ∀ {rows : List (List (AV κ))} {xs : List (κ.ty k)}, decL E k rows = some xs → xs.length = rows.length ∧ ∀ (r : Nat) (x : κ.ty k), xs[r]? = some x → ∃ cs, rows[r]? = some cs ∧ E.dec k cs = some x
  | [], xs, h => by simp only [decL, Option.some.injEq] at h; subst h; exact ⟨rfl, fun r x hx => by simp at hx⟩
  | cs :: rows, xs, h => by
    simp only [decL] at h
    split at h
    · rename_i x xs' hx hxs
      simp only [Option.some.injEq] at h
      subst h
      obtain ⟨h1, h2⟩ := decL_spec hxs
      refine ⟨by simp [h1], fun r y hy => ?_⟩
      cases r with
      | zero => simp at hy; subst hy; exact ⟨cs, rfl, hx⟩
      | succ r => simp at hy; simpa using h2 r y hy
    · cases h

theorem loud_buildSlice {β : Type} (hE : C.E.Ok) (hfit : ∀ k : κ.Kc, Fit C.P k) {kindOf : TypeId → Option κ.Kc} {t : TypeId} {n : Nat} {parts : Array (Nat × Operand)} {K : AV κ → St κ → Option β} {r : β} (ho : o.op = .buildSlice t n parts) (h : loud? C kindOf o s K = some r) :
    ∃ v s', K v s' = some r ∧ LoudOk C o s v s' := by
  simp only [loud?, ho] at h
  split at h
  · rename_i e hu
    split at h
    · rename_i k hk
      split at h
      · rename_i hc
        obtain ⟨hel, hn0, hidx, hsmall, hone⟩ := hc
        split at h
        · rename_i xs hxs
          refine ⟨_, _, h, fun a w F φ hg next Q hn => ?_⟩
          obtain ⟨inf, z, hi, hsz, hby, hz, hzs, hp1, hp2⟩ := hfit k
          rw [hel] at hi
          obtain ⟨hxl, hxs'⟩ := decL_spec hxs
          have hpl : parts.size = n := by have := congrArg List.length hidx; simpa using this
          -- the parts as values
          let vp : List (Nat × Value) := parts.toList.map fun p => (p.1, a.eval p.2)
          have hcell : ∀ p ∈ parts.toList, Reps C.E F φ (ev C s p.2).cells (a.eval p.2).cells.toList := fun p hp => (cells_rep (ev_rep hg p.2) (List.all_eq_true.1 hone p hp)).1
          have hlen : ∀ p ∈ parts.toList, (a.eval p.2).cells.size = κ.sz k := fun p hp => by
            obtain ⟨j, hj⟩ := List.getElem?_of_mem hp
            have hjl : j < xs.length := by rw [hxl]; simp; simpa using (List.getElem?_eq_some_iff.1 hj).1
            obtain ⟨cs, h1, h2⟩ := hxs' j _ (List.getElem?_eq_getElem hjl)
            rw [List.getElem?_map, hj] at h1
            simp at h1
            rw [← cells_pos (hcell p hp), h1, ← hE.put _ _ _ h2, hE.len]
          have hzl : ((Array.range (n * inf.size)).map (z.cells[· % z.cells.size]!)).size = (0 + vp.length) * κ.sz k := by simp [vp, hsz, hpl]
          obtain ⟨A', hf, hA'⟩ := fill_seq (n := κ.sz k) vp 0 _ (by simp only [vp, List.map_map, Function.comp_def, hidx, List.length_map, Array.length_toList, hpl]; exact List.range_eq_range') (fun p hp => by
            obtain ⟨q, hq, rfl⟩ := List.mem_map.1 hp
            exact hlen q hq) hzl
          simp only [Nat.zero_mul, List.take_zero, List.nil_append] at hA'
          have hAs : A'.size = n * κ.sz k := by
            have := congrArg List.length hA'
            rw [flat_length (n := κ.sz k) _ (fun p hp => by obtain ⟨q, hq, rfl⟩ := List.mem_map.1 hp; simpa using hlen q hq)] at this
            simpa [vp, hpl] using this
          have hxn : xs.length = n := by rw [hxl]; simp [hpl]
          have hmx : n ≤ maxLen := by
            have := Nat.le_mul_of_pos_right n hp1
            unfold maxLen
            omega
          obtain ⟨h1, h2, h3⟩ := rows_fresh hg (k := k) (xs := xs) (cur := A') (cap := n) hAs (by omega) hmx (fun r x j c u hx hc hu' => by
            have hj : j < κ.sz k := by rw [← hE.len k x]; exact (List.getElem?_eq_some_iff.1 hc).1
            obtain ⟨cs, h4, h5⟩ := hxs' r x hx
            rw [← Array.getElem?_toList, hA', flat_get (n := κ.sz k) _ (fun p hp => by obtain ⟨q, hq, rfl⟩ := List.mem_map.1 hp; simpa using hlen q hq) r j hj] at hu'
            simp only [vp, List.getElem?_map] at hu' h4
            cases hq : parts.toList[r]? with
            | none => rw [hq] at h4; simp at h4
            | some q =>
              rw [hq] at hu' h4
              simp at hu' h4
              have hmem := List.mem_of_getElem? hq
              rw [hE.put _ _ _ h5, ← h4] at hc
              exact (hcell q hmem).2 j c u hc (by simpa using hu')) (grown_alloc w (.cells A' e)) (by rw [heap_alloc_new, hel])
          rw [hxn] at h1 h2 h3
          refine wp_value (u := .slice (some ⟨w.heap.size, 0, none⟩) n n) (w' := w.alloc (.cells A' e)) ?_ (hn _ _ _ _ h1 h2 h3)
          unfold execOp
          rw [ho]
          refine run_v ?_
          refine run_buildSlice w t e n _ A' inf z hu hi hz (by rw [hsz]; omega) (by rw [hsz]; have := Nat.mul_pos hn0 hp1; omega) ?_
          rw [hsz] at *
          have : (parts.map fun (i, x) => (i, a.eval x)).toList = vp := by simp [vp]
          rw [this]
          exact hf
        · cases h
      · cases h
    · cases h
  · cases h

theorem loud_makeSlice {β : Type} (hE : C.E.Ok) (hfit : ∀ k : κ.Kc, Fit C.P k) {kindOf : TypeId → Option κ.Kc} {t : TypeId} {x y : Operand} {K : AV κ → St κ → Option β} {r : β} (ho : o.op = .makeSlice t x y) (h : loud? C kindOf o s K = some r) :
    ∃ v s', K v s' = some r ∧ LoudOk C o s v s' := by
  simp only [loud?, ho] at h
  split at h
  · rename_i d e kl l kc c hu hx hy
    split at h
    · rename_i k hk
      split at h
      · rename_i hel
        split at h
        · rename_i zv hzv
          split at h
          · rename_i hc
            refine ⟨_, _, h, fun a w F φ hg next Q hn => ?_⟩
            obtain ⟨inf, z, hi, hsz, hby, hz, hzs, hp1, hp2⟩ := hfit k
            rw [hel] at hi
            have e1 := val_inv (hx ▸ ev_rep hg x)
            have e2 := val_inv (hy ▸ ev_rep hg y)
            have hzc : zeroCells? C.P e = some (z.cells.toList.map (AV.val (κ := κ))) := by simp [zeroCells?, hi, hz]
            rw [hzc] at hzv
            have henc := hE.put k _ zv hzv
            have hcb : c.toNat * κ.bytes k ≤ capBytes := by
              have h1 := hc.2.2
              have : ((c.toNat * κ.bytes k : Nat) : Int) ≤ (capBytes : Int) := by
                rw [Int.natCast_mul, Int.toNat_of_nonneg (by omega)]; exact h1
              omega
            have hcle : c.toNat ≤ capBytes := Nat.le_trans (Nat.le_mul_of_pos_right _ hp2) hcb
            have hrun := run_make (P := C.P) w t e inf z hu hi hz kl kc l c hc.1 hc.2.1 (by
              rw [hby, Int.mul_comm]
              have := hc.2.2
              unfold capBytes at this
              omega) (by unfold capBytes at hcle; omega)
            rw [hsz] at hrun
            obtain ⟨h1, h2, h3⟩ := rows_fresh hg (k := k) (xs := List.replicate l.toNat zv) (cur := madeCells z.cells (c.toNat * κ.sz k)) (cap := c.toNat) (size_madeCells _ _) (by simp; omega) (by unfold capBytes at hcle; unfold maxLen; omega) (fun r q j cc u hq hcc hu' => by
              have hq' : q = zv := List.eq_of_mem_replicate (List.mem_of_getElem? hq)
              subst hq'
              have hj : j < κ.sz k := by rw [← hE.len k q]; exact (List.getElem?_eq_some_iff.1 hcc).1
              rw [henc, List.getElem?_map] at hcc
              have hjz : j < z.cells.size := by omega
              rw [List.getElem?_eq_getElem (by simpa using hjz)] at hcc
              simp at hcc
              subst hcc
              have hlt := (Array.getElem?_eq_some_iff.1 hu').1
              rw [size_madeCells] at hlt
              unfold madeCells at hu'
              rw [Array.getElem?_map, Array.getElem?_range] at hu'
              rw [if_pos hlt] at hu'
              simp only [Option.map_some, Option.some.injEq] at hu'
              rw [hzs, Nat.mul_comm, Nat.mul_add_mod, Nat.mod_eq_of_lt hj] at hu'
              have : z.cells[j]! = z.cells[j] := by simp [hjz]
              rw [← hu', this]
              exact .val _) (grown_alloc w (.cells (madeCells z.cells (c.toNat * κ.sz k)) e)) (by rw [heap_alloc_new, hel])
            simp only [List.length_replicate] at h1 h2 h3
            refine wp_value (u := .slice (some ⟨w.heap.size, 0, none⟩) l.toNat c.toNat) (w' := w.alloc (.cells (madeCells z.cells (c.toNat * κ.sz k)) e)) ?_ (hn _ _ _ _ h1 h2 h3)
            unfold execOp
            rw [ho]
            refine run_v ?_
            rw [e1, e2]
            exact hrun
          · cases h
        · cases h
      · cases h
    · cases h
  · cases h

theorem nilOwn_sound {kindOf : TypeId → Option κ.Kc} : ∀ (cs : List (AV κ)) (ts : List TypeId) (us : List Value) {s : St κ} {φ : Nat → Option Pl}, Good C.E C.glob a w s F φ → Reps C.E F φ cs us →
    ∃ φ', Good C.E C.glob a w (nilOwn P kindOf cs ts s).2 F φ' ∧ Reps C.E F φ' (nilOwn P kindOf cs ts s).1 us ∧ Mv w F φ w F φ' ∧ ∀ j p, φ j = some p → φ' j = some p
  | [], ts, us, s, φ, hg, hr => by
    have e : nilOwn P kindOf ([] : List (AV κ)) ts s = ([], s) := by cases ts <;> rfl
    rw [e]; exact ⟨φ, hg, hr, Mv.refl _ _ _, fun _ _ h => h⟩
  | c :: cs, [], us, s, φ, hg, hr => by
    have e : nilOwn P kindOf (c :: cs) [] s = (c :: cs, s) := by cases c <;> first | rfl | (rename_i v; cases v <;> first | rfl | (rename_i a l c; cases a <;> cases l <;> cases c <;> rfl))
    rw [e]; exact ⟨φ, hg, hr, Mv.refl _ _ _, fun _ _ h => h⟩
  | c :: cs, t :: ts, us, s, φ, hg, hr => by
    cases us with
    | nil => have := hr.1; simp at this
    | cons u us =>
      have hc : Rep C.E F φ c u := hr.2 0 c u rfl rfl
      have hcs : Reps C.E F φ cs us := ⟨by simpa using hr.1, fun j c u hc hu => hr.2 (j + 1) c u (by simpa using hc) (by simpa using hu)⟩
      have cons : ∀ {φ' : Nat → Option Pl} {c' : AV κ} {cs' : List (AV κ)}, Rep C.E F φ' c' u → Reps C.E F φ' cs' us → Reps C.E F φ' (c' :: cs') (u :: us) := fun {φ' c' cs'} h k => by
        refine ⟨by simp [k.1], fun j x y hx hy => ?_⟩
        cases j with
        | zero => simp at hx hy; subst hx; subst hy; exact h
        | succ j => simp at hx hy; exact k.2 j x y hx hy
      have plain : ∃ φ', Good C.E C.glob a w (nilOwn P kindOf cs ts s).2 F φ' ∧ Reps C.E F φ' (c :: (nilOwn P kindOf cs ts s).1) (u :: us) ∧ Mv w F φ w F φ' ∧ ∀ j p, φ j = some p → φ' j = some p := by
        obtain ⟨φ', h1, h2, h3, h4⟩ := nilOwn_sound cs ts us hg hcs
        exact ⟨φ', h1, cons (hc.place h4) h2, h3, h4⟩
      unfold nilOwn
      split
      · rename_i cs0 t0 ts0 s0 heq1 heq2
        simp only [List.cons.injEq] at heq1 heq2
        obtain ⟨rfl, rfl⟩ := heq1
        obtain ⟨rfl, rfl⟩ := heq2
        split
        · split
          · rename_i k hk
            have hu : u = .slice none 0 0 := val_inv hc
            subst hu
            obtain ⟨n1, n2, n3⟩ := nil_fresh hg k
            have hpl := at_place hg ⟨none, 0, 0⟩
            obtain ⟨φ', h1, h2, h3, h4⟩ := nilOwn_sound cs ts us n1 ⟨hcs.1, fun j c u hc hu => (hcs.2 j c u hc hu).place hpl⟩
            exact ⟨φ', h1, cons (n2.place h4) h2, n3.trans h3, fun j p h => h4 j p (hpl j p h)⟩
          · exact plain
        · exact plain
      · rename_i heq1 heq2
        simp only [List.cons.injEq] at heq1 heq2
        obtain ⟨rfl, rfl⟩ := heq1
        obtain ⟨rfl, rfl⟩ := heq2
        exact plain
      · rename_i h1 h2
        exact absurd rfl (h2 _ _ _ _ rfl)

theorem loud_alloc {β : Type} {kindOf : TypeId → Option κ.Kc} {t : TypeId} {K : AV κ → St κ → Option β} {r : β} (ho : o.op = .alloc t) (h : loud? C kindOf o s K = some r) : ∃ v s', K v s' = some r ∧ LoudOk C o s v s' := by
  simp only [loud?, ho] at h
  split at h
  · rename_i z hz
    refine ⟨_, _, h, fun a w F φ hg next Q hn => ?_⟩
    unfold zeroCells? at hz
    split at hz
    · rename_i zv hzv
      simp only [Option.some.injEq] at hz
      subst hz
      obtain ⟨i, hi, hiz⟩ := Option.bind_eq_some_iff.1 hzv
      obtain ⟨φ1, k1, k2, k3, _⟩ := nilOwn_sound (P := C.P) (kindOf := kindOf) (zv.cells.toList.map AV.val) (cellTypes C.P 8 t) zv.cells.toList hg (Reps.vals _)
      obtain ⟨h1, h2, h3⟩ := raw_fresh k1 (t := t) (us := zv.cells) k2
      refine wp_value (u := .pointer (some ⟨w.heap.size, 0, none⟩)) (w' := w.alloc (.cells zv.cells t)) ?_ (hn _ _ _ _ h1 h2 (k3.trans h3))
      unfold execOp
      rw [ho]
      refine run_v ?_
      simp [Instr.alloc, zeroValue, typeInfo, hi, hiz, newVar, newRow]
    · cases hz
  · cases h

theorem loud_nil {β : Type} {kindOf : TypeId → Option κ.Kc} {K : AV κ → St κ → Option β} {r : β} (ho : o.op = .assign (.const (.slice none 0 0))) (h : loud? C kindOf o s K = some r) : ∃ v s', K v s' = some r ∧ LoudOk C o s v s' := by
  simp only [loud?, ho] at h
  split at h
  · rename_i v s' he
    refine ⟨v, s', h, fun a w F φ hg next Q hn => ?_⟩
    obtain ⟨φ1, k1, k2, k3, _⟩ := nilOwn_sound (P := C.P) (kindOf := kindOf) [AV.val (.slice none 0 0)] [o.type] [.slice none 0 0] hg (Reps.vals [_])
    rw [he] at k1 k2
    refine wp_value (u := .slice none 0 0) (w' := w) ?_ (hn _ _ _ _ k1 (k2.2 0 v _ rfl rfl) k3)
    unfold execOp
    rw [ho]
    rfl
  · cases h
/-- nil where a slice stands in memory of its own: it becomes a slice of its own that is empty. -/
theorem loud_store {β : Type} (hE : C.E.Ok) {kindOf : TypeId → Option κ.Kc} {t : TypeId} {p x : Operand} {K : AV κ → St κ → Option β} {r : β} (ho : o.op = .store t p x) (h : loud? C kindOf o s K = some r) : ∃ v s', K v s' = some r ∧ LoudOk C o s v s' := by
  have nilC : ∀ (x : Operand), o.op = .store t p x → x = .const (.slice none 0 0) → (match ev C s p with
    | .ptr i off => match s.S[i]?, C.P.underlying t with
      | some (.raw u old), some (.slice e) => match kindOf e with
        | some k => if sizeOf? C.P t = 1 ∧ off + 1 ≤ old.length then K .bot ((s.fresh (.rows k [])).setB i (.raw u (upd old off [.own k s.S.length]))) else none
        | none => storeG C t p (.const (.slice none 0 0)) s K
      | _, _ => none
    | _ => storeG C t p (.const (.slice none 0 0)) s K) = some r → ∃ v s', K v s' = some r ∧ LoudOk C o s v s' := by
    intro x ho hx h
    subst hx
    split at h
    · rename_i i off hp
      split at h
      · rename_i u old e hS hu
        split at h
        · rename_i k hk
          split at h
          · rename_i hc
            refine ⟨_, _, h, fun a w F φ hg next Q hn => ?_⟩
            obtain ⟨h1, h2, h3⟩ := nil_fresh hg k
            have hlt : i < s.S.length := (List.getElem?_eq_some_iff.1 hS).1
            have hS' : (s.fresh (.rows k [])).S[i]? = some (.raw u old) := by
              simp only [St.fresh]
              rw [List.getElem?_append_left hlt]; exact hS
            have hpr := (ev_rep hg p).place (φ' := at_ φ s.S.length (some ⟨none, 0, 0⟩)) (at_place hg _)
            rw [hp] at hpr
            generalize hz : a.eval p = z at hpr
            cases hpr with
            | ptr _ _ q g hq hqg =>
              obtain ⟨q', g', cur, k2, k3, k4, k5, k6⟩ := h1.rel.blk i _ hS'
              obtain rfl := Option.some.inj (hq.symm.trans k2)
              obtain rfl := Option.some.inj (hqg.symm.trans k3)
              have hcells : (Value.slice none 0 0).cells = #[.slice none 0 0] := rfl
              have hrun := run_storeAt (P := C.P) (t := t) (off := off) (u := .slice none 0 0) k4 (by rw [hcells]; exact hc.1.symm) (by rw [hcells]; decide) (by rw [hcells, k5]; exact hc.2) (fun x hx => by rw [hcells] at hx; simp at hx; subst hx; rfl)
              rw [hcells] at hrun
              have hreps : Reps C.E F (at_ φ s.S.length (some ⟨none, 0, 0⟩)) old cur.toList := ⟨by simpa using k5.symm, fun j c u hc hu => k6 j c u hc (by simpa using hu)⟩
              have hone : Reps C.E F (at_ φ s.S.length (some ⟨none, 0, 0⟩)) [.own k s.S.length] [.slice none 0 0] := ⟨rfl, fun j c u hc hu => by
                match j, hc, hu with
                | 0, hc, hu => simp at hc hu; subst hc; subst hu; exact h2
                | j + 1, hc, hu => simp at hc⟩
              have hnew := hreps.upd hone (off := off) hc.2
              obtain ⟨h7, h8⟩ := set_good h1 hS' hq hqg (cs := (upd cur.toList off [Value.slice none 0 0]).toArray) (b' := .raw u (upd old off [.own k s.S.length]))
                ⟨q, g, _, hq, hqg, setRow_heap w g cur _ u _ k4, by simpa using hnew.1.symm, fun j c u hc hu => hnew.2 j c u hc (by simpa using hu)⟩
              refine wp_skip' (w' := w.setRow g (upd cur.toList off [Value.slice none 0 0]).toArray) ?_ (hn _ _ _ _ h7 (.bot _) (h3.trans h8))
              unfold execOp
              rw [ho]
              have he : a.eval (.const (.slice none 0 0)) = .slice none 0 0 := rfl
              simp [hz, he, hrun]
          · cases h
        · exact storeG_sound hE ho h
      · cases h
    · exact storeG_sound hE ho h
  by_cases hx : x = .const (.slice none 0 0)
  · subst hx
    simp only [loud?, ho] at h
    exact nilC _ ho rfl h
  · have h' : storeG C t p x s K = some r := by
      simp only [loud?, ho] at h
      exact h
    exact storeG_sound hE ho h'
end Go.Am
end

section
namespace Go.Am
open Go.RowKit
variable {κ : Kinds} {E : Encs κ} {F F' : Nat → Option Obj} {φ φ' : Nat → Option Pl} {P : Program} {C : Ctx κ} {a : Act} {w w' : World} {s s' : St κ} {o : Oper}

/-- Rows told: the cells of each element stand for it. -/
def RowsAt (E : Encs κ) (F : Nat → Option Obj) (φ : Nat → Option Pl) (k : κ.Kc) (xs : List (κ.ty k)) (us : List Value) : Prop :=
  ∀ (r : Nat) (x : κ.ty k) (j : Nat) (c : AV κ) (u : Value), xs[r]? = some x → (E.enc k x)[j]? = some c → us[r * κ.sz k + j]? = some u → Rep E F φ c u

theorem RowsAt.append (hE : E.Ok) {k : κ.Kc} {xs ys : List (κ.ty k)} {A B D : List Value} (hA : A.length = xs.length * κ.sz k) (hB : B.length = ys.length * κ.sz k) (ha : RowsAt E F φ k xs A) (hb : RowsAt E F φ k ys B) : RowsAt E F φ k (xs ++ ys) (A ++ B ++ D) := by
  intro r x j c u hx hc hu
  have hj : j < κ.sz k := by rw [← hE.len k x]; exact (List.getElem?_eq_some_iff.1 hc).1
  by_cases hr : r < xs.length
  · rw [List.getElem?_append_left hr] at hx
    have h1 : (r + 1) * κ.sz k ≤ xs.length * κ.sz k := Nat.mul_le_mul_right _ hr
    rw [Nat.add_mul, Nat.one_mul] at h1
    rw [List.append_assoc, List.getElem?_append_left (by omega)] at hu
    exact ha r x j c u hx hc hu
  · rw [List.getElem?_append_right (by omega)] at hx
    have hr2 : r - xs.length < ys.length := (List.getElem?_eq_some_iff.1 hx).1
    have h1 : (r - xs.length + 1) * κ.sz k ≤ ys.length * κ.sz k := Nat.mul_le_mul_right _ hr2
    have h2 : r * κ.sz k = xs.length * κ.sz k + (r - xs.length) * κ.sz k := by rw [← Nat.add_mul]; congr 1; omega
    rw [Nat.add_mul, Nat.one_mul] at h1
    rw [List.append_assoc, List.getElem?_append_right (by omega), List.getElem?_append_left (by omega), show r * κ.sz k + j - A.length = (r - xs.length) * κ.sz k + j by omega] at hu
    exact hb _ x j c u hx hc hu
theorem RowsAt.any (hE : E.Ok) {k : κ.Kc} {xs : List (κ.ty k)} {us : List Value} (h : RowsAt E F φ k xs us) : RowsAt E F φ' k xs us := fun r x j c u hx hc hu =>
  ((h r x j c u hx hc hu).flat hE (hE.flat k x c (List.mem_of_getElem? hc))).1
theorem RowsAt.take {k : κ.Kc} {xs : List (κ.ty k)} {us : List Value} (h : RowsAt E F φ k xs us) : RowsAt E F φ k xs (us.take (xs.length * κ.sz k)) := fun r x j c u hx hc hu => by
  rw [List.getElem?_take] at hu
  split at hu
  · exact h r x j c u hx hc hu
  · cases hu
theorem RowsAt.one (hE : E.Ok) {k : κ.Kc} {xs : List (κ.ty k)} {us : List Value} (h : RowsAt E F φ k xs us) (hl : us.length = xs.length * κ.sz k) : ∀ u ∈ us, u.oneCell' = true := by
  intro u hu
  obtain ⟨i, hi⟩ := List.getElem?_of_mem hu
  have hlt : i < xs.length * κ.sz k := by rw [← hl]; exact (List.getElem?_eq_some_iff.1 hi).1
  have hp := hE.pos k
  have hr : i / κ.sz k < xs.length := Nat.div_lt_of_lt_mul (by rw [Nat.mul_comm]; exact hlt)
  have hm := Nat.mod_lt i hp
  have hj : i % κ.sz k < (E.enc k xs[i / κ.sz k]).length := by rw [hE.len]; exact hm
  have he : i / κ.sz k * κ.sz k + i % κ.sz k = i := by rw [Nat.mul_comm]; exact Nat.div_add_mod i _
  have := h (i / κ.sz k) _ (i % κ.sz k) _ u (List.getElem?_eq_getElem hr) (List.getElem?_eq_getElem hj) (by rw [he]; exact hi)
  exact (this.flat (φ' := φ) hE (hE.flat k _ _ (List.getElem_mem hj))).2

theorem rows_turn (hE : C.E.Ok) (hg : Good C.E C.glob a w s F φ) {i : Nat} {b : Blk κ} (hS : s.S[i]? = some b) {k : κ.Kc} {zs : List (κ.ty k)} {cur : Array Value} {cap g : Nat} {row : Option Nat} (hs : cur.size = cap * κ.sz k) (hlen : zs.length ≤ cap) (hcap : cap ≤ maxLen)
    (hr : RowsAt C.E F φ k zs cur.toList) (hw : w.grownBy w' row) (hrow : ∀ k, row = some k → ∃ q, φ i = some q ∧ q.g = some k) (hnew : w'.heap[g]? = some (.cells cur (κ.elem k) (0, 0))) (hgg : (∃ q, φ i = some q ∧ q.g = some g) ∨ w.heap.size ≤ g) :
    Good C.E C.glob a w' (s.turn i (.rows k zs)) F (at_ φ i (some ⟨some g, zs.length, cap⟩)) ∧ Rep C.E F (at_ φ i (some ⟨some g, zs.length, cap⟩)) (.own k i) (.slice (some ⟨g, 0, none⟩) zs.length cap) ∧
    Mv w F φ w' F (at_ φ i (some ⟨some g, zs.length, cap⟩)) := by
  have := turn_good hE hg hS hw hrow (some ⟨some g, zs.length, cap⟩) (b' := .rows k zs) (F' := F) (fun p g' h1 h2 => by
      simp at h1; subst h1; simp at h2; subst h2
      exact ⟨(Array.getElem?_eq_some_iff.1 hnew).1, hgg⟩) (Le.refl F) (fun x ob hx => by
      have h1 := hg.rel.frz x ob hx
      rw [hw.block x (Array.getElem?_eq_some_iff.1 h1).1 (fun e => by
        obtain ⟨q, h2, h3⟩ := hrow x e.symm
        rw [hg.rel.apart i q x h2 h3] at hx
        cases hx)]
      exact h1) (fun j p g' h1 h2 => by
      by_cases hj : j = i
      · subst hj
        rw [at_self] at h1
        simp at h1; subst h1; simp at h2; subst h2
        rcases hgg with ⟨q, h3, h4⟩ | h3
        · exact hg.rel.apart _ q _ h3 h4
        · cases hF : F g with
          | none => rfl
          | some ob =>
            have := (Array.getElem?_eq_some_iff.1 (hg.rel.frz g ob hF)).1
            omega
      · rw [at_ne _ _ hj] at h1
        exact hg.rel.apart j p g' h1 h2) (fun x ob h1 h2 => by rw [h2] at h1; cases h1)
    ⟨⟨some g, zs.length, cap⟩, at_self _ _ _, rfl, .inr ⟨g, cur, rfl, hnew, hs, hlen, hcap, fun r x j c u h1 h2 h3 => by
      have h4 := RowsAt.any (φ' := at_ φ i (some ⟨some g, zs.length, cap⟩)) hE hr
      exact h4 r x j c u h1 h2 (by simpa using h3)⟩⟩
  exact ⟨this.1, .own k i ⟨some g, zs.length, cap⟩ g (at_self _ _ _) rfl, this.2⟩

theorem nil_turn (hE : C.E.Ok) (hg : Good C.E C.glob a w s F φ) {i : Nat} {b : Blk κ} (hS : s.S[i]? = some b) (k : κ.Kc) :
    Good C.E C.glob a w (s.turn i (.rows k [])) F (at_ φ i (some ⟨none, 0, 0⟩)) ∧ Rep C.E F (at_ φ i (some ⟨none, 0, 0⟩)) (.own k i) (.slice none 0 0) ∧ Mv w F φ w F (at_ φ i (some ⟨none, 0, 0⟩)) := by
  have := turn_good hE hg hS (w' := w) (row := none) ⟨rfl, rfl, rfl, Nat.le_refl _, fun _ _ _ => rfl⟩ (fun k h => by cases h) (some ⟨none, 0, 0⟩) (b' := .rows k []) (F' := F) (fun p g' h1 h2 => by simp at h1; subst h1; simp at h2)
    (Le.refl F) hg.rel.frz (fun j p g' h1 h2 => by
      by_cases hj : j = i
      · subst hj
        rw [at_self] at h1
        simp at h1; subst h1; simp at h2
      · rw [at_ne _ _ hj] at h1
        exact hg.rel.apart j p g' h1 h2) (fun x ob h1 h2 => by rw [h2] at h1; cases h1)
    ⟨⟨none, 0, 0⟩, at_self _ _ _, rfl, .inl ⟨rfl, rfl⟩⟩
  exact ⟨this.1, .ownNil k i ⟨none, 0, 0⟩ (at_self _ _ _) rfl, this.2⟩

/-- A source of rows. -/
theorem rowsOf_sound (hE : C.E.Ok) (hg : Good C.E C.glob a w s F φ) {y : AV κ} {u : Value} (hy : Rep C.E F φ y u) {k : κ.Kc} {ys : List (κ.ty k)} (h : rowsOf s y = some ⟨k, ys⟩) :
    (ys = [] ∧ u = .slice none 0 0) ∨ ∃ (ad : Addr) (cap : Nat), u = .slice (some ad) ys.length cap ∧ ∃ us : List Value, us.length = ys.length * κ.sz k ∧ (∀ (j : Nat) (v : Value), us[j]? = some v → w.cell? (ad.add j) = some v) ∧ RowsAt C.E F φ k ys us := by
  have hp := hE.pos k
  cases y with
  | ro k' xs =>
    simp only [rowsOf, Option.some.injEq, Sigma.mk.injEq] at h
    obtain ⟨rfl, h⟩ := h
    obtain rfl := eq_of_heq h
    cases hy with
    | roNil _ => exact .inl ⟨rfl, rfl⟩
    | roEmp _ ad cap => exact .inr ⟨ad, cap, rfl, [], by simp, fun j v hj => by simp at hj, fun r x j c u hx => by simp at hx⟩
    | ro _ _ b off cap us hcap hc hr =>
      refine .inr ⟨⟨b, off, none⟩, cap, rfl, (List.range (xs.length * κ.sz k')).map fun i => us (i / κ.sz k') (i % κ.sz k'), by simp, fun j v hj => ?_, fun r x j c u hx hj hu => ?_⟩
      · rw [List.getElem?_map] at hj
        obtain ⟨i, hi, rfl⟩ := Option.map_eq_some_iff.1 hj
        have hlt : j < xs.length * κ.sz k' := by have := (List.getElem?_eq_some_iff.1 hi).1; simpa using this
        rw [List.getElem?_range hlt] at hi
        obtain rfl := Option.some.inj hi
        have h1 := hc (j / κ.sz k') (j % κ.sz k') (Nat.div_lt_of_lt_mul (by rw [Nat.mul_comm]; exact hlt)) (Nat.mod_lt _ hp)
        have he : j / κ.sz k' * κ.sz k' + j % κ.sz k' = j := by rw [Nat.mul_comm]; exact Nat.div_add_mod j _
        rw [he] at h1
        rw [Addr.add_lit]
        exact fcell_cell hg.rel.frz h1
      · have hlt : j < κ.sz k' := by rw [← hE.len k' x]; exact (List.getElem?_eq_some_iff.1 hj).1
        rw [List.getElem?_map] at hu
        obtain ⟨i, hi, rfl⟩ := Option.map_eq_some_iff.1 hu
        have hlt2 := (List.getElem?_eq_some_iff.1 hi).1
        simp only [List.length_range] at hlt2
        rw [List.getElem?_range hlt2] at hi
        obtain rfl := Option.some.inj hi
        rw [show (r * κ.sz k' + j) / κ.sz k' = r by rw [Nat.mul_comm, Nat.mul_add_div hp, Nat.div_eq_of_lt hlt, Nat.add_zero], show (r * κ.sz k' + j) % κ.sz k' = j by rw [Nat.mul_comm, Nat.mul_add_mod, Nat.mod_eq_of_lt hlt]]
        exact hr r x j c hx hj
  | own k' i =>
    simp only [rowsOf] at h
    split at h
    · rename_i k'' xs hS
      split at h
      · rename_i hk
        subst hk
        simp only [Option.some.injEq, Sigma.mk.injEq] at h
        obtain ⟨rfl, h⟩ := h
        obtain rfl := eq_of_heq h
        obtain ⟨p, h1, h2, hh⟩ := hg.rel.blk i _ hS
        rcases hh with ⟨hn, hx⟩ | ⟨g, cur, hpg, h4, h5, h6, h7, h8⟩
        · cases hy with
          | own _ _ p' g hp' hpg =>
            obtain rfl := Option.some.inj (h1.symm.trans hp')
            rw [hn] at hpg; cases hpg
          | ownNil _ _ _ _ _ => exact .inl ⟨hx, rfl⟩
        · cases hy with
          | ownNil _ _ p' hp' hpg' =>
            obtain rfl := Option.some.inj (h1.symm.trans hp')
            rw [hpg] at hpg'; cases hpg'
          | own _ _ p' g' hp' hpg' =>
            obtain rfl := Option.some.inj (h1.symm.trans hp')
            obtain rfl := Option.some.inj (hpg.symm.trans hpg')
            have hmul : xs.length * κ.sz k'' ≤ p.cap * κ.sz k'' := Nat.mul_le_mul_right _ h6
            refine .inr ⟨⟨g, 0, none⟩, p.cap, by rw [h2], cur.toList.take (xs.length * κ.sz k''), by simp; omega, fun j v hj => ?_, ?_⟩
            · rw [Addr.add_lit, cell_at h4]
              rw [List.getElem?_take] at hj
              split at hj
              · simpa using hj
              · cases hj
            · exact RowsAt.take fun r x j c u hx hc hu => h8 r x j c u hx hc (by simpa using hu)
      · cases h
    · cases h
  | _ => simp [rowsOf] at h

theorem run_append_srcNil {t e : TypeId} {base : Option Addr} {n cap : Nat} (hu : P.underlying t = some (.slice e)) {i : TypeInfo} (hi : P.info? e = some i) (hn : n ≤ cap) (ty : TypeId) (w : World) :
    (Builtin.append_ #[t, t] ty #[.slice base n cap, .slice none 0 0]).run P w = .ok (.slice base n cap) w := by
  cases base <;> simp [Builtin.append_, run_underlying hu, sizeOf, typeInfo, hi, Builtin.lenOf, hn, Builtin.firstCells, storeCells]
theorem run_append_nil0 {t e : TypeId} {b : Addr} {c : Nat} (hu : P.underlying t = some (.slice e)) {i : TypeInfo} (hi : P.info? e = some i) (ty : TypeId) (w : World) :
    (Builtin.append_ #[t, t] ty #[.slice none 0 0, .slice (some b) 0 c]).run P w = .ok (.slice none 0 0) w := by
  simp [Builtin.append_, run_underlying hu, sizeOf, typeInfo, hi, Builtin.lenOf, Builtin.firstCells, loadCells, loadCellsFrom]

theorem grown_drewAlloc (w : World) (ob : Obj) (row : Option Nat) : w.grownBy (w.drew.alloc ob) row := ⟨rfl, rfl, rfl, by show _ ≤ (w.heap.push _).size; simp, fun k hk _ => heap_alloc_old w.drew _ k hk⟩
theorem grown_setRow (w : World) (g : Nat) (cs : Array Value) : w.grownBy (w.setRow g cs) (some g) := ⟨rfl, rfl, rfl, by simp [World.setRow], fun k _ hk => setRow_other w g k _ (fun e => hk (by rw [e]))⟩

theorem grownCap_max (w : World) (need old : Nat) (e : TypeId) (h : need ≤ capBytes) : grownCap w need old e ≤ maxLen := grownCap_le_maxLen w need old e (by unfold capBytes at h; unfold maxLen; omega)

theorem run_append_op {x y : Operand} {t : TypeId} {u v r : Value} (ho : o.op = .call ⟨.builtin .append, #[x, y], #[t, t]⟩) (hx : a.eval x = u) (hy : a.eval y = v) (h : (Builtin.append_ #[t, t] o.type #[u, v]).run P w = .ok r w') : (execOp a.eval o).run P w = .ok (.value r) w' := by
  unfold execOp
  simp only [ho, resolve, invoke, builtin, Sem.run_bind, Sem.run_pure, Result.andThen_ok, List.map_toArray, List.map_cons, List.map_nil, hx, hy, h]

theorem loud_append {β : Type} (hE : C.E.Ok) (hfit : ∀ k : κ.Kc, Fit C.P k) {kindOf : TypeId → Option κ.Kc} {args : Array Operand} {ts : Array TypeId} {K : AV κ → St κ → Option β} {r : β} (ho : o.op = .call ⟨.builtin .append, args, ts⟩) (h : loud? C kindOf o s K = some r) :
    ∃ v s', K v s' = some r ∧ LoudOk C o s v s' := by
  simp only [loud?, ho] at h
  split at h
  · rename_i x y t t' hargs hts
    have ha : args = #[x, y] := by cases args; simp_all
    have ht' : ts = #[t, t'] := by cases ts; simp_all
    subst ha; subst ht'
    split at h
    · rename_i htt
      subst htt
      split at h
      · rename_i d e k ys hu hys
        split at h
        · rename_i hel
          obtain ⟨inf, z, hi, hsz, hby, hz, hzs, hp1, hp2⟩ := hfit k
          rw [hel] at hi
          split at h
          · -- onto nil
            rename_i hx
            rw [room_ite] at h
            split at h
            · rename_i hcb
              refine ⟨_, _, h, fun a w F φ hg next Q hn => ?_⟩
              have e1 := val_inv (hx ▸ ev_rep hg x)
              have hmx : ys.length ≤ capBytes := Nat.le_trans (Nat.le_mul_of_pos_right _ hp2) hcb
              obtain ⟨n1, n2, n3⟩ := nil_fresh hg k
              rcases rowsOf_sound hE hg (ev_rep hg y) hys with ⟨rfl, hyv⟩ | ⟨ad, cap, hyv, us, hl, hcell, hrows⟩
              · exact wp_value (run_append_op ho e1 hyv (run_append_srcNil hu hi (Nat.le_refl _) _ w)) (hn _ _ _ _ n1 n2 n3)
              · by_cases h0 : ys.length = 0
                · obtain rfl := List.eq_nil_of_length_eq_zero h0
                  exact wp_value (run_append_op ho e1 hyv (run_append_nil0 hu hi _ w)) (hn _ _ _ _ n1 n2 n3)
                · have hrun := run_append_nil (P := C.P) w t o.type e inf z hu hi hz ad ys.length cap us (by rw [hsz]; exact hl) hcell (by omega) (by unfold capBytes at hmx; omega) (by rw [hby]; unfold capBytes at hcb; omega)
                  have hge := grownCap_ge w ys.length 0 e
                  obtain ⟨h1, h2, h3⟩ := rows_fresh hg (w' := w.drew.alloc (.cells (us.toArray ++ Builtin.zeroCells z.cells (grownCap w ys.length 0 e - ys.length)) e)) (k := k) (xs := ys) (cur := us.toArray ++ Builtin.zeroCells z.cells (grownCap w ys.length 0 e - ys.length)) (cap := grownCap w ys.length 0 e)
                    (by simp only [Array.size_append, List.size_toArray, size_zeroCells, hl, hzs, ← Nat.add_mul]; congr 1; omega) hge (grownCap_max w _ _ e hmx)
                    (fun r x j c u hx hc hu' => by
                      have := RowsAt.append (D := (Builtin.zeroCells z.cells (grownCap w ys.length 0 e - ys.length)).toList) hE (xs := []) (A := []) (by simp) hl (fun r x j c u hx => by simp at hx) hrows
                      refine this r x j c u (by simpa using hx) hc ?_
                      rw [← Array.getElem?_toList] at hu'
                      simpa using hu')
                    (grown_drewAlloc w _ none) (by rw [hel]; exact heap_alloc_new w.drew _)
                  exact wp_value (run_append_op ho e1 hyv hrun) (hn _ _ _ _ h1 h2 h3)
            · cases h
          · -- onto a slice of the call's own
            rename_i k' i hx
            split at h
            · rename_i k'' xs hS
              split at h
              · rename_i hk
                subst hk
                split at h
                · rename_i hk
                  subst hk
                  rw [room_ite] at h
                  split at h
                  · rename_i hcb
                    refine ⟨_, _, h, fun a w F φ hg next Q hn => ?_⟩
                    simp only at hcb
                    have hmx : xs.length + ys.length ≤ capBytes := Nat.le_trans (Nat.le_mul_of_pos_right _ hp2) hcb
                    have hxr := ev_rep hg x
                    rw [hx] at hxr
                    obtain ⟨p, h1, h2, hh⟩ := own_inv hg hxr hS
                    rcases hh with ⟨hpg, rfl, hxv⟩ | ⟨g, hpg, hxv⟩
                    · -- a nil slice
                      have hnil : ys = [] → ∃ w', w' = w ∧ Good C.E C.glob a w' (s.turn i (.rows k' ([] ++ ys))) F (at_ φ i (some ⟨none, 0, 0⟩)) ∧ Rep C.E F (at_ φ i (some ⟨none, 0, 0⟩)) (.own k' i) (.slice none 0 0) ∧ Mv w F φ w F (at_ φ i (some ⟨none, 0, 0⟩)) := by
                        rintro rfl
                        exact ⟨w, rfl, nil_turn hE hg hS k'⟩
                      rcases rowsOf_sound hE hg (ev_rep hg y) hys with ⟨h0, hyv⟩ | ⟨ad, cap, hyv, us, hl, hcell, hrows⟩
                      · obtain ⟨w', rfl, n1, n2, n3⟩ := hnil h0
                        exact wp_value (run_append_op ho hxv hyv (run_append_srcNil hu hi (Nat.le_refl _) _ w')) (hn _ _ _ _ n1 n2 n3)
                      · by_cases h0 : ys.length = 0
                        · obtain ⟨w', rfl, n1, n2, n3⟩ := hnil (List.eq_nil_of_length_eq_zero h0)
                          rw [h0] at hyv
                          exact wp_value (run_append_op ho hxv hyv (run_append_nil0 hu hi _ w')) (hn _ _ _ _ n1 n2 n3)
                        · have hmx' : ys.length ≤ capBytes := by simpa using hmx
                          have hcb' : ys.length * κ.bytes k' ≤ capBytes := by simpa using hcb
                          have hrun := run_append_nil (P := C.P) w t o.type e inf z hu hi hz ad ys.length cap us (by rw [hsz]; exact hl) hcell (by omega) (by unfold capBytes at hmx'; omega) (by rw [hby]; unfold capBytes at hcb'; omega)
                          have hge := grownCap_ge w ys.length 0 e
                          obtain ⟨h3, h4, h5⟩ := rows_turn hE hg hS (w' := w.drew.alloc (.cells (us.toArray ++ Builtin.zeroCells z.cells (grownCap w ys.length 0 e - ys.length)) e)) (row := none) (g := w.heap.size) (k := k') (zs := [] ++ ys) (cur := us.toArray ++ Builtin.zeroCells z.cells (grownCap w ys.length 0 e - ys.length)) (cap := grownCap w ys.length 0 e)
                            (by simp only [Array.size_append, List.size_toArray, size_zeroCells, hl, hzs, ← Nat.add_mul]; congr 1; omega) (by simpa using hge) (grownCap_max w _ _ e hmx')
                            (by
                              have := RowsAt.append (D := (Builtin.zeroCells z.cells (grownCap w ys.length 0 e - ys.length)).toList) hE (xs := []) (A := []) (by simp) hl (fun r x j c u hx => by simp at hx) hrows
                              simpa using this)
                            (grown_drewAlloc w _ none) (fun k h => by cases h) (by rw [hel]; exact heap_alloc_new w.drew _) (.inr (Nat.le_refl _))
                          exact wp_value (run_append_op ho hxv hyv hrun) (hn _ _ _ _ h3 h4 h5)
                    · -- a slice over a block
                      obtain ⟨p', h3, h4, hh⟩ := hg.rel.blk i _ hS
                      obtain rfl := Option.some.inj (h1.symm.trans h3)
                      rcases hh with ⟨hn, _⟩ | ⟨g', cur, hpg', h5, h6, h7, h8, h9⟩
                      · rw [hpg] at hn; cases hn
                      obtain rfl := Option.some.inj (hpg.symm.trans hpg')
                      have hrowsx : RowsAt C.E F φ k' xs cur.toList := fun r x j c u hx hc hu => h9 r x j c u hx hc (by simpa using hu)
                      have hmul : xs.length * κ.sz k' ≤ p.cap * κ.sz k' := Nat.mul_le_mul_right _ h7
                      rcases rowsOf_sound hE hg (ev_rep hg y) hys with ⟨rfl, hyv⟩ | ⟨ad, cap, hyv, us, hl, hcell, hrows⟩
                      · have n1 := rows_turn hE hg hS (w' := w) (row := none) (k := k') (zs := xs ++ []) (cur := cur) (cap := p.cap) (g := g) h6 (by simpa using h7) h8 (by simpa using hrowsx) ⟨rfl, rfl, rfl, Nat.le_refl _, fun _ _ _ => rfl⟩ (fun k h => by cases h) h5 (.inl ⟨p, h1, hpg⟩)
                        simp only [List.append_nil] at n1
                        refine wp_value (run_append_op ho hxv hyv (run_append_srcNil hu hi h7 _ w)) (hn _ _ _ _ ?_ n1.2.1 n1.2.2)
                        simpa using n1.1
                      · by_cases hroom : xs.length + ys.length ≤ p.cap
                        · have hfit2 : xs.length * κ.sz k' + us.length ≤ cur.size := by rw [hl, h6, ← Nat.add_mul]; exact Nat.mul_le_mul_right _ hroom
                          have hrun := run_append_room (P := C.P) w t o.type e inf hu hi g xs.length p.cap cur (by rw [hel] at h5; exact h5) ad ys.length cap us (by rw [hsz]; exact hl) hcell (hrows.one hE hl) hroom (by rw [hsz]; exact hfit2)
                          rw [hsz] at hrun
                          have n1 := rows_turn hE hg hS (w' := w.setRow g (cur.toList.take (xs.length * κ.sz k') ++ us ++ cur.toList.drop (xs.length * κ.sz k' + us.length)).toArray) (row := some g) (k := k') (zs := xs ++ ys) (cur := (cur.toList.take (xs.length * κ.sz k') ++ us ++ cur.toList.drop (xs.length * κ.sz k' + us.length)).toArray) (cap := p.cap) (g := g)
                            (by simp only [List.size_toArray, List.length_append, List.length_take, List.length_drop, Array.length_toList]; omega) (by simpa using hroom) h8
                            (by simpa using RowsAt.append hE (A := cur.toList.take (xs.length * κ.sz k')) (D := cur.toList.drop (xs.length * κ.sz k' + us.length)) (by simp; omega) hl hrowsx.take hrows)
                            (grown_setRow w g _) (fun k h => by obtain rfl := Option.some.inj h; exact ⟨p, h1, hpg⟩) (setRow_heap w g cur _ _ _ h5) (.inl ⟨p, h1, hpg⟩)
                          simp only [List.length_append] at n1
                          exact wp_value (run_append_op ho hxv hyv hrun) (hn _ _ _ _ n1.1 n1.2.1 n1.2.2)
                        · have holds : ∀ (j : Nat) (v : Value), (cur.toList.take (xs.length * κ.sz k'))[j]? = some v → w.cell? ((⟨g, 0, none⟩ : Addr).add j) = some v := fun j v hj => by
                            rw [Addr.add_lit, cell_at h5]
                            rw [List.getElem?_take] at hj
                            split at hj
                            · simpa using hj
                            · cases hj
                          have hrun := run_append_grow (P := C.P) w t o.type e inf z hu hi hz ⟨g, 0, none⟩ xs.length p.cap (cur.toList.take (xs.length * κ.sz k')) (by rw [hsz]; simp; omega) holds ad ys.length cap us (by rw [hsz]; exact hl) hcell (by omega) (by unfold capBytes at hmx; omega) (growslice_fits (by omega) (by rw [hby]; unfold capBytes at hcb; exact hcb))
                          have hge := grownCap_ge w (xs.length + ys.length) p.cap e
                          have n1 := rows_turn hE hg hS (w' := w.drew.alloc (.cells ((cur.toList.take (xs.length * κ.sz k')).toArray ++ us.toArray ++ Builtin.zeroCells z.cells (grownCap w (xs.length + ys.length) p.cap e - (xs.length + ys.length))) e)) (row := none) (k := k') (zs := xs ++ ys)
                            (cur := (cur.toList.take (xs.length * κ.sz k')).toArray ++ us.toArray ++ Builtin.zeroCells z.cells (grownCap w (xs.length + ys.length) p.cap e - (xs.length + ys.length))) (cap := grownCap w (xs.length + ys.length) p.cap e) (g := w.heap.size)
                            (by
                              have e1 : (cur.toList.take (xs.length * κ.sz k')).length = xs.length * κ.sz k' := by simp; omega
                              simp only [Array.size_append, List.size_toArray, size_zeroCells, hl, hzs, e1, ← Nat.add_mul]; congr 1; omega) (by simpa using hge) (grownCap_max w _ _ e hmx)
                            (by simpa using RowsAt.append hE (A := cur.toList.take (xs.length * κ.sz k')) (D := (Builtin.zeroCells z.cells (grownCap w (xs.length + ys.length) p.cap e - (xs.length + ys.length))).toList) (by simp; omega) hl hrowsx.take hrows)
                            (grown_drewAlloc w _ none) (fun k h => by cases h) (by rw [hel]; exact heap_alloc_new w.drew _) (.inr (Nat.le_refl _))
                          simp only [List.length_append] at n1
                          exact wp_value (run_append_op ho hxv hyv hrun) (hn _ _ _ _ n1.1 n1.2.1 n1.2.2)
                  · cases h
                · cases h
              · cases h
            · cases h
          · cases h
        · cases h
      · cases h
    · cases h
  · cases h
end Go.Am
end

section
namespace Go.Am
open Go.RowKit Go.MapKept Go.ChangeMaps
variable {κ : Kinds} {E : Encs κ} {F F' : Nat → Option Obj} {φ φ' : Nat → Option Pl} {P : Program} {C : Ctx κ} {a : Act} {w w' : World} {s s' : St κ} {o : Oper}

/-- A block of its own is written, whatever it holds. -/
theorem set_good' (hg : Good C.E C.glob a w s F φ) {i : Nat} {p : Pl} {g : Nat} {b b' : Blk κ} (hS : s.S[i]? = some b) (hp : φ i = some p) (hpg : p.g = some g) (hw : w.grownBy w' (some g)) (hsz : w'.heap.size = w.heap.size) (hb : OwnB C.E F φ w' i b') :
    Good C.E C.glob a w' (s.setB i b') F φ ∧ Mv w F φ w' F φ := by
  have hlt : i < s.S.length := (List.getElem?_eq_some_iff.1 hS).1
  have other : ∀ x ob, x ≠ g → w.heap[x]? = some ob → w'.heap[x]? = some ob := fun x ob hx h => by
    rw [hw.block x (Array.getElem?_eq_some_iff.1 h).1 (fun e => hx (Option.some.inj e))]; exact h
  refine ⟨⟨⟨fun x ob h => ?_, fun j c h => ?_, fun j h => hg.rel.out j (by simpa [St.setB] using h), hg.rel.inj, hg.rel.apart, fun j q g' h1 h2 => ?_⟩, hg.env, hg.size, hg.defers, hg.al, hg.glob⟩, ?_⟩
  · refine other x ob (fun e => ?_) (hg.rel.frz x ob h)
    subst e
    rw [hg.rel.apart i p x hp hpg] at h
    cases h
  · simp only [St.setB] at h
    by_cases hj : j = i
    · subst hj
      rw [List.getElem?_set_self hlt] at h
      obtain rfl := Option.some.inj h
      exact hb
    · rw [List.getElem?_set_ne (Ne.symm hj)] at h
      exact (hg.rel.blk j c h).keep rfl (fun _ _ h => h) fun q g' ob h1 h2 h3 => other g' ob (fun e => by
        subst e
        exact hj (hg.rel.inj j i q p g' h1 hp h2 hpg)) h3
  · rw [hsz]; exact hg.rel.lt j q g' h1 h2
  · refine ⟨hw.os, hw.tape, hw.output, hw.size, fun x hx hn => ?_, fun x hx _ => hx, Le.refl F, fun x ob h1 h2 => by rw [h2] at h1; cases h1⟩
    exact hw.block x hx fun e => hn ⟨i, p, hp, by rw [hpg]; exact e.symm⟩

theorem map_fresh (hg : Good C.E C.glob a w s F φ) (k : κ.Kc) :
    Good C.E C.glob a (w.alloc (.map #[] 0)) (s.fresh (.mp k [])) F (at_ φ s.S.length (some ⟨some w.heap.size, 0, 0⟩)) ∧ Rep C.E F (at_ φ s.S.length (some ⟨some w.heap.size, 0, 0⟩)) (.mp s.S.length) (.map (some w.heap.size)) ∧
    Mv w F φ (w.alloc (.map #[] 0)) F (at_ φ s.S.length (some ⟨some w.heap.size, 0, 0⟩)) := by
  have := fresh_good hg ⟨some w.heap.size, 0, 0⟩ (grown_alloc w (.map #[] 0)) (fun g h => by simp at h; subst h; exact ⟨Nat.le_refl _, by show _ < (w.heap.push _).size; simp⟩) (b := .mp k [])
    ⟨⟨some w.heap.size, 0, 0⟩, w.heap.size, #[], 0, at_self _ _ _, rfl, heap_alloc_new w _, rfl, by simp, fun r x e hx => by simp at hx⟩
  exact ⟨this.1, .mp _ ⟨some w.heap.size, 0, 0⟩ _ (at_self _ _ _) rfl, this.2⟩

theorem loud_makeMap {β : Type} {kindOf : TypeId → Option κ.Kc} {t : TypeId} {x : Option Operand} {K : AV κ → St κ → Option β} {r : β} (ho : o.op = .makeMap t x) (h : loud? C kindOf o s K = some r) : ∃ v s', K v s' = some r ∧ LoudOk C o s v s' := by
  simp only [loud?, ho] at h
  split at h
  · rename_i kt et k hu hk
    have done : ∀ (v : AV κ → Bool), K (.mp s.S.length) (s.fresh (.mp k [])) = some r → (∀ (a : Act) (F : Nat → Option Obj) (φ : Nat → Option Pl) (w : World), Good C.E C.glob a w s F φ → (Instr.makeMap t (x.map a.eval)).run C.P w = .ok (.map (some w.heap.size)) (w.alloc (.map #[] 0))) →
        ∃ v s', K v s' = some r ∧ LoudOk C o s v s' := fun _ hK hrun => by
      refine ⟨_, _, hK, fun a w F φ hg next Q hn => ?_⟩
      obtain ⟨h1, h2, h3⟩ := map_fresh hg k
      refine wp_value (u := .map (some w.heap.size)) (w' := w.alloc (.map #[] 0)) ?_ (hn _ _ _ _ h1 h2 h3)
      unfold execOp
      rw [ho]
      refine run_v ?_
      exact hrun a F φ w hg
    split at h
    · exact done (fun _ => true) h fun a F φ w hg => by simp [Instr.makeMap, Result.andThen]
    · rename_i y
      split at h
      · rename_i q n hy
        refine done (fun _ => true) h fun a F φ w hg => ?_
        have e1 := val_inv (hy ▸ ev_rep hg y)
        simp only [Option.map_some, e1]
        simp [Instr.makeMap, run_underlying hu, asInt, asIntOf, Result.andThen]
      · cases h
  · cases h

theorem mput_modify {k : κ.Kc} {xs : List (κ.ty k)} {es : Array MapEntry} (hE : E.Ok) (h : MapAt E F φ k xs es) {y : κ.ty k} {m : MKey} (hy : E.key k y = m) (hm : m.like (E.key k (E.dflt k)) = true) {j : Nat} {x : κ.ty k} {e : MapEntry} (hx : xs[j]? = some x) (he : es[j]? = some e) (hs : (E.key k x).same m = true) (hh : mhas (E.key k) xs m = true)
    {val : Value} (hv : Rep E F φ (E.mval k y) val) : MapAt E F φ k (mput (E.key k) xs y) (es.modify j fun e => { e with key := m.toV, val := val }) := by
  have hall := fun x => like_all hE hm x
  have hkx : e.key = m.toV := by rw [(h.2.2 j x e hx he).1]; exact (MKey.same_toV (MKey.like_symm (hall x))).1 hs
  have hmod : ∀ e', es[j]? = some e' → ({ e' with key := m.toV, val := val } : MapEntry).key = e'.key := fun e' he' => by rw [he] at he'; cases he'; exact hkx.symm
  unfold mput
  rw [hy, if_pos hh]
  refine ⟨by simpa using h.1, by rw [modify_keys j _ hmod]; exact h.2.1, fun r z e' hz he' => ?_⟩
  rw [List.getElem?_map] at hz
  obtain ⟨z0, hz0, rfl⟩ := Option.map_eq_some_iff.1 hz
  rw [Array.getElem?_modify] at he'
  by_cases hr : j = r
  · subst hr
    rw [if_pos rfl, he] at he'
    simp only [Option.map_some, Option.some.injEq] at he'
    subst he'
    rw [hx] at hz0
    obtain rfl := Option.some.inj hz0
    rw [if_pos hs]
    exact ⟨by rw [hy], hv⟩
  · rw [if_neg hr] at he'
    have hk0 := h.2.2 r z0 e' hz0 he'
    have hne : ¬ (E.key k z0).same m = true := fun hc => by
      have h1 := (MKey.same_toV (MKey.like_symm (hall z0))).1 hc
      have h2 := h.2.1
      rw [List.nodup_iff_pairwise_ne, List.pairwise_iff_getElem] at h2
      have hjl := (Array.getElem?_eq_some_iff.1 he).1
      have hrl := (Array.getElem?_eq_some_iff.1 he').1
      have ej := (Array.getElem?_eq_some_iff.1 he).2
      have er := (Array.getElem?_eq_some_iff.1 he').2
      rcases Nat.lt_or_gt_of_ne hr with hlt | hlt
      · exact h2 j r (by simpa using hjl) (by simpa using hrl) hlt (by simp [ej, er, hkx, hk0.1, h1])
      · exact h2 r j (by simpa using hrl) (by simpa using hjl) hlt (by simp [ej, er, hkx, hk0.1, h1])
    rw [if_neg hne]
    exact hk0
theorem mput_push {k : κ.Kc} {xs : List (κ.ty k)} {es : Array MapEntry} (h : MapAt E F φ k xs es) {y : κ.ty k} {m : MKey} (hy : E.key k y = m) (hh : mhas (E.key k) xs m = false) (hne : ∀ x ∈ es.toList, x.key ≠ m.toV)
    {val : Value} (hv : Rep E F φ (E.mval k y) val) (clock : Nat) : MapAt E F φ k (mput (E.key k) xs y) (es.push { key := m.toV, val := val, born := clock }) := by
  unfold mput
  rw [hy, hh, if_neg (by simp)]
  refine ⟨by simp [h.1], ?_, fun r z e hz he => ?_⟩
  · rw [Array.toList_push, List.map_append, List.nodup_append]
    refine ⟨h.2.1, by simp, fun a ha b hb => ?_⟩
    obtain ⟨x, hx, rfl⟩ := List.mem_map.1 ha
    simp at hb
    subst hb
    exact hne x hx
  · rw [Array.getElem?_push] at he
    by_cases hr : r = es.size
    · rw [if_pos hr] at he
      obtain rfl := Option.some.inj he
      rw [hr, h.1, List.getElem?_append_right (Nat.le_refl _)] at hz
      simp at hz
      subst hz
      exact ⟨by rw [hy], hv⟩
    · rw [if_neg hr] at he
      have hlt := (Array.getElem?_eq_some_iff.1 he).1
      rw [List.getElem?_append_left (by rw [← h.1]; exact hlt)] at hz
      exact h.2.2 r z e hz he

theorem loud_mapUpdate {β : Type} (hE : C.E.Ok) {kindOf : TypeId → Option κ.Kc} {t : TypeId} {m x y : Operand} {K : AV κ → St κ → Option β} {r : β} (ho : o.op = .mapUpdate t m x y ∨ o.op = .insert t m x y) (h : loud? C kindOf o s K = some r) : ∃ v s', K v s' = some r ∧ LoudOk C o s v s' := by
  have h' : (match ev C s m with
    | .mp i => match s.S[i]? with
      | some (.mp k xs) => match C.P.underlying t with
        | some (.map kt _) => match keyV C.P kt (ev C s x) with
          | some mk => match C.E.mmk k mk (ev C s y) with
            | some y => if mk.like (C.E.key k (C.E.dflt k)) = true then K .bot (s.setB i (.mp k (mput (C.E.key k) xs y))) else none
            | none => none
          | none => none
        | _ => none
      | _ => none
    | _ => none) = some r := by
    rcases ho with ho | ho <;> simp only [loud?, ho] at h <;> exact h
  clear h
  split at h'
  · rename_i i hm
    split at h'
    · rename_i k xs hS
      split at h'
      · rename_i kt et hu
        split at h'
        · rename_i mk hmk
          split at h'
          · rename_i z hz
            split at h'
            · rename_i hlike
              refine ⟨_, _, h', fun a w F φ hg next Q hn => ?_⟩
              obtain ⟨p, g, es, clock, h1, h2, h3, h4, h5⟩ := mp_inv hg (hm ▸ ev_rep hg m) hS
              obtain ⟨hku, d, hd, hkey⟩ := keyV_sound hmk (ev_rep hg x)
              obtain ⟨hzk, hzv⟩ := hE.mmk _ _ _ _ hz
              have hrep := ev_rep hg y
              rw [← hzv] at hrep
              have hglt := (Array.getElem?_eq_some_iff.1 h4).1
              have fin : ∀ (es' : Array MapEntry) (clock' : Nat), (Instr.mapUpdate t (.map (some g)) mk.toV (a.eval y)).run C.P w = .ok () { w with heap := w.heap.setIfInBounds g (.map es' clock') } → MapAt C.E F φ k (mput (C.E.key k) xs z) es' → o.wp C.P a w next Q := fun es' clock' hrun hat => by
                have hh := MapKept.heap_set (o' := .map es' clock') h4
                obtain ⟨h7, h8⟩ := set_good' hg hS h1 h2 (w' := { w with heap := w.heap.setIfInBounds g (.map es' clock') }) (b' := .mp k (mput (C.E.key k) xs z)) ⟨rfl, rfl, rfl, by simp, fun b _ hb => hh.2 b fun e => hb (by rw [e])⟩ (by simp)
                  ⟨p, g, es', clock', h1, h2, hh.1, hat⟩
                refine wp_skip' ?_ (hn _ _ _ _ h7 (.bot _) h8)
                unfold execOp
                rcases ho with ho | ho <;> rw [ho] <;> simp only [hku, h3] <;> simp [hrun]
              rcases h5.find hE hkey hlike with ⟨h6, h7, h8⟩ | ⟨j, q, e, h6, h7, h8, h9, h10, h11, h12⟩
              · refine fin (es.push { key := mk.toV, val := a.eval y, born := clock }) (clock + 1) ?_ (mput_push h5 hzk h7 h8 hrep clock)
                simp [Instr.mapUpdate, run_underlying hu, MapKept.run_getObj_map h4, run_checkKey hd hkey, run_findKey hd h6, MapKept.run_setObj_map _ h4, Result.andThen]
              · refine fin (es.modify j fun e => { e with key := mk.toV, val := a.eval y }) clock ?_ (mput_modify hE h5 hzk hlike h6 h7 h12 h10 hrep)
                simp [Instr.mapUpdate, run_underlying hu, MapKept.run_getObj_map h4, run_checkKey hd hkey, run_findKey hd h9, h7, h8, run_keyThatStays hkey, MapKept.run_setObj_map _ h4, Result.andThen]
            · cases h'
          · cases h'
        · cases h'
      · cases h'
    · cases h'
  · cases h'
end Go.Am
end

section
namespace Go.Am
noncomputable section
open Go.RowKit
variable {κ : Kinds} {E : Encs κ} {F F' : Nat → Option Obj} {φ φ' : Nat → Option Pl} {P : Program} {C : Ctx κ} {a : Act} {w w' : World} {s s' : St κ} {o : Oper}

/-- What a callee does: from memory as told to memory as told. -/
def CallOk (P : Program) (E : Encs κ) (G : Nat → AV κ) (fid : FuncId) (args : List (AV κ)) (S : List (Blk κ)) (v : AV κ) (S' : List (Blk κ)) (m : List (Nat × Nat)) : Prop :=
  ∀ (w : World) (F : Nat → Option Obj) (φ : Nat → Option Pl) (us : Array Value), Rel E F φ S w → (∀ (g : Nat) (ψ : Nat → Option Pl), Rep E F ψ (G g) (.pointer (some ⟨g, 0, none⟩))) → Reps E F φ args us.toList →
    Calls P fid us w fun e w' => ∃ u F' φ', e = .returned u ∧ Rel E F' φ' S' w' ∧ Rep E F' φ' v u ∧ Mv w F φ w' F' φ' ∧ ∀ (es : List (AV κ)) (vs : List Value), Reps E F φ es vs → Reps E F' φ' (kwE m es) vs
def EntOk (P : Program) (E : Encs κ) (G : Nat → AV κ) (fid : FuncId) (en : Ent κ) : Prop :=
  ∀ (β : Type) (args : List (AV κ)) (S : List (Blk κ)) (K : AV κ → List (Blk κ) → List (Nat × Nat) → Option β) (r : β), en args S K = some r →
    (∀ (us : Array Value) (w : World), (callFunc fid us).run P w = .ok (.enter fid us) w) ∧ ∃ v S' m, K v S' m = some r ∧ CallOk P E G fid args S v S' m

/-- Nothing that was there has turned. -/
structure Grow (w w' : World) : Prop where
  os : w'.os = w.os
  tape : w'.tape = w.tape
  output : w'.output = w.output
  size : w.heap.size ≤ w'.heap.size
  blk : ∀ b, b < w.heap.size → w'.heap[b]? = w.heap[b]?
theorem Grow.sub (h : Grow w w') : Sub w w' := fun b o hb => by rw [h.blk b (Array.getElem?_eq_some_iff.1 hb).1]; exact hb
theorem Grow.trans {w2 : World} (h : Grow w w') (k : Grow w' w2) : Grow w w2 := ⟨k.os.trans h.os, k.tape.trans h.tape, k.output.trans h.output, Nat.le_trans h.size k.size, fun b hb => (k.blk b (Nat.lt_of_lt_of_le hb h.size)).trans (h.blk b hb)⟩
theorem Grow.mv (h : Grow w w') : Mv w F φ w' F φ := ⟨h.os, h.tape, h.output, h.size, fun b hb _ => h.blk b hb, fun _ hb _ => hb, Le.refl F, fun b o h1 h2 => by rw [h2] at h1; cases h1⟩
theorem Rel.sub {S : List (Blk κ)} (h : Rel E F φ S w) (k : Sub w w') (hs : w.heap.size ≤ w'.heap.size) : Rel E F φ S w' := by
  refine ⟨fun b o hb => k b o (h.frz b o hb), fun i b hb => ?_, h.out, h.inj, h.apart, fun i p g h1 h2 => Nat.lt_of_lt_of_le (h.lt i p g h1 h2) hs⟩
  exact (h.blk i b hb).keep rfl (fun _ _ h => h) fun p g ob _ _ h3 => k g ob h3
theorem Good.grow (h : Good C.E C.glob a w s F φ) (k : Grow w w') : Good C.E C.glob a w' s F φ := ⟨h.rel.sub k.sub k.size, h.env, h.size, h.defers, h.al, h.glob⟩

def QEntOk (P : Program) (E : Encs κ) (G : Nat → AV κ) (fid : FuncId) (en : QEnt κ) : Prop :=
  ∀ (β : Type) (args : List (AV κ)) (S : List (Blk κ)) (K : AV κ → Option β) (r : β), en args S K = some r →
    (∀ (us : Array Value) (w : World), (callFunc fid us).run P w = .ok (.enter fid us) w) ∧ ∃ v u, K v = some r ∧ (∀ F φ, Rep E F φ v u) ∧
    ∀ (w : World) (F : Nat → Option Obj) (φ : Nat → Option Pl) (us : Array Value), Rel E F φ S w → (∀ (g : Nat) (ψ : Nat → Option Pl), Rep E F ψ (G g) (.pointer (some ⟨g, 0, none⟩))) → Reps E F φ args us.toList →
      Calls P fid us w fun e w' => e = .returned u ∧ Grow w w'

structure Ctx.Ok (C : Ctx κ) : Prop where
  enc : C.E.Ok
  fit : ∀ k : κ.Kc, Fit C.P k
  gam : ∀ fid, EntOk C.P C.E C.glob fid (C.Γ fid)
  gamq : ∀ fid, QEntOk C.P C.E C.glob fid (C.Γq fid)
  mix : C.P.follows .mixedOrders = true

theorem loud_slice {β : Type} (hC : C.Ok) {kindOf : TypeId → Option κ.Kc} {t : TypeId} {x h' : Operand} {K : AV κ → St κ → Option β} {r : β} (ho : o.op = .slice t x none (some h') none) (h : loud? C kindOf o s K = some r) :
    ∃ v s', K v s' = some r ∧ LoudOk C o s v s' := by
  simp only [loud?, ho] at h
  split at h
  · rename_i d e k i kh vh hu hx hh
    split at h
    · rename_i k' xs hS
      split at h
      · rename_i hk
        obtain ⟨rfl, hsz⟩ := hk
        split at h
        · rename_i hv
          refine ⟨_, _, h, fun a w F φ hg next Q hn => ?_⟩
          have hxr := ev_rep hg x
          rw [hx] at hxr
          have e2 := val_inv (hh ▸ ev_rep hg h')
          have hpos : 0 < sizeOf? C.P e := by rw [hsz]; exact hC.enc.pos k'
          have hle : vh.toNat ≤ xs.length := by omega
          have htl : (xs.take vh.toNat).length = vh.toNat := by simp; omega
          obtain ⟨p, h1, h2, hh⟩ := own_inv hg hxr hS
          rcases hh with ⟨hpg, rfl, hxv⟩ | ⟨g, hpg, hxv⟩
          · have h0 : vh.toNat = 0 := by simpa using hle
            obtain ⟨n1, n2, n3⟩ := nil_turn hC.enc hg hS k'
            refine wp_value (u := .slice none 0 0) (w' := w) ?_ (hn _ _ _ _ (by rw [h0]; exact n1) n2 n3)
            unfold execOp
            rw [ho]
            refine run_v ?_
            rw [hxv]
            simp only [Option.map_some, Option.map_none]
            rw [e2]
            exact run_sliceNil hu hpos (fun w => by simp [Instr.sliceBounds, run_bound (y := 0) hv.1 (by omega), h0]) w
          · obtain ⟨p', h3, h4, hh⟩ := hg.rel.blk i _ hS
            obtain rfl := Option.some.inj (h1.symm.trans h3)
            rcases hh with ⟨hn, _⟩ | ⟨g', cur, hpg', h5, h6, h7, h8, h9⟩
            · rw [hpg] at hn; cases hn
            obtain rfl := Option.some.inj (hpg.symm.trans hpg')
            have n1 := rows_turn hC.enc hg hS (w' := w) (row := none) (k := k') (zs := xs.take vh.toNat) (cur := cur) (cap := p.cap) (g := g) h6 (by omega) h8 (fun r x j c u hx hc hu => h9 r x j c u (by
                rw [List.getElem?_take] at hx
                split at hx
                · exact hx
                · cases hx) hc (by simpa using hu)) ⟨rfl, rfl, rfl, Nat.le_refl _, fun _ _ _ => rfl⟩ (fun k h => by cases h) h5 (.inl ⟨p, h1, hpg⟩)
            rw [htl] at n1
            refine wp_value (u := .slice (some ⟨g, 0, none⟩) vh.toNat p.cap) (w' := w) ?_ (hn _ _ _ _ n1.1 n1.2.1 n1.2.2)
            unfold execOp
            rw [ho]
            refine run_v ?_
            rw [hxv]
            simp only [Option.map_some, Option.map_none]
            rw [e2]
            have := run_sliceAt (b := g) (off := 0) (len := xs.length) (cap := p.cap) (lo := none) (hi := some (.int kh vh)) 0 vh.toNat hu hpos hsz (fun w => by simp [Instr.sliceBounds, run_bound (y := p.cap) hv.1 (by omega)]) w
            simpa using this
        · cases h
      · cases h
    · cases h
  · cases h

theorem reps_map (hg : Good C.E C.glob a w s F φ) (xs : List Operand) : Reps C.E F φ (xs.map (ev C s)) (xs.map a.eval) := by
  refine ⟨by simp, fun j c u hc hu => ?_⟩
  rw [List.getElem?_map] at hc hu
  cases hx : xs[j]? with
  | none => rw [hx] at hc; cases hc
  | some x =>
    rw [hx] at hc hu
    simp at hc hu
    subst hc; subst hu
    exact ev_rep hg x
theorem Reps.append {cs ds : List (AV κ)} {us vs : List Value} (h : Reps E F φ cs us) (k : Reps E F φ ds vs) : Reps E F φ (cs ++ ds) (us ++ vs) := by
  refine ⟨by simp [h.1, k.1], fun j c u hc hu => ?_⟩
  by_cases hj : j < cs.length
  · rw [List.getElem?_append_left hj] at hc
    rw [List.getElem?_append_left (by rw [← h.1]; exact hj)] at hu
    exact h.2 j c u hc hu
  · rw [List.getElem?_append_right (by omega)] at hc
    rw [List.getElem?_append_right (by rw [← h.1]; omega), ← h.1] at hu
    exact k.2 _ c u hc hu

theorem loud_call {β : Type} (hC : C.Ok) {kindOf : TypeId → Option κ.Kc} {f : Operand} {args : Array Operand} {ts : Array TypeId} {K : AV κ → St κ → Option β} {r : β} (ho : o.op = .call ⟨.value f, args, ts⟩) (h : loud? C kindOf o s K = some r) :
    ∃ v s', K v s' = some r ∧ LoudOk C o s v s' := by
  simp only [loud?, ho] at h
  split at h
  · rename_i fid caps hf
    obtain ⟨hent, v, S', m, hK, hcall⟩ := hC.gam fid β _ _ _ _ h
    refine ⟨v, _, hK, fun a w F φ hg next Q hn => ?_⟩
    have hfr := ev_rep hg f
    rw [hf] at hfr
    generalize hz : a.eval f = z at hfr
    cases hfr with
    | fn _ _ us hl hr =>
      have hargs : Reps C.E F φ (args.toList.map (ev C s) ++ caps) (args.map a.eval ++ us).toList := by
        rw [Array.toList_append, Array.toList_map]
        exact (reps_map hg _).append ⟨by simpa using hl, fun j c u hc hu => hr j c u hc (by simpa using hu)⟩
      have hrun : (execOp a.eval o).run C.P w = .ok (.enter fid (args.map a.eval ++ us)) w := by
        unfold execOp
        simp only [ho, resolve, hz, Deferred.ofValue, Sem.run_bind, Sem.run_pure, Result.andThen_ok, invoke]
        simp only [Array.empty_append]
        exact hent _ w
      unfold Oper.wp
      rw [hrun]
      refine (hcall w F φ _ hg.rel hg.glob hargs).mono ?_
      rintro e w' ⟨u, F', φ', rfl, h1, h2, h3, h4⟩
      have hen : Reps C.E F φ s.env a.tmps.toList := ⟨by simpa using hg.size.symm, fun j c u hc hu => by
        have := hg.env j c hc
        have e : a.tmps.getD j undef = u := by
          have hlt : j < a.tmps.size := by have := (List.getElem?_eq_some_iff.1 hu).1; simpa using this
          simp [hlt] at hu ⊢; exact hu
        rwa [e] at this⟩
      have hen' := h4 _ _ hen
      refine hn u w' F' φ' ⟨h1, fun t v hv => ?_, by have := hen'.1; simpa using this.symm, hg.defers, hg.al, fun g ψ => (hg.glob g ψ).mono h3.le⟩ h2 h3
      have hlt : t < a.tmps.size := by have := (List.getElem?_eq_some_iff.1 hv).1; rw [hen'.1] at this; simpa using this
      exact hen'.2 t v _ hv (by simp [hlt])
  · cases h

theorem loud_sound {β : Type} (hC : C.Ok) {kindOf : TypeId → Option κ.Kc} {K : AV κ → St κ → Option β} {r : β} (h : loud? C kindOf o s K = some r) : ∃ v s', K v s' = some r ∧ LoudOk C o s v s' := by
  cases ho : o.op with
  | alloc t => exact loud_alloc ho h
  | box t x => exact loud_box ho h
  | assign x =>
    cases x with
    | const v =>
      cases v with
      | slice b l c =>
        cases b with
        | some _ => simp [loud?, ho] at h
        | none =>
          cases l with
          | succ _ => simp [loud?, ho] at h
          | zero =>
            cases c with
            | succ _ => simp [loud?, ho] at h
            | zero => exact loud_nil ho h
      | _ => simp [loud?, ho] at h
    | _ => simp [loud?, ho] at h
  | store t p x => exact loud_store hC.enc ho h
  | buildSlice t n ps => exact loud_buildSlice hC.enc hC.fit ho h
  | makeMap t x => exact loud_makeMap ho h
  | mapUpdate t m x y => exact loud_mapUpdate hC.enc (.inl ho) h
  | insert t m x y => exact loud_mapUpdate hC.enc (.inr ho) h
  | makeSlice t x y => exact loud_makeSlice hC.enc hC.fit ho h
  | slice t x lo hi mx =>
    cases lo with
    | some l => simp [loud?, ho] at h
    | none =>
      cases hi with
      | none => simp [loud?, ho] at h
      | some hh =>
        cases mx with
        | some m => simp [loud?, ho] at h
        | none => exact loud_slice hC ho h
  | call c =>
    obtain ⟨callee, args, ts⟩ := c
    cases callee with
    | builtin b =>
      cases b with
      | append => exact loud_append hC.enc hC.fit ho h
      | _ => simp [loud?, ho] at h
    | value f => exact loud_call hC ho h
    | invoke _ _ => simp [loud?, ho] at h
  | _ => simp [loud?, ho] at h

theorem alike_spec {tmps : Array Value} {t : Nat} : ∀ {al : List (Nat × Nat)}, (∀ p, p ∈ al → tmps.getD p.1 undef = tmps.getD p.2 undef) → ∀ x, x ∈ alike t al → tmps.getD x undef = tmps.getD t undef
  | [], _, x, hx => by simp [alike] at hx; rw [hx]
  | (d, u) :: al, h, x, hx => by
    have ih := alike_spec (t := t) (al := al) (fun p hp => h p (List.mem_cons_of_mem _ hp))
    have hdu := h (d, u) List.mem_cons_self
    simp only at hdu
    simp only [alike] at hx
    split at hx
    · rename_i hc
      have hu := ih u (by simpa using hc)
      rcases List.mem_cons.1 hx with rfl | hx
      · rw [hdu, hu]
      · exact ih x hx
    · split at hx
      · rename_i hc
        have hd := ih d (by simpa using hc)
        rcases List.mem_cons.1 hx with rfl | hx
        · rw [← hdu, hd]
        · exact ih x hx
      · exact ih x hx
theorem setAll_get {v : AV κ} : ∀ (l : List Nat) (e : List (AV κ)) (t : Nat) (z : AV κ), (setAll v l e)[t]? = some z → (t ∈ l ∧ z = v) ∨ e[t]? = some z
  | [], e, t, z, h => .inr h
  | x :: l, e, t, z, h => by
    simp only [setAll] at h
    rcases setAll_get l (e.set x v) t z h with ⟨h1, h2⟩ | h1
    · exact .inl ⟨List.mem_cons_of_mem _ h1, h2⟩
    · rw [List.getElem?_set] at h1
      split at h1
      · rename_i he
        subst he
        split at h1
        · exact .inl ⟨List.mem_cons_self, (Option.some.inj h1).symm⟩
        · cases h1
      · exact .inr h1
theorem setAll_length {v : AV κ} : ∀ (l : List Nat) (e : List (AV κ)), (setAll v l e).length = e.length
  | [], _ => rfl
  | x :: l, e => by simp [setAll, setAll_length l]
theorem refine_good (hg : Good C.E C.glob a w s F φ) {t : Nat} {b : Bool} (h : a.tmps.getD t undef = .bool b) : Good C.E C.glob a w (s.refine t b) F φ := by
  refine ⟨hg.rel, fun x v hv => ?_, by simp only [St.refine, setAll_length]; exact hg.size, hg.defers, hg.al, hg.glob⟩
  simp only [St.refine] at hv
  rcases setAll_get _ _ _ _ hv with ⟨h1, rfl⟩ | h1
  · rw [alike_spec hg.al x h1, h]; exact .val _
  · exact hg.env x v h1

theorem put_good (hg : Good C.E C.glob a w s F φ) {v : AV κ} {u : Value} (h : Rep C.E F φ v u) (hm : ∀ t, o.op = .move (.tmp t) → u = a.tmps.getD t undef) : Good C.E C.glob (a.put o.dst u) w (s.put o v) F φ := by
  unfold St.put Act.put
  cases hd : o.dst with
  | none => exact hg
  | some d =>
    refine ⟨hg.rel, fun t z hz => ?_, by simpa using hg.size, hg.defers, fun p hp => ?_, hg.glob⟩
    · simp only at hz ⊢
      rw [List.getElem?_set] at hz
      split at hz
      · rename_i he
        subst he
        split at hz
        · rename_i hlt
          obtain rfl := Option.some.inj hz
          have : (a.tmps.setIfInBounds d u).getD d undef = u := by simp [hg.size, hlt]
          rw [this]; exact h
        · cases hz
      · rename_i he
        have : (a.tmps.setIfInBounds d u).getD t undef = a.tmps.getD t undef := by simp [Array.getD_eq_getD_getElem?, Array.getElem?_setIfInBounds, he]
        rw [this]; exact hg.env t z hz
    · simp only at hp ⊢
      have keep : ∀ q, q ∈ s.al.filter (fun p => p.1 != d && p.2 != d) → (a.tmps.setIfInBounds d u).getD q.1 undef = (a.tmps.setIfInBounds d u).getD q.2 undef := fun q hq => by
        obtain ⟨h1, h2⟩ := List.mem_filter.1 hq
        simp only [Bool.and_eq_true, bne_iff_ne, ne_eq] at h2
        have e1 : (a.tmps.setIfInBounds d u).getD q.1 undef = a.tmps.getD q.1 undef := by simp [Array.getD_eq_getD_getElem?, Array.getElem?_setIfInBounds, Ne.symm h2.1]
        have e2 : (a.tmps.setIfInBounds d u).getD q.2 undef = a.tmps.getD q.2 undef := by simp [Array.getD_eq_getD_getElem?, Array.getElem?_setIfInBounds, Ne.symm h2.2]
        rw [e1, e2]; exact hg.al q h1
      split at hp
      · rename_i t ht
        split at hp
        · rename_i hc
          simp only [Bool.and_eq_true, bne_iff_ne, ne_eq, decide_eq_true_eq] at hc
          rcases List.mem_cons.1 hp with rfl | hp
          · have e1 : (a.tmps.setIfInBounds d u).getD d undef = u := by simp [hg.size, hc.2]
            have e2 : (a.tmps.setIfInBounds d u).getD t undef = a.tmps.getD t undef := by simp [Array.getD_eq_getD_getElem?, Array.getElem?_setIfInBounds, Ne.symm hc.1.2]
            simp only [e1, e2]
            exact hm t ht
          · exact keep p hp
        · exact keep p hp
      · exact keep p hp

theorem shut_sound {β : Type} (hE : C.E.Ok) {v : AV κ} {K : AV κ → St κ → Option β} {r : β} (h : shutV s v K = some r) :
    ∃ v' s', K v' s' = some r ∧ ∀ (a : Act) (w : World) (F : Nat → Option Obj) (φ : Nat → Option Pl) (u : Value), Good C.E C.glob a w s F φ → Rep C.E F φ v u → ∃ F' φ', Good C.E C.glob a w s' F' φ' ∧ Rep C.E F' φ' v' u ∧ Mv w F φ w F' φ' := by
  have turn : ∀ {a : Act} {w : World} {F : Nat → Option Obj} {φ : Nat → Option Pl} {i : Nat} {b : Blk κ} {p : Pl} {g : Nat} {ob : Obj}, Good C.E C.glob a w s F φ → s.S[i]? = some b → φ i = some p → p.g = some g → w.heap[g]? = some ob →
      Good C.E C.glob a w (s.turn i .dead) (fun x => if x = g then some ob else F x) (at_ φ i none) ∧ Mv w F φ w (fun x => if x = g then some ob else F x) (at_ φ i none) := by
    intro a w F φ i b p g ob hg hS hp hpg hob
    refine turn_good hE hg hS (w' := w) (row := none) ⟨rfl, rfl, rfl, Nat.le_refl _, fun _ _ _ => rfl⟩ (fun k h => by cases h) none (b' := .dead) (fun p g h => by cases h) (fun x o' hx => ?_) (fun x o' hx => ?_) (fun j q g' h1 h2 => ?_) (fun x o' h1 h2 => ?_) (at_self _ _ _)
    · have hne : x ≠ g := fun e => by subst e; rw [hg.rel.apart i p x hp hpg] at hx; cases hx
      show (if x = g then some ob else F x) = some o'
      rw [if_neg hne]; exact hx
    · split at hx
      · rename_i e
        subst e
        obtain rfl := Option.some.inj hx
        exact hob
      · exact hg.rel.frz x o' hx
    · by_cases hj : j = i
      · subst hj; rw [at_self] at h1; cases h1
      · rw [at_ne _ _ hj] at h1
        have hne : g' ≠ g := fun e => by subst e; exact hj (hg.rel.inj j i q p g' h1 hp h2 hpg)
        show (if g' = g then some ob else F g') = none
        rw [if_neg hne]
        exact hg.rel.apart j q g' h1 h2
    · split at h1
      · rename_i e
        subst e
        exact .inr ⟨i, p, hp, hpg⟩
      · rw [h2] at h1; cases h1
  unfold shutV at h
  split at h
  · rename_i k i
    split at h
    · rename_i k' xs hS
      split at h
      · rename_i hk
        subst hk
        refine ⟨_, _, h, fun a w F φ u hg hr => ?_⟩
        obtain ⟨p, h1, h2, hh⟩ := own_inv hg hr hS
        rcases hh with ⟨hpg, rfl, rfl⟩ | ⟨g, hpg, rfl⟩
        · have := turn_good hE hg hS (w' := w) (row := none) ⟨rfl, rfl, rfl, Nat.le_refl _, fun _ _ _ => rfl⟩ (fun k h => by cases h) none (b' := .dead) (F' := F) (fun p g h => by cases h) (Le.refl F) hg.rel.frz (fun j q g' h3 h4 => by
            by_cases hj : j = i
            · subst hj; rw [at_self] at h3; cases h3
            · rw [at_ne _ _ hj] at h3; exact hg.rel.apart j q g' h3 h4) (fun x o' h1 h2 => by rw [h2] at h1; cases h1) (at_self _ _ _)
          exact ⟨F, _, this.1, .roNil k', this.2⟩
        · obtain ⟨p', h3, h4, hh⟩ := hg.rel.blk i _ hS
          obtain rfl := Option.some.inj (h1.symm.trans h3)
          rcases hh with ⟨hn, _⟩ | ⟨g', cur, hpg', h5, h6, h7, h8, h9⟩
          · rw [hpg] at hn; cases hn
          obtain rfl := Option.some.inj (hpg.symm.trans hpg')
          obtain ⟨n1, n2⟩ := turn hg hS h1 hpg h5
          refine ⟨_, _, n1, .ro k' xs g 0 p.cap (fun r j => cur.getD (r * κ.sz k' + j) undef) h7 (fun r j hr hj => ?_) (fun r x j c hx hc => ?_), n2⟩
          · have h10 : (r + 1) * κ.sz k' ≤ p.cap * κ.sz k' := Nat.mul_le_mul_right _ (by omega)
            rw [Nat.add_mul, Nat.one_mul] at h10
            have : r * κ.sz k' + j < cur.size := by omega
            simp [FCell, this]
          · have hj : j < κ.sz k' := by rw [← hE.len k' x]; exact (List.getElem?_eq_some_iff.1 hc).1
            have hrl : r < xs.length := (List.getElem?_eq_some_iff.1 hx).1
            have h10 : (r + 1) * κ.sz k' ≤ p.cap * κ.sz k' := Nat.mul_le_mul_right _ (by omega)
            rw [Nat.add_mul, Nat.one_mul] at h10
            have hlt : r * κ.sz k' + j < cur.size := by omega
            have := h9 r x j c _ hx hc (show cur[r * κ.sz k' + j]? = some (cur.getD (r * κ.sz k' + j) undef) by simp [hlt])
            exact ((this.flat hE (hE.flat k' x c (List.mem_of_getElem? hc))).1).mono n2.le
      · cases h
    · cases h
  · rename_i i
    split at h
    · rename_i t cs hS
      split at h
      · rename_i hfl
        refine ⟨_, _, h, fun a w F φ u hg hr => ?_⟩
        cases hr with
        | ptr _ _ p g hp hpg =>
          obtain ⟨p', g', cur, h1, h2, h3, h4, h5⟩ := hg.rel.blk i _ hS
          obtain rfl := Option.some.inj (hp.symm.trans h1)
          obtain rfl := Option.some.inj (hpg.symm.trans h2)
          obtain ⟨n1, n2⟩ := turn hg hS hp hpg h3
          refine ⟨_, _, n1, .rop cs g 0 (fun j => cur.getD j undef) (fun j hj => ?_) (fun j c hc => ?_), n2⟩
          · have : j < cur.size := by omega
            simp [FCell, this]
          · have hlt : j < cur.size := by rw [h4]; exact (List.getElem?_eq_some_iff.1 hc).1
            have := h5 j c _ hc (show cur[j]? = some (cur.getD j undef) by simp [hlt])
            exact ((this.flat hE (List.all_eq_true.1 hfl c (List.mem_of_getElem? hc))).1).mono n2.le
      · cases h
    · cases h
  · cases h
end
end Go.Am
end

section
namespace Go.Am
noncomputable section
open Go.RowKit

section
variable {P : Program} {ops : Array Oper} {md : Region.Mode} {CW : World → Prop}

/-- The head in whatever order, n operations; then L. -/
def headAny (P : Program) (md : Region.Mode) (ops : Array Oper) (CW : World → Prop) (n : Nat) (L : Array Bool → Act → Prop) : Nat → Array Bool → Act → Prop
  | 0, listed, a => L listed a
  | f + 1, listed, a => Region.ready md ops listed ≠ [] ∧ ∀ i ∈ Region.ready md ops listed, i < n ∧ qOp P ops CW i (headAny P md ops CW n L f (listed.setIfInBounds i true)) a

theorem headAny_go {n g : Nat} {L : Array Bool → Act → Prop} {Q : Exit → Act → World → Prop} (hL : ∀ listed a w, CW w → L listed a → wpAny P md ops Q g listed a w) :
    ∀ (f : Nat) (listed : Array Bool) (a : Act) (w : World), CW w → headAny P md ops CW n L f listed a → wpAny P md ops Q (f + g) listed a w
  | 0, listed, a, w, hw, h => by rw [Nat.zero_add]; exact hL _ _ _ hw h
  | f + 1, listed, a, w, hw, h => by
    rw [show f + 1 + g = (f + g) + 1 by omega]
    exact ⟨fun h0 => absurd h0 h.1, fun i hi => wpOp_of_qOp hw (fun a' w' hw' h' => headAny_go hL f _ a' w' hw' h') (h.2 i hi).2⟩

theorem headAny_first {n i : Nat} {oi : Oper} {v : Value} {L : Array Bool → Act → Prop} (hi : ops[i]? = some oi) (hsel : ∀ (j : Nat) (o : Oper) cs b, ops[j]? = some o → o.op ≠ .select cs b)
    (hs : Region.sinkB md ops n = true) (hc : Region.chainB md ops n = true) (hn : n < ops.size) (hin : i < n) (hdone : ∀ listed a, L listed a → ∀ j ∈ Region.ready md ops listed, n ≤ j) :
    ∀ (f : Nat) (listed : Array Bool) (a : Act), HeadInv md ops n listed →
      (∀ j oj, ops[j]? = some oj → j ≠ i → listed.getD j true = false → (∀ e ∈ oj.after, Region.binds md e = true → e.on ≠ i) → oi.apart ops oj = true) →
      i ∈ Region.ready md ops listed → YieldsIn P ops CW oi v a → headAny P md ops CW n L f (listed.setIfInBounds i true) (a.put oi.dst v) → headAny P md ops CW n L (f + 1) listed a := by
  intro f
  induction f with
  | zero =>
    intro listed a inv _ hr hy H
    have hun := (mem_ready.1 hr).1
    refine ⟨fun h => (by rw [h] at hr; cases hr), fun j hj => ?_⟩
    have hjn : j < n := by
      rcases Nat.lt_or_ge j n with h | h
      · exact h
      · exact absurd hj (tail_waits hs hc hn inv _ i rfl hin hun j h)
    refine ⟨hjn, ?_⟩
    by_cases hji : j = i
    · subst hji; exact hy.qOp hi H
    · have := hdone _ _ H j (ready_mono hj hji)
      omega
  | succ f ih =>
    intro listed a inv hfree hr hy H
    have hun := (mem_ready.1 hr).1
    refine ⟨fun h => (by rw [h] at hr; cases hr), fun j hj => ?_⟩
    have hjn : j < n := by
      rcases Nat.lt_or_ge j n with h | h
      · exact h
      · exact absurd hj (tail_waits hs hc hn inv _ i rfl hin hun j h)
    refine ⟨hjn, ?_⟩
    by_cases hji : j = i
    · subst hji; exact hy.qOp hi H
    · have h1 := (H.2 j (ready_mono hj hji)).2
      obtain ⟨hjun, oj, hoj, hall⟩ := mem_ready.1 hj
      have hnot : ∀ e ∈ oj.after, Region.binds md e = true → e.on ≠ i := fun e he hb heq => by
        have h1 := hall e he hb
        rw [heq, getD_both hun] at h1
        cases h1
      have h2 := qOp_put hoj (hfree j oj hoj hji hjun hnot) (fun cs b => hsel i oi cs b hi) (fun cs b => hsel j oj cs b hoj) hy h1
      have hfree' : ∀ k ok, ops[k]? = some ok → k ≠ i → (listed.setIfInBounds j true).getD k true = false → (∀ e ∈ ok.after, Region.binds md e = true → e.on ≠ i) → oi.apart ops ok = true := fun k ok hk hki hun hno => by
        refine hfree k ok hk hki ?_ hno
        by_cases hjk : j = k
        · subst hjk; exact hjun
        · rw [getD_set_ne true hjk] at hun; exact hun
      refine qOp_mono (fun a' h3 => ih (listed.setIfInBounds j true) a' (inv.set hj hjn) hfree' (ready_mono hr (Ne.symm hji)) h3.1 ?_) h2
      rw [Array.setIfInBounds_comm _ _ hji]
      exact h3.2

theorem headAny_lex {n g : Nat} {Lq : Act → Prop} (hsel : Region.noSelect ops = true) (hs : Region.sinkB md ops n = true) (hc : Region.chainB md ops n = true) (hn : n < ops.size) :
    ∀ (l : List Oper) (k : Nat) (listed : Array Bool) (a : Act), (∀ j, j < l.length → l[j]? = ops[k + j]?) → k + l.length = n → HeadInv md ops n listed → Region.lexHead md ops g l.length k listed = true → wpQuiet P ops CW Lq l a →
    headAny P md ops CW n (fun listed' a' => Region.seqB md ops g n listed' = true ∧ Lq a') l.length listed a
  | [], k, listed, a, _, hk, _, hB, h => by
    have : k = n := by simpa using hk
    subst this
    exact ⟨by simpa [Region.lexHead] using hB, h⟩
  | o :: l, k, listed, a, hl, hk, inv, hB, h => by
    have h0 : ops[k]? = some o := by simpa using (hl 0 (by simp)).symm
    simp only [List.length_cons, Region.lexHead, Bool.and_eq_true] at hB
    obtain ⟨⟨hr, hf⟩, hB'⟩ := hB
    have hkn : k < n := by simp only [List.length_cons] at hk; omega
    have hr' : k ∈ Region.ready md ops listed := by simpa using hr
    have hst : qOp P ops CW k (wpQuiet P ops CW Lq l) a := by unfold qOp; simp only [h0]; exact h
    obtain ⟨v, hy, hK⟩ := yieldsIn_of_qOp h0 hst
    exact headAny_first h0 (Region.noSelect_spec hsel) hs hc hn hkn (fun listed' a' hL => seqB_ready hL.1) l.length listed a inv (Region.free_spec h0 hf) hr' hy
      (headAny_lex hsel hs hc hn l (k + 1) _ _ (fun j hj => by have := hl (j + 1) (by simp; omega); simpa [Nat.add_assoc, Nat.add_comm 1 j] using this) (by simp only [List.length_cons] at hk; omega) (inv.set hr' hkn) hB' hK)

/-- **A quiet head, then a tail one by one**, in every world of the class. -/
theorem wp_quiet_tail {id : Nat} {Q : Exit → Act → World → Prop} {a : Act} {w : World} {l : List Oper} (n : Nat) (hm : P.follows .mixedOrders = true) (hB : Region.lexTailB .any l.toArray n = true) (hC : CW { w with drawn := w.drawn + 1 })
    (h : wpQuiet P l.toArray CW (fun a' => ∀ w', CW w' → wpList P l.toArray Q (l.drop n) a' w') (l.take n) a) : (Code.region id l.toArray true).wp P Q a w := by
  simp only [Region.lexTailB, Bool.and_eq_true, decide_eq_true_eq] at hB
  obtain ⟨⟨⟨⟨hsel, hn⟩, hs⟩, hc⟩, hlex⟩ := hB
  have hn' : n < l.length := by simpa using hn
  have htl : (l.take n).length = n := by simp; omega
  have hdl : (l.drop n).length = l.toArray.size - n := by simp
  have inv0 : HeadInv .any l.toArray n (Array.replicate l.toArray.size false) :=
    ⟨by simp, fun j oj _ hl => (by rw [getD_replicate_false] at hl; cases hl), fun t _ ht => getD_in (by simpa using ht) (getD_replicate_false _ _)⟩
  have H := headAny_lex (md := .any) (g := l.toArray.size - n) hsel hs hc hn (l.take n) 0 _ a (fun j hj => by
    have hj' : j < n := by rw [htl] at hj; exact hj
    simp [hj']) (by simpa using htl) inv0 (by rw [htl]; exact hlex) h
  refine wp_region_any hm ?_
  have := headAny_go (Q := Q) (g := l.toArray.size - n) (fun listed a' w' hw' hL => by
    have := wpAny_of_seq (md := .any) (Q' := Q) (l.drop n) n listed a' w' (fun j => by simp [List.getElem?_drop]) (by rw [hdl]; exact hL.1) (hL.2 w' hw')
    rwa [hdl] at this) _ _ _ _ hC H
  rw [htl, show n + (l.toArray.size - n) = l.toArray.size by omega] at this
  exact this
end
end
end Go.Am
end

section
namespace Go.Am
noncomputable section
open Go.RowKit
variable {κ : Kinds} {E : Encs κ} {F F' : Nat → Option Obj} {φ φ' : Nat → Option Pl} {P : Program} {C : Ctx κ} {a : Act} {w w' : World} {s s' : St κ} {o : Oper} {kindOf : TypeId → Option κ.Kc}

def StepOk (C : Ctx κ) (o : Oper) (s : St κ) (v : AV κ) (s' : St κ) : Prop :=
  ∀ (a : Act) (w : World) (F : Nat → Option Obj) (φ : Nat → Option Pl), Good C.E C.glob a w s F φ → ∀ (next : Act → World → Prop) (Q : Exit → Act → World → Prop),
    (∀ u w' F' φ', Good C.E C.glob a w' s' F' φ' → Rep C.E F' φ' v u → Mv w F φ w' F' φ' → (∀ t, o.op = .move (.tmp t) → u = a.tmps.getD t undef) → next (a.put o.dst u) w') → o.wp C.P a w next Q

theorem StepOk.of_quiet {v : AV κ} (h : QuietOk C o s v) : StepOk C o s v s := fun a w F φ hg next Q hn => by
  obtain ⟨u, h1, h2, h3, _⟩ := h a w F φ hg
  exact wp_value (h3 w (Sub.refl w)) (hn u w F φ hg h1 (Mv.refl _ _ _) h2)
theorem StepOk.of_loud {v : AV κ} (hm : ∀ x, o.op ≠ .move x) (h : LoudOk C o s v s') : StepOk C o s v s' := fun a w F φ hg next Q hn =>
  h a w F φ hg next Q fun u w' F' φ' h1 h2 h3 => hn u w' F' φ' h1 h2 h3 fun _ ht => absurd ht (hm _)

theorem pick_run {c x y : Operand} {b : Bool} (ho : o.op = .pick c x y) (hc : a.eval c = .bool b) : (execOp a.eval o).run P w = .ok (.value (if b = true then a.eval x else a.eval y)) w := by
  unfold execOp
  rw [ho]
  simp [hc, asBool]

theorem step_sound {β : Type} (hC : C.Ok) {K : AV κ → St κ → Option β} {r : β} (h : step C kindOf o s K = some r) : ∃ v s', K v s' = some r ∧ StepOk C o s v s' := by
  unfold step at h
  split at h
  · rename_i c x y ho
    split at h
    · rename_i b hc
      split at h
      · rename_i t
        have hbool : ∀ {a : Act} {w : World} {F : Nat → Option Obj} {φ : Nat → Option Pl}, Good C.E C.glob a w s F φ → a.tmps.getD t undef = .bool b := fun hg => val_inv (hc ▸ ev_rep hg (.tmp t))
        split at h
        · rename_i hb
          subst hb
          refine ⟨_, _, h, fun a w F φ hg next Q hn => ?_⟩
          have h1 := refine_good hg (hbool hg)
          exact wp_value (pick_run ho (hbool hg)) (hn _ w F φ h1 (by rw [if_pos rfl]; exact ev_rep h1 x) (Mv.refl _ _ _) fun t ht => by rw [ho] at ht; cases ht)
        · rename_i hb
          have hb' : b = false := by simpa using hb
          subst hb'
          refine ⟨_, _, h, fun a w F φ hg next Q hn => ?_⟩
          have h1 := refine_good hg (hbool hg)
          exact wp_value (pick_run ho (hbool hg)) (hn _ w F φ h1 (by rw [if_neg (by simp)]; exact ev_rep h1 y) (Mv.refl _ _ _) fun t ht => by rw [ho] at ht; cases ht)
      · have hbool : ∀ {a : Act} {w : World} {F : Nat → Option Obj} {φ : Nat → Option Pl}, Good C.E C.glob a w s F φ → a.eval c = .bool b := fun hg => val_inv (hc ▸ ev_rep hg c)
        split at h
        · rename_i hb
          subst hb
          refine ⟨_, _, h, fun a w F φ hg next Q hn => ?_⟩
          exact wp_value (pick_run ho (hbool hg)) (hn _ w F φ hg (by rw [if_pos rfl]; exact ev_rep hg x) (Mv.refl _ _ _) fun t ht => by rw [ho] at ht; cases ht)
        · rename_i hb
          have hb' : b = false := by simpa using hb
          subst hb'
          refine ⟨_, _, h, fun a w F φ hg next Q hn => ?_⟩
          exact wp_value (pick_run ho (hbool hg)) (hn _ w F φ hg (by rw [if_neg (by simp)]; exact ev_rep hg y) (Mv.refl _ _ _) fun t ht => by rw [ho] at ht; cases ht)
    · cases h
  · rename_i t x lo hi mx ho
    split at h
    · obtain ⟨v, s', h1, h2⟩ := loud_sound hC h
      exact ⟨v, s', h1, .of_loud (fun x hx => by rw [ho] at hx; cases hx) h2⟩
    · obtain ⟨v, h1, h2⟩ := quiet_sound hC.enc h
      exact ⟨v, s, h1, .of_quiet h2⟩
  · rename_i ho
    obtain ⟨v, s', h1, h2⟩ := loud_sound hC h
    exact ⟨v, s', h1, .of_loud (fun x hx => by rw [ho] at hx; cases hx) h2⟩
  · split at h
    · obtain ⟨v, h1, h2⟩ := quiet_sound hC.enc h
      exact ⟨v, s, h1, .of_quiet h2⟩
    · rename_i hq
      obtain ⟨v, s', h1, h2⟩ := loud_sound hC h
      exact ⟨v, s', h1, .of_loud (fun x hx => hq (by simp [isQuiet, hx])) h2⟩

theorem stepN_sound {β : Type} (hC : C.Ok) {b : Bool} {K : AV κ → St κ → Option β} {r : β} (h : stepN C kindOf b o s K = some r) : ∃ v s', K v s' = some r ∧ StepOk C o s v s' := by
  unfold stepN at h
  split at h
  · split at h
    · rename_i t p x ho
      obtain ⟨v, s1, h1, h2⟩ := step_sound hC h
      obtain ⟨z, s2, h3, h4⟩ := shut_sound hC.enc h1
      refine ⟨_, _, h3, fun a w F φ hg next Q hn => h2 a w F φ hg next Q fun u w' F' φ' k1 k2 k3 k4 => ?_⟩
      obtain ⟨F2, φ2, k5, k6, k7⟩ := h4 a w' F' φ' _ k1 (env_rep k1 p)
      refine hn u w' F2 φ2 ⟨k5.rel, fun t' v' hv => ?_, by simpa using k5.size, k5.defers, k5.al, k5.glob⟩ (.bot u) (k3.trans k7) k4
      rw [List.getElem?_set] at hv
      split at hv
      · rename_i hp
        subst hp
        split at hv
        · obtain rfl := Option.some.inj hv; exact k6
        · cases hv
      · exact k5.env t' v' hv
    · obtain ⟨v, s1, h1, h2⟩ := step_sound hC h
      obtain ⟨v', s2, h3, h4⟩ := shut_sound hC.enc h1
      refine ⟨v', s2, h3, fun a w F φ hg next Q hn => h2 a w F φ hg next Q fun u w' F' φ' k1 k2 k3 k4 => ?_⟩
      obtain ⟨F2, φ2, k5, k6, k7⟩ := h4 a w' F' φ' u k1 k2
      exact hn u w' F2 φ2 k5 k6 (k3.trans k7) k4
  · exact step_sound hC h

theorem get_bool (hg : Good C.E C.glob a w s F φ) {t : Nat} {b : Bool} (h : s.get t = .val (.bool b)) : a.tmps[t]? = some (.bool b) ∧ a.tmps.getD t undef = .bool b := by
  unfold St.get at h
  rw [List.getD_eq_getElem?_getD] at h
  cases ht : s.env[t]? with
  | none => rw [ht] at h; cases h
  | some v =>
    rw [ht] at h
    simp at h
    subst h
    have hlt : t < a.tmps.size := by rw [hg.size]; exact (List.getElem?_eq_some_iff.1 ht).1
    have := val_inv (hg.env t _ ht)
    refine ⟨?_, this⟩
    simp [hlt] at this ⊢
    exact this

/-- The temporaries that a piece of code may turn. -/
def dsts (l : List Oper) : List Nat := l.filterMap (·.dst)
def writes : Code → List Nat
  | .region _ ops _ => dsts ops.toList
  | .seq a b => writes a ++ writes b
  | .cond _ a b => writes a ++ writes b
  | .block _ c => writes c
  | .loop c => writes c
  | _ => []
/-- All other temporaries are as they were. -/
def KeepT (wr : List Nat) (a a' : Act) : Prop := ∀ t, t ∉ wr → a'.tmps.getD t undef = a.tmps.getD t undef
theorem KeepT.refl (wr : List Nat) (a : Act) : KeepT wr a a := fun _ _ => rfl
theorem KeepT.trans {wr : List Nat} {a b c : Act} (h : KeepT wr a b) (k : KeepT wr b c) : KeepT wr a c := fun t ht => (k t ht).trans (h t ht)
theorem KeepT.mono {wr wr' : List Nat} {a b : Act} (h : KeepT wr a b) (hs : ∀ t, t ∈ wr → t ∈ wr') : KeepT wr' a b := fun t ht => h t fun hm => ht (hs t hm)
theorem KeepT.put {l : List Oper} (a : Act) (u : Value) : KeepT (dsts (o :: l)) a (a.put o.dst u) := fun t ht => by
  unfold Act.put
  cases hd : o.dst with
  | none => rfl
  | some d =>
    have : d ≠ t := fun e => ht (by unfold dsts; rw [List.mem_filterMap]; exact ⟨o, List.mem_cons_self, by rw [hd, e]⟩)
    simp [Array.getD_eq_getD_getElem?, Array.getElem?_setIfInBounds, this]
theorem KeepT.tail {l : List Oper} {a b : Act} (h : KeepT (dsts l) a b) : KeepT (dsts (o :: l)) a b := h.mono fun t ht => by
  unfold dsts at *
  rw [List.mem_filterMap] at *
  obtain ⟨x, h1, h2⟩ := ht
  exact ⟨x, List.mem_cons_of_mem _ h1, h2⟩

theorem put_undef {o : Oper} {a : Act} {w : World} {s : St κ} {F : Nat → Option Obj} {φ : Nat → Option Pl} (hg : Good C.E C.glob a w s F φ) : Good C.E C.glob (a.put o.dst undef) w (s.put o (.val undef)) F φ := by
  have hg' : Good C.E C.glob (a.put o.dst undef) w (s.put { o with op := .ready 0 } (.val undef)) F φ := put_good (o := { o with op := .ready 0 }) hg (.val _) (fun t ht => by cases ht)
  have e : s.put o (.val undef) = s.put { o with op := .ready 0 } (.val undef) := by
    unfold St.put
    cases o.dst with
    | none => rfl
    | some d =>
      simp only
      congr 1
      split <;> simp [isBool, undef]
  rw [e]; exact hg'
theorem wanted_tup {ops : Array Oper} {o : Oper} {a : Act} {w : World} {s : St κ} {F : Nat → Option Obj} {φ : Nat → Option Pl} {j t : Nat} {want : Bool} {us : Array Value} (hg : Good C.E C.glob a w s F φ) (hgd : o.guard = some (j, want)) (ht : (ops[j]?).bind (·.dst) = some t) (hc : s.get t = .val (.tuple us)) : Region.wanted o (yielded ops a.tmps) = false := by
  have h1 : a.tmps.getD t undef = .tuple us := by
    have := env_rep hg t
    rw [show s.env.getD t AV.bot = _ from hc] at this
    exact val_inv this
  have h2 : yielded ops a.tmps j = none := by
    simp only [yielded, ht, Option.bind_some]
    cases hx : a.tmps[t]? with
    | none => rfl
    | some v =>
      have : v = .tuple us := by rw [← h1]; simp [Array.getD_eq_getD_getElem?, hx]
      subst this
      rfl
  simp [Region.wanted, hgd, h2]

theorem execL_sound {β : Type} (hC : C.Ok) {ops : Array Oper} {shut : List Nat} {r : β} : ∀ {l : List Oper} {i : Nat} {s : St κ} {K : St κ → Option β}, execL C kindOf ops shut i l s K = some r →
    ∃ s', K s' = some r ∧ ∀ (a : Act) (w : World) (F : Nat → Option Obj) (φ : Nat → Option Pl), Good C.E C.glob a w s F φ → ∀ Q : Exit → Act → World → Prop, (∀ a' w' F' φ', Good C.E C.glob a' w' s' F' φ' → Mv w F φ w' F' φ' → KeepT (dsts l) a a' → Q .normal a' w') → wpList C.P ops Q l a w
  | [], i, s, K, h => ⟨s, h, fun a w F φ hg Q hQ => hQ a w F φ hg (Mv.refl _ _ _) (KeepT.refl _ _)⟩
  | o :: l, i, s, K, h => by
    unfold execL at h
    split at h
    · rename_i hgd
      obtain ⟨v, s1, h1, h2⟩ := stepN_sound hC h
      obtain ⟨s2, h3, h4⟩ := execL_sound hC h1
      refine ⟨s2, h3, fun a w F φ hg Q hQ => ?_⟩
      unfold wpList
      rw [if_pos (by simp [Region.wanted, hgd])]
      refine .inl (h2 a w F φ hg _ _ fun u w' F' φ' k1 k2 k3 k4 => ?_)
      exact h4 _ w' F' φ' (put_good k1 k2 k4) Q fun a' w2 F2 φ2 k5 k6 k7 => hQ a' w2 F2 φ2 k5 (k3.trans k6) ((KeepT.put a u).trans k7.tail)
    · rename_i j want hgd
      split at h
      · cases h
      · rename_i t ht
        split at h
        · rename_i c hc
          have hy : ∀ {a : Act} {w : World} {F : Nat → Option Obj} {φ : Nat → Option Pl}, Good C.E C.glob a w s F φ → Region.wanted o (yielded ops a.tmps) = (c == want) := fun hg => by
            simp [Region.wanted, hgd, yielded, ht, (get_bool hg hc).1]
          split at h
          · rename_i hcw
            subst hcw
            obtain ⟨v, s1, h1, h2⟩ := stepN_sound hC h
            obtain ⟨s2, h3, h4⟩ := execL_sound hC h1
            refine ⟨s2, h3, fun a w F φ hg Q hQ => ?_⟩
            unfold wpList
            rw [if_pos (by rw [hy hg]; simp)]
            refine .inl (h2 a w F φ (refine_good hg (get_bool hg hc).2) _ _ fun u w' F' φ' k1 k2 k3 k4 => ?_)
            exact h4 _ w' F' φ' (put_good k1 k2 k4) Q fun a' w2 F2 φ2 k5 k6 k7 => hQ a' w2 F2 φ2 k5 (k3.trans k6) ((KeepT.put a u).trans k7.tail)
          · rename_i hcw
            obtain ⟨s2, h3, h4⟩ := execL_sound hC h
            refine ⟨s2, h3, fun a w F φ hg Q hQ => ?_⟩
            unfold wpList
            rw [if_neg (by rw [hy hg]; simpa using hcw)]
            have hcb : c = !want := by cases c <;> cases want <;> simp_all
            exact h4 _ w F φ (put_undef (refine_good hg (by rw [← hcb]; exact (get_bool hg hc).2))) Q fun a' w2 F2 φ2 k5 k6 k7 => hQ a' w2 F2 φ2 k5 k6 ((KeepT.put a undef).trans k7.tail)
        · rename_i us hc
          obtain ⟨s2, h3, h4⟩ := execL_sound hC h
          refine ⟨s2, h3, fun a w F φ hg Q hQ => ?_⟩
          unfold wpList
          rw [if_neg (by rw [wanted_tup hg hgd ht hc]; simp)]
          exact h4 _ w F φ (put_undef hg) Q fun a' w2 F2 φ2 k5 k6 k7 => hQ a' w2 F2 φ2 k5 k6 ((KeepT.put a undef).trans k7.tail)
        · cases h

/-! ### Where the order is open -/
def StepQOk (C : Ctx κ) (o : Oper) (s : St κ) (v : AV κ) (s' : St κ) : Prop :=
  ∀ (a : Act) (w : World) (F : Nat → Option Obj) (φ : Nat → Option Pl), Good C.E C.glob a w s F φ → ∃ u, Rep C.E F φ v u ∧ Good C.E C.glob a w s' F φ ∧ (∀ t, o.op = .move (.tmp t) → u = a.tmps.getD t undef) ∧
    ∀ w', Grow w w' → o.quietAt C.P a (Grow w) w' u
theorem StepQOk.of_quiet {v : AV κ} (h : QuietOk C o s v) : StepQOk C o s v s := fun a w F φ hg => by
  obtain ⟨u, h1, h2, h3, _⟩ := h a w F φ hg
  refine ⟨u, h1, hg, h2, fun w' hw => ?_⟩
  unfold Oper.quietAt
  rw [h3 w' hw.sub]
  exact ⟨rfl, rfl⟩
theorem StepQOk.of_run {v : AV κ} {u : Act → Value} (h : ∀ (a : Act) (w : World) (F : Nat → Option Obj) (φ : Nat → Option Pl), Good C.E C.glob a w s F φ → Good C.E C.glob a w s' F φ ∧ Rep C.E F φ v (u a) ∧ ∀ w', (execOp a.eval o).run C.P w' = .ok (.value (u a)) w') (hm : ∀ x, o.op ≠ .move x) : StepQOk C o s v s' := fun a w F φ hg => by
  obtain ⟨h1, h2, h3⟩ := h a w F φ hg
  refine ⟨u a, h2, h1, fun t ht => absurd ht (hm _), fun w' _ => ?_⟩
  unfold Oper.quietAt
  rw [h3 w']
  exact ⟨rfl, rfl⟩

theorem stepQ_sound {β : Type} (hC : C.Ok) {K : AV κ → St κ → Option β} {r : β} (h : stepQ C o s K = some r) : ∃ v s', K v s' = some r ∧ StepQOk C o s v s' := by
  unfold stepQ at h
  split at h
  · rename_i c x y ho
    have hnm : ∀ z, o.op ≠ .move z := fun z hz => by rw [ho] at hz; cases hz
    split at h
    · rename_i b hc
      split at h
      · rename_i t
        have hbool : ∀ {a : Act} {w : World} {F : Nat → Option Obj} {φ : Nat → Option Pl}, Good C.E C.glob a w s F φ → a.tmps.getD t undef = .bool b := fun hg => val_inv (hc ▸ ev_rep hg (.tmp t))
        split at h
        · rename_i hb
          subst hb
          refine ⟨_, _, h, .of_run (u := fun a => a.eval x) (fun a w F φ hg => ?_) hnm⟩
          have h1 := refine_good hg (hbool hg)
          exact ⟨h1, ev_rep h1 x, fun w' => by have := pick_run (P := C.P) (w := w') ho (hbool hg); simpa using this⟩
        · rename_i hb
          have hb' : b = false := by simpa using hb
          subst hb'
          refine ⟨_, _, h, .of_run (u := fun a => a.eval y) (fun a w F φ hg => ?_) hnm⟩
          have h1 := refine_good hg (hbool hg)
          exact ⟨h1, ev_rep h1 y, fun w' => by have := pick_run (P := C.P) (w := w') ho (hbool hg); simpa using this⟩
      · have hbool : ∀ {a : Act} {w : World} {F : Nat → Option Obj} {φ : Nat → Option Pl}, Good C.E C.glob a w s F φ → a.eval c = .bool b := fun hg => val_inv (hc ▸ ev_rep hg c)
        split at h
        · rename_i hb
          subst hb
          exact ⟨_, _, h, .of_run (u := fun a => a.eval x) (fun a w F φ hg => ⟨hg, ev_rep hg x, fun w' => by have := pick_run (P := C.P) (w := w') ho (hbool hg); simpa using this⟩) hnm⟩
        · rename_i hb
          have hb' : b = false := by simpa using hb
          subst hb'
          exact ⟨_, _, h, .of_run (u := fun a => a.eval y) (fun a w F φ hg => ⟨hg, ev_rep hg y, fun w' => by have := pick_run (P := C.P) (w := w') ho (hbool hg); simpa using this⟩) hnm⟩
    · cases h
  · rename_i f args ts ho
    split at h
    · rename_i fid caps hf
      obtain ⟨hent, v, u, hK, hrep, hcall⟩ := hC.gamq fid β _ _ _ _ h
      refine ⟨v, s, hK, fun a w F φ hg => ⟨u, hrep F φ, hg, fun t ht => (by rw [ho] at ht; cases ht), fun w' hw => ?_⟩⟩
      have hg' := hg.grow hw
      have hfr := ev_rep hg f
      rw [hf] at hfr
      generalize hz : a.eval f = z at hfr
      cases hfr with
      | fn _ _ us hl hr =>
        have hargs : Reps C.E F φ (args.toList.map (ev C s) ++ caps) (args.map a.eval ++ us).toList := by
          rw [Array.toList_append, Array.toList_map]
          exact (reps_map hg _).append ⟨by simpa using hl, fun j c u hc hu => hr j c u hc (by simpa using hu)⟩
        have hrun : (execOp a.eval o).run C.P w' = .ok (.enter fid (args.map a.eval ++ us)) w' := by
          unfold execOp
          simp only [ho, resolve, hz, Deferred.ofValue, Sem.run_bind, Sem.run_pure, Result.andThen_ok, invoke]
          simp only [Array.empty_append]
          exact hent _ w'
        unfold Oper.quietAt
        rw [hrun]
        exact ⟨rfl, (hcall w' F φ _ hg'.rel hg'.glob hargs).mono fun e w2 ⟨h1, h2⟩ => ⟨h1, hw.trans h2⟩⟩
    · cases h
  · obtain ⟨v, h1, h2⟩ := quiet_sound hC.enc h
    exact ⟨v, s, h1, .of_quiet h2⟩

theorem put_bot (hg : Good C.E C.glob a w s F φ) : Good C.E C.glob (a.put o.dst undef) w (s.put o .bot) F φ := by
  have hg' : Good C.E C.glob (a.put o.dst undef) w (s.put { o with op := .ready 0 } .bot) F φ := put_good (o := { o with op := .ready 0 }) hg (.bot _) (fun t ht => by cases ht)
  have e : s.put o .bot = s.put { o with op := .ready 0 } .bot := by
    unfold St.put
    cases o.dst with
    | none => rfl
    | some d =>
      simp only
      congr 1
      split <;> simp [isBool]
  rw [e]; exact hg'

theorem execQ_sound {β : Type} (hC : C.Ok) {ops : Array Oper} {r : β} : ∀ {l : List Oper} {s : St κ} {K : St κ → Option β}, execQ C ops l s K = some r →
    ∃ s', K s' = some r ∧ ∀ (a : Act) (w : World) (F : Nat → Option Obj) (φ : Nat → Option Pl), Good C.E C.glob a w s F φ → ∀ Q : Act → Prop, (∀ a', Good C.E C.glob a' w s' F φ → KeepT (dsts l) a a' → Q a') → wpQuiet C.P ops (Grow w) Q l a
  | [], s, K, h => ⟨s, h, fun a w F φ hg Q hQ => hQ a hg (KeepT.refl _ _)⟩
  | o :: l, s, K, h => by
    unfold execQ at h
    split at h
    · rename_i hgd
      obtain ⟨v, s1, h1, h2⟩ := stepQ_sound hC h
      obtain ⟨s2, h3, h4⟩ := execQ_sound hC h1
      refine ⟨s2, h3, fun a w F φ hg Q hQ => ?_⟩
      unfold wpQuiet
      rw [if_pos (by simp [Region.wanted, hgd])]
      obtain ⟨u, k1, k2, k3, k4⟩ := h2 a w F φ hg
      exact ⟨u, k4, h4 _ w F φ (put_good k2 k1 k3) Q fun a' k5 k6 => hQ a' k5 ((KeepT.put a u).trans k6.tail)⟩
    · rename_i j want hgd
      split at h
      · cases h
      · rename_i t ht
        split at h
        · rename_i c hc
          have hy : ∀ {a : Act} {w : World} {F : Nat → Option Obj} {φ : Nat → Option Pl}, Good C.E C.glob a w s F φ → Region.wanted o (yielded ops a.tmps) = (c == want) := fun hg => by
            simp [Region.wanted, hgd, yielded, ht, (get_bool hg hc).1]
          split at h
          · rename_i hcw
            subst hcw
            obtain ⟨v, s1, h1, h2⟩ := stepQ_sound hC h
            obtain ⟨s2, h3, h4⟩ := execQ_sound hC h1
            refine ⟨s2, h3, fun a w F φ hg Q hQ => ?_⟩
            unfold wpQuiet
            rw [if_pos (by rw [hy hg]; simp)]
            obtain ⟨u, k1, k2, k3, k4⟩ := h2 a w F φ (refine_good hg (get_bool hg hc).2)
            exact ⟨u, k4, h4 _ w F φ (put_good k2 k1 k3) Q fun a' k5 k6 => hQ a' k5 ((KeepT.put a u).trans k6.tail)⟩
          · rename_i hcw
            obtain ⟨s2, h3, h4⟩ := execQ_sound hC h
            refine ⟨s2, h3, fun a w F φ hg Q hQ => ?_⟩
            unfold wpQuiet
            rw [if_neg (by rw [hy hg]; simpa using hcw)]
            have hcb : c = !want := by cases c <;> cases want <;> simp_all
            exact h4 _ w F φ (put_undef (refine_good hg (by rw [← hcb]; exact (get_bool hg hc).2))) Q fun a' k5 k6 => hQ a' k5 ((KeepT.put a undef).trans k6.tail)
        · rename_i us hc
          obtain ⟨s2, h3, h4⟩ := execQ_sound hC h
          refine ⟨s2, h3, fun a w F φ hg Q hQ => ?_⟩
          unfold wpQuiet
          rw [if_neg (by rw [wanted_tup hg hgd ht hc]; simp)]
          exact h4 _ w F φ (put_undef hg) Q fun a' k5 k6 => hQ a' k5 ((KeepT.put a undef).trans k6.tail)
        · cases h

theorem Grow.drawn (w : World) : Grow w { w with drawn := w.drawn + 1 } := ⟨rfl, rfl, rfl, Nat.le_refl _, fun _ _ => rfl⟩

theorem execD_sound {β : Type} (hC : C.Ok) {r : β} {id : Nat} {ops : Array Oper} {n : Note} {s : St κ} {K : St κ → Option β} (h : execD C kindOf ops n s K = some r) :
    ∃ s', K s' = some r ∧ ∀ (a : Act) (w : World) (F : Nat → Option Obj) (φ : Nat → Option Pl), Good C.E C.glob a w s F φ → ∀ Q : Exit → Act → World → Prop,
      (∀ a' w' F' φ', Good C.E C.glob a' w' s' F' φ' → Mv w F φ w' F' φ' → KeepT (dsts ops.toList) a a' → Q .normal a' w') → (Code.region id ops true).wp C.P Q a w := by
  unfold execD at h
  split at h
  · split at h
    · rename_i hB
      obtain ⟨s', h1, h2⟩ := execQ_sound hC h
      refine ⟨s', h1, fun a w F φ hg Q hQ => ?_⟩
      refine wp_region_quiet (C := Grow w) hC.mix hB (Grow.drawn w) (h2 a w F φ hg _ fun a' k1 k2 w' hw => ?_)
      exact hQ a' w' F φ (k1.grow hw) hw.mv k2
    · cases h
  · split at h
    · rename_i hB
      obtain ⟨s1, h1, h2⟩ := execQ_sound hC h
      obtain ⟨s2, h3, h4⟩ := execL_sound hC h1
      refine ⟨s2, h3, fun a w F φ hg Q hQ => ?_⟩
      have e : ops = ops.toList.toArray := by simp
      rw [e]
      refine wp_quiet_tail (CW := Grow w) n.head hC.mix (by rw [← e]; exact hB) (Grow.drawn w) ?_
      rw [← e]
      refine h2 a w F φ hg _ fun a' k1 k2 w' hw => h4 a' w' F φ (k1.grow hw) Q fun a2 w2 F2 φ2 k3 k4 k5 => ?_
      refine hQ a2 w2 F2 φ2 k3 (hw.mv.trans k4) ((k2.mono fun t ht => ?_).trans (k5.mono fun t ht => ?_))
      · unfold dsts at *
        rw [List.mem_filterMap] at *
        obtain ⟨x, h5, h6⟩ := ht
        exact ⟨x, List.mem_of_mem_take h5, h6⟩
      · unfold dsts at *
        rw [List.mem_filterMap] at *
        obtain ⟨x, h5, h6⟩ := ht
        exact ⟨x, List.mem_of_mem_drop h5, h6⟩
    · cases h

def Tr (C : Ctx κ) (c : Code) (s : St κ) (x : Ex) (s' : St κ) : Prop :=
  ∀ (a : Act) (w : World) (F : Nat → Option Obj) (φ : Nat → Option Pl), Good C.E C.glob a w s F φ → ∀ Q : Exit → Act → World → Prop, (∀ a' w' F' φ', Good C.E C.glob a' w' s' F' φ' → Mv w F φ w' F' φ' → KeepT (writes c) a a' → Q x.to a' w') → c.wp C.P Q a w
def LamOk (C : Ctx κ) (lam : Lam κ) (c : Code) : Prop := ∀ (β : Type) (s : St κ) (K : Ex → St κ → Option β) (r : β), lam s K = some r → ∃ x s', K x s' = some r ∧ Tr C c s x s'

/-- The summaries that the notes name are those of the pieces that they stand at. -/
def Fits (C : Ctx κ) : Code → Note → Prop
  | .seq a b, n => match n with | .cut id => LamOk C (C.Λ id) (.seq a b) | n => Fits C a n.l ∧ Fits C b n.r
  | .cond c a b, n => match n with | .cut id => LamOk C (C.Λ id) (.cond c a b) | n => Fits C a n.l ∧ Fits C b n.r
  | .block id c, n => match n with | .cut i => LamOk C (C.Λ i) (.block id c) | n => Fits C c n.l
  | c, n => match n with | .cut id => LamOk C (C.Λ id) c | _ => True

theorem al_good (hg : Good C.E C.glob a w s F φ) : Good C.E C.glob a w { s with al := [] } F φ := ⟨hg.rel, hg.env, hg.size, hg.defers, fun p hp => by simp at hp, hg.glob⟩

theorem ev_bool (hg : Good C.E C.glob a w s F φ) {c : Operand} {b : Bool} (e : ev C s c = .val (.bool b)) : a.eval c = .bool b := val_inv (e ▸ ev_rep hg c)
theorem region_sound {β : Type} (hC : C.Ok) {r : β} {id : Nat} {ops : Array Oper} {draw : Bool} {n : Note} {s : St κ} {K : Ex → St κ → Option β}
    (h : (if draw = true then execD C kindOf ops n { s with al := [] } fun s' => K .normal s' else execL C kindOf ops n.shut 0 ops.toList { s with al := [] } fun s' => K .normal s') = some r) :
    ∃ x s', K x s' = some r ∧ Tr C (.region id ops draw) s x s' := by
  cases draw with
  | true =>
    obtain ⟨s', h1, h2⟩ := execD_sound (id := id) hC (by simpa using h)
    exact ⟨.normal, s', h1, fun a w F φ hg Q hQ => h2 a w F φ (al_good hg) Q fun a' w' F' φ' k1 k2 k3 => hQ a' w' F' φ' k1 k2 k3⟩
  | false =>
    obtain ⟨s', h1, h2⟩ := execL_sound hC (by simpa using h)
    exact ⟨.normal, s', h1, fun a w F φ hg Q hQ => wp_region_list (h2 a w F φ (al_good hg) Q fun a' w' F' φ' k1 k2 k3 => hQ a' w' F' φ' k1 k2 k3)⟩

theorem exec_sound {β : Type} (hC : C.Ok) {r : β} : ∀ {c : Code} {n : Note} {s : St κ} {K : Ex → St κ → Option β}, Fits C c n → exec C kindOf c n s K = some r → ∃ x s', K x s' = some r ∧ Tr C c s x s' := by
  intro c
  induction c with
  | skip =>
    intro n s K hf h
    cases n <;> first | exact ⟨.normal, s, h, fun a w F φ hg Q hQ => wp_skip (hQ a w F φ hg (Mv.refl _ _ _) (KeepT.refl _ _))⟩ | exact hf β s K r h
  | label l =>
    intro n s K hf h
    cases n <;> first | exact ⟨.normal, s, h, fun a w F φ hg Q hQ => wp_label (hQ a w F φ hg (Mv.refl _ _ _) (KeepT.refl _ _))⟩ | exact hf β s K r h
  | exit id =>
    intro n s K hf h
    cases n <;> first | exact ⟨.exit id, s, h, fun a w F φ hg Q hQ => wp_exit (hQ a w F φ hg (Mv.refl _ _ _) (KeepT.refl _ _))⟩ | exact hf β s K r h
  | ret =>
    intro n s K hf h
    cases n <;> first | exact ⟨.ret, s, h, fun a w F φ hg Q hQ => wp_ret (hQ a w F φ hg (Mv.refl _ _ _) (KeepT.refl _ _))⟩ | exact hf β s K r h
  | region id ops draw =>
    intro n s K hf h
    cases n <;> first | exact region_sound hC h | exact hf β s K r h
  | seq x y ihx ihy =>
    intro n s K hf h
    have main : Fits C x n.l → Fits C y n.r → (exec C kindOf x n.l s fun e s' => match e with | .normal => exec C kindOf y n.r s' K | e => K e s') = some r → ∃ e s', K e s' = some r ∧ Tr C (.seq x y) s e s' := by
      intro hfx hfy h
      obtain ⟨e, s1, h1, h2⟩ := ihx hfx h
      cases e with
      | normal =>
        obtain ⟨e', s2, h3, h4⟩ := ihy hfy h1
        refine ⟨e', s2, h3, fun a w F φ hg Q hQ => wp_seq (h2 a w F φ hg _ fun a' w' F' φ' k1 k2 k0 => ?_)⟩
        exact h4 a' w' F' φ' k1 Q fun a2 w2 F2 φ2 k3 k4 k5 => hQ a2 w2 F2 φ2 k3 (k2.trans k4) ((k0.mono fun t ht => List.mem_append_left _ ht).trans (k5.mono fun t ht => List.mem_append_right _ ht))
      | exit i => exact ⟨.exit i, s1, h1, fun a w F φ hg Q hQ => wp_seq (h2 a w F φ hg _ fun a' w' F' φ' k1 k2 k0 => hQ a' w' F' φ' k1 k2 (k0.mono fun t ht => List.mem_append_left _ ht))⟩
      | ret => exact ⟨.ret, s1, h1, fun a w F φ hg Q hQ => wp_seq (h2 a w F φ hg _ fun a' w' F' φ' k1 k2 k0 => hQ a' w' F' φ' k1 k2 (k0.mono fun t ht => List.mem_append_left _ ht))⟩
    cases n <;> first | exact main hf.1 hf.2 h | exact hf β s K r h
  | cond c x y ihx ihy =>
    intro n s K hf h
    cases n with
    | cut id => exact hf β s K r h
    | _ =>
      obtain ⟨hfx, hfy⟩ := hf
      simp only [exec] at h
      split at h
      · rename_i b hb
        split at h
        · rename_i t
          split at h
          · rename_i hbt
            subst hbt
            obtain ⟨e, s1, h1, h2⟩ := ihx hfx h
            exact ⟨e, s1, h1, fun a w F φ hg Q hQ => wp_cond_true (ev_bool hg hb) (h2 a w F φ (refine_good (al_good hg) (ev_bool hg hb)) Q fun a' w' F' φ' k1 k2 k0 => hQ a' w' F' φ' k1 k2 (k0.mono fun t ht => List.mem_append_left _ ht))⟩
          · rename_i hbt
            have hb' : b = false := by simpa using hbt
            subst hb'
            obtain ⟨e, s1, h1, h2⟩ := ihy hfy h
            exact ⟨e, s1, h1, fun a w F φ hg Q hQ => wp_cond_false (ev_bool hg hb) (h2 a w F φ (refine_good (al_good hg) (ev_bool hg hb)) Q fun a' w' F' φ' k1 k2 k0 => hQ a' w' F' φ' k1 k2 (k0.mono fun t ht => List.mem_append_right _ ht))⟩
        · split at h
          · rename_i hbt
            subst hbt
            obtain ⟨e, s1, h1, h2⟩ := ihx hfx h
            exact ⟨e, s1, h1, fun a w F φ hg Q hQ => wp_cond_true (ev_bool hg hb) (h2 a w F φ hg Q fun a' w' F' φ' k1 k2 k0 => hQ a' w' F' φ' k1 k2 (k0.mono fun t ht => List.mem_append_left _ ht))⟩
          · rename_i hbt
            have hb' : b = false := by simpa using hbt
            subst hb'
            obtain ⟨e, s1, h1, h2⟩ := ihy hfy h
            exact ⟨e, s1, h1, fun a w F φ hg Q hQ => wp_cond_false (ev_bool hg hb) (h2 a w F φ hg Q fun a' w' F' φ' k1 k2 k0 => hQ a' w' F' φ' k1 k2 (k0.mono fun t ht => List.mem_append_right _ ht))⟩
      · cases h
  | block id c ih =>
    intro n s K hf h
    have main : Fits C c n.l → (exec C kindOf c n.l s fun x s' => match x with
      | .exit j => if j = id then K .normal s' else K (.exit j) s'
      | x => K x s') = some r → ∃ e s', K e s' = some r ∧ Tr C (.block id c) s e s' := by
      intro hfc h
      obtain ⟨e, s1, h1, h2⟩ := ih hfc h
      cases e with
      | normal => exact ⟨.normal, s1, h1, fun a w F φ hg Q hQ => wp_block (h2 a w F φ hg _ fun a' w' F' φ' k1 k2 k0 => hQ a' w' F' φ' k1 k2 k0)⟩
      | ret => exact ⟨.ret, s1, h1, fun a w F φ hg Q hQ => wp_block (h2 a w F φ hg _ fun a' w' F' φ' k1 k2 k0 => hQ a' w' F' φ' k1 k2 k0)⟩
      | exit j =>
        simp only at h1
        split at h1
        · rename_i hj
          exact ⟨.normal, s1, h1, fun a w F φ hg Q hQ => wp_block (h2 a w F φ hg _ fun a' w' F' φ' k1 k2 k0 => by
            simp only [Ex.to, Exit.inBlock, if_pos hj]; exact hQ a' w' F' φ' k1 k2 k0)⟩
        · rename_i hj
          exact ⟨.exit j, s1, h1, fun a w F φ hg Q hQ => wp_block (h2 a w F φ hg _ fun a' w' F' φ' k1 k2 k0 => by
            simp only [Ex.to, Exit.inBlock, if_neg hj]; exact hQ a' w' F' φ' k1 k2 k0)⟩
    cases n <;> first | exact main hf h | exact hf β s K r h
  | loop c ih =>
    intro n s K hf h
    cases n <;> first | exact hf β s K r h | (simp [exec] at h)
  | _ => intro n s K hf h; simp [exec] at h
end
end Go.Am
end

section
namespace Go.Am
noncomputable section
open Go.RowKit
variable {κ : Kinds} {E : Encs κ} {F F' : Nat → Option Obj} {φ φ' : Nat → Option Pl} {P : Program} {C : Ctx κ} {a : Act} {w w' : World} {s s' : St κ}

mutual
def AV.ren (ρ : Nat → Option Nat) : AV κ → AV κ
  | .own k i => match ρ i with | some j => .own k j | none => .bot
  | .sub k i lo => match ρ i with | some j => .sub k j lo | none => .bot
  | .ptr i o => match ρ i with | some j => .ptr j o | none => .bot
  | .ptrE k i r c => match ρ i with | some j => .ptrE k j r c | none => .bot
  | .optr i => match ρ i with | some j => .optr j | none => .bot
  | .mp i => match ρ i with | some j => .mp j | none => .bot
  | .agg cs => .agg (renL ρ cs)
  | .tup cs => .tup (renL ρ cs)
  | .fn f cs => .fn f (renL ρ cs)
  | .rop cs => .rop (renL ρ cs)
  | v => v
def renL (ρ : Nat → Option Nat) : List (AV κ) → List (AV κ)
  | [] => []
  | c :: cs => c.ren ρ :: renL ρ cs
end
theorem renL_get (ρ : Nat → Option Nat) : ∀ (cs : List (AV κ)) (j : Nat), (renL ρ cs)[j]? = (cs[j]?).map (AV.ren ρ)
  | [], j => by simp [renL]
  | c :: cs, 0 => by simp [renL]
  | c :: cs, j + 1 => by simp [renL, renL_get ρ cs j]
theorem renL_length (ρ : Nat → Option Nat) : ∀ (cs : List (AV κ)), (renL ρ cs).length = cs.length
  | [] => rfl
  | c :: cs => by simp [renL, renL_length ρ cs]
theorem ren_flat (ρ : Nat → Option Nat) {c : AV κ} (h : c.flat = true) : c.ren ρ = c := by
  cases c <;> simp [AV.flat] at h <;> simp [AV.ren]

theorem renL_flat (ρ : Nat → Option Nat) : ∀ {cs : List (AV κ)}, (∀ c ∈ cs, c.flat = true) → renL ρ cs = cs
  | [], _ => rfl
  | c :: cs, h => by rw [renL, ren_flat ρ (h c List.mem_cons_self), renL_flat ρ fun c hc => h c (List.mem_cons_of_mem _ hc)]
theorem Rep.ren {ρ : Nat → Option Nat} (hφ : ∀ i j, ρ i = some j → φ' j = φ i) (hE : E.Ok) {v : AV κ} {u : Value} (h : Rep E F φ v u) : Rep E F φ' (v.ren ρ) u := by
  induction h with
  | bot u => exact .bot u
  | val v => exact .val v
  | agg cs us hl _ ih =>
    refine .agg _ us (by rw [renL_length]; exact hl) fun j c u hc hu => ?_
    rw [renL_get] at hc
    obtain ⟨c', hc', rfl⟩ := Option.map_eq_some_iff.1 hc
    exact ih j c' u hc' hu
  | tup cs us hl _ ih =>
    refine .tup _ us (by rw [renL_length]; exact hl) fun j c u hc hu => ?_
    rw [renL_get] at hc
    obtain ⟨c', hc', rfl⟩ := Option.map_eq_some_iff.1 hc
    exact ih j c' u hc' hu
  | ro k xs b off cap us hcap hc _ ih =>
    refine .ro k xs b off cap us hcap hc fun r x j c hx hj => ?_
    have := ih r x j c hx hj
    rwa [ren_flat ρ (hE.flat k x c (List.mem_of_getElem? hj))] at this
  | roNil k => exact .roNil k
  | roEmp k a cap => exact .roEmp k a cap
  | rop cs b off us hc _ ih =>
    refine .rop _ b off us (fun j hj => hc j (by rwa [renL_length] at hj)) fun j c hj => ?_
    rw [renL_get] at hj
    obtain ⟨c', hc', rfl⟩ := Option.map_eq_some_iff.1 hj
    exact ih j c' hc'
  | arr k xs u _ ih =>
    refine .arr k xs u ?_
    have : AV.ren ρ (.agg (xs.flatMap (E.enc k))) = .agg (xs.flatMap (E.enc k)) := by rw [AV.ren, renL_flat ρ (flats hE)]
    rwa [this] at ih
  | tab k xs b hx _ ih =>
    refine .tab k xs b hx ?_
    have : AV.ren ρ (.rop (xs.flatMap (E.enc k))) = .rop (xs.flatMap (E.enc k)) := by rw [AV.ren, renL_flat ρ (flats hE)]
    rwa [this] at ih
  | own k j p g h hg =>
    unfold AV.ren
    split
    · rename_i j' hj; exact .own k _ p g (by rw [hφ _ _ hj]; exact h) hg
    · exact .bot _
  | ownNil k j p h hg =>
    unfold AV.ren
    split
    · rename_i j' hj; exact .ownNil k _ p (by rw [hφ _ _ hj]; exact h) hg
    · exact .bot _
  | sub k j lo p ad cap h h0 hl ha =>
    unfold AV.ren
    split
    · rename_i j' hj; exact .sub k _ lo p ad cap (by rw [hφ _ _ hj]; exact h) h0 hl ha
    · exact .bot _
  | ptr j off p g h hg =>
    unfold AV.ren
    split
    · rename_i j' hj; exact .ptr _ off p g (by rw [hφ _ _ hj]; exact h) hg
    · exact .bot _
  | ptrE k j row col p g h hg hr =>
    unfold AV.ren
    split
    · rename_i j' hj; exact .ptrE k _ row col p g (by rw [hφ _ _ hj]; exact h) hg hr
    · exact .bot _
  | optrN j =>
    unfold AV.ren
    split
    · exact .optrN _
    · exact .bot _
  | optr j p g h hg =>
    unfold AV.ren
    split
    · rename_i j' hj; exact .optr _ p g (by rw [hφ _ _ hj]; exact h) hg
    · exact .bot _
  | mp j p g h hg =>
    unfold AV.ren
    split
    · rename_i j' hj; exact .mp _ p g (by rw [hφ _ _ hj]; exact h) hg
    · exact .bot _
  | fn f cs us hl _ ih =>
    refine .fn f _ us (by rw [renL_length]; exact hl) fun j c u hc hu => ?_
    rw [renL_get] at hc
    obtain ⟨c', hc', rfl⟩ := Option.map_eq_some_iff.1 hc
    exact ih j c' u hc' hu

def Blk.ren (ρ : Nat → Option Nat) : Blk κ → Blk κ
  | .raw t cs => .raw t (renL ρ cs)
  | b => b
theorem OwnB.ren (hE : E.Ok) {ρ : Nat → Option Nat} (hφ : ∀ i j, ρ i = some j → φ' j = φ i) {i j : Nat} {b : Blk κ} (hj : φ' j = φ i) (h : OwnB E F φ w i b) : OwnB E F φ' w j (b.ren ρ) := by
  cases b with
  | dead => exact hj.trans h
  | raw t cs =>
    obtain ⟨p, g, cur, h1, h2, h3, h4, h5⟩ := h
    refine ⟨p, g, cur, hj.trans h1, h2, h3, by rw [renL_length]; exact h4, fun j c u hc hu => ?_⟩
    rw [renL_get] at hc
    obtain ⟨c', hc', rfl⟩ := Option.map_eq_some_iff.1 hc
    exact (h5 j c' u hc' hu).ren hφ hE
  | rows k xs =>
    obtain ⟨p, h1, h2, hh⟩ := h
    refine ⟨p, hj.trans h1, h2, ?_⟩
    rcases hh with hh | ⟨g, cur, h3, h4, h5, h6, h7, h8⟩
    · exact .inl hh
    · refine .inr ⟨g, cur, h3, h4, h5, h6, h7, fun r x j c u hx hc hu => ?_⟩
      exact ((h8 r x j c u hx hc hu).flat hE (hE.flat k x c (List.mem_of_getElem? hc))).1
  | mp k xs =>
    obtain ⟨p, g, es, clock, h1, h2, h3, h4, h5, h6⟩ := h
    exact ⟨p, g, es, clock, hj.trans h1, h2, h3, h4, h5, fun r x e hx he => ⟨(h6 r x e hx he).1, (h6 r x e hx he).2.still hE (hE.still k x)⟩⟩

mutual
def AV.refs : AV κ → List Nat
  | .own _ i | .sub _ i _ | .ptr i _ | .ptrE _ i _ _ | .optr i | .mp i => [i]
  | .agg cs | .tup cs | .fn _ cs | .rop cs => refsL cs
  | _ => []
def refsL : List (AV κ) → List Nat
  | [] => []
  | c :: cs => c.refs ++ refsL cs
end
def nub (l : List Nat) : List Nat := l.foldl (fun acc i => if acc.contains i then acc else acc ++ [i]) []
theorem nub_nodup (l : List Nat) : (nub l).Nodup := by
  have : ∀ (l acc : List Nat), acc.Nodup → (l.foldl (fun acc i => if acc.contains i then acc else acc ++ [i]) acc).Nodup := by
    intro l
    induction l with
    | nil => exact fun _ h => h
    | cons i l ih =>
      intro acc h
      simp only [List.foldl_cons]
      refine ih _ ?_
      split
      · exact h
      · rename_i hc
        rw [List.nodup_append]
        refine ⟨h, by simp, fun x hx y hy => ?_⟩
        simp at hy
        subst hy
        intro e
        subst e
        exact hc (by simpa using hx)
  exact this l [] (by simp)
/-- The blocks that are named from these, those in them too (as deep as n). -/
def reach (S : List (Blk κ)) : Nat → List Nat → List Nat
  | 0, l => l
  | n + 1, l => reach S n (nub (l ++ l.flatMap fun i => match (S[i]? : Option (Blk κ)) with | some (Blk.raw _ cs) => refsL cs | _ => []))
def sels (S : List (Blk κ)) (l : List Nat) : List (Blk κ) := l.map fun i => (S[i]?).getD .dead
def pos (l : List Nat) (i : Nat) : Option Nat := if l.idxOf i < l.length then some (l.idxOf i) else none

/-- The blocks that these temporaries name. -/
def ids (m : Nat) (live : List Nat) (s : St κ) : List Nat := nub (reach s.S 3 (nub (List.range m ++ refsL (live.map s.get))))
/-- Only these temporaries stay, and what they name. -/
def gc (m : Nat) (live : List Nat) (s : St κ) : St κ :=
  let l := ids m live s
  { env := live.map fun t => (s.get t).ren (pos l), S := (sels s.S l).map (Blk.ren (pos l)), al := [] }

theorem pos_spec {l : List Nat} {i j : Nat} (h : pos l i = some j) : l[j]? = some i := by
  unfold pos at h
  split at h
  · rename_i hlt
    obtain rfl := Option.some.inj h
    rw [List.getElem?_eq_getElem hlt, List.getElem_idxOf hlt]
  · cases h

/-- A narrower view: some temporaries (their values in a row), the blocks that they name. -/
structure Seen (E : Encs κ) (vs : List (AV κ)) (us : List Value) (w : World) (S : List (Blk κ)) (F : Nat → Option Obj) (φ : Nat → Option Pl) : Prop where
  rel : Rel E F φ S w
  reps : Reps E F φ vs us

def selφ (φ : Nat → Option Pl) (l : List Nat) (n : Nat) : Nat → Option Pl := fun j => (l[j]?).bind fun i => if i < n then φ i else none

theorem gc_seen (hE : E.Ok) (hr : Rel E F φ s.S w) {m : Nat} {live : List Nat} {us : List Value} (h : Reps E F φ (live.map s.get) us) :
    Seen E (gc m live s).env us w (gc m live s).S F (selφ φ (ids m live s) s.S.length) ∧ Mv w F φ w F (selφ φ (ids m live s) s.S.length) := by
  let l := ids m live s
  have hl : l.Nodup := nub_nodup _
  have hφ : ∀ i j, pos l i = some j → selφ φ l s.S.length j = φ i := fun i j hij => by
    have := pos_spec hij
    simp only [selφ, this, Option.bind_some]
    split
    · rfl
    · rename_i hn; exact (hr.out i (by omega)).symm
  have inj : ∀ {i j : Nat} {p : Pl}, selφ φ l s.S.length i = some p → l[i]? = some j → φ j = some p := fun h1 h2 => by
    simp only [selφ, h2, Option.bind_some] at h1
    split at h1
    · exact h1
    · cases h1
  have get : ∀ {i : Nat} {p : Pl}, selφ φ l s.S.length i = some p → ∃ j, l[i]? = some j ∧ φ j = some p := fun {i p} h1 => by
    cases hi : l[i]? with
    | none => simp [selφ, hi] at h1
    | some j => exact ⟨j, rfl, inj h1 hi⟩
  refine ⟨⟨⟨hr.frz, fun i b hb => ?_, fun i hi => ?_, fun i j p q g h1 h2 h3 h4 => ?_, fun i p g h1 h2 => ?_, fun i p g h1 h2 => ?_⟩, ?_⟩, ?_⟩
  · simp only [gc, sels, List.getElem?_map] at hb
    obtain ⟨b1, hb1, rfl⟩ := Option.map_eq_some_iff.1 hb
    obtain ⟨i0, hi0, rfl⟩ := Option.map_eq_some_iff.1 hb1
    cases hS : s.S[i0]? with
    | none =>
      have hge : ¬ i0 < s.S.length := fun hlt => by rw [List.getElem?_eq_getElem hlt] at hS; cases hS
      show OwnB E F _ w i (Blk.ren _ .dead)
      show selφ φ l s.S.length i = none
      have : l[i]? = some i0 := hi0
      simp only [selφ, this, Option.bind_some, if_neg hge]
    | some b2 =>
      have hlt : i0 < s.S.length := (List.getElem?_eq_some_iff.1 hS).1
      have e : selφ φ l s.S.length i = φ i0 := by
        have : l[i]? = some i0 := hi0
        simp only [selφ, this, Option.bind_some, if_pos hlt]
      exact OwnB.ren hE hφ e (hr.blk i0 b2 hS)
  · simp only [gc, sels, List.length_map] at hi
    have : (ids m live s)[i]? = none := List.getElem?_eq_none hi
    simp [selφ, l, this]
  · obtain ⟨i', hi', h5⟩ := get h1
    obtain ⟨j', hj', h6⟩ := get h2
    have e := hr.inj i' j' p q g h5 h6 h3 h4
    subst e
    exact (List.getElem?_inj (List.getElem?_eq_some_iff.1 hi').1 hl).1 (hi'.trans hj'.symm)
  · obtain ⟨i', _, h5⟩ := get h1
    exact hr.apart i' p g h5 h2
  · obtain ⟨i', _, h5⟩ := get h1
    exact hr.lt i' p g h5 h2
  · refine ⟨by simp [gc, ← h.1], fun j c u hc hu => ?_⟩
    simp only [gc, List.getElem?_map] at hc
    obtain ⟨t, ht, rfl⟩ := Option.map_eq_some_iff.1 hc
    exact (h.2 j (s.get t) u (by simp [ht]) hu).ren hφ hE
  · refine ⟨rfl, rfl, rfl, Nat.le_refl _, fun _ _ _ => rfl, fun b hb _ => ?_, Le.refl F, fun b o h1 h2 => by rw [h2] at h1; cases h1⟩
    obtain ⟨i, p, h1, h2⟩ := hb
    obtain ⟨i', _, h5⟩ := get h1
    exact ⟨i', p, h5, h2⟩
end
end Go.Am
end

section
namespace Go.Am
noncomputable section
open Go.RowKit
variable {κ : Kinds} {E : Encs κ} {F F' : Nat → Option Obj} {φ φ' : Nat → Option Pl} {P : Program} {C : Ctx κ} {a : Act} {w w' : World} {s s' : St κ} {kindOf : TypeId → Option κ.Kc}

inductive Pat (κ : Kinds) where
  | any
  | int (k : IntKind)
  | bool
  | str
  | nilS
  | ro (k : κ.Kc)
  | own (k : κ.Kc) (i : Nat)
  | sub (k : κ.Kc) (i : Nat)
  | ptr (i off : Nat)
  | optr (i : Nat)
  | mp (i : Nat)
  | nilP
  | fn (f : FuncId) (ps : List (Pat κ))
  | agg (ps : List (Pat κ))
  | tup (ps : List (Pat κ))
  | rop (ps : List (Pat κ))
  | arr (k : κ.Kc)
  | tab (k : κ.Kc)

mutual
def Pat.den : Pat κ → Type
  | .int _ => Int
  | .bool => Bool
  | .str => ByteArray
  | .ro k => List (κ.ty k)
  | .sub _ _ => Int
  | .fn _ ps => dens ps
  | .agg ps => dens ps
  | .tup ps => dens ps
  | .rop ps => dens ps
  | .arr k => List (κ.ty k)
  | .tab k => List (κ.ty k)
  | _ => Unit
def dens : List (Pat κ) → Type
  | [] => Unit
  | p :: ps => p.den × dens ps
end

mutual
def Pat.get : (p : Pat κ) → AV κ → Option p.den
  | .any, _ => some ()
  | .int k, v => match v with | .val (.int k' n) => if k' = k then some n else none | _ => none
  | .bool, v => match v with | .val (.bool b) => some b | _ => none
  | .str, v => match v with | .val (.string b) => some b | _ => none
  | .nilS, v => match v with | .val (.slice none 0 0) => some () | _ => none
  | .ro k, v => match v with | .ro k' xs => if h : k' = k then some (h ▸ xs) else none | _ => none
  | .own k i, v => match v with | .own k' i' => if k' = k ∧ i' = i then some () else none | _ => none
  | .sub k i, v => match v with | .sub k' i' lo => if k' = k ∧ i' = i then some lo else none | _ => none
  | .ptr i off, v => match v with | .ptr i' off' => if i' = i ∧ off' = off then some () else none | _ => none
  | .nilP, v => match v with | .val (.pointer none) => some () | _ => none
  | .mp i, v => match v with | .mp i' => if i' = i then some () else none | _ => none
  | .optr i, v => match v with | .ptr i' 0 => if i' = i then some () else none | .val (.pointer none) => some () | .optr i' => if i' = i then some () else none | _ => none
  | .fn f ps, v => match v with | .fn g cs => if g = f then gets ps cs else none | _ => none
  | .agg ps, v => match v with | .agg cs => gets ps cs | _ => none
  | .tup ps, v => match v with | .tup cs => gets ps cs | _ => none
  | .rop ps, v => match v with | .rop cs => gets ps cs | _ => none
  | .arr k, v => match v with | .arr k' xs => if h : k' = k then some (h ▸ xs) else none | _ => none
  | .tab k, v => match v with | .tab k' xs => if h : k' = k then some (h ▸ xs) else none | _ => none
def gets : (ps : List (Pat κ)) → List (AV κ) → Option (dens ps)
  | [], cs => match cs with | [] => some () | _ => none
  | p :: ps, cs => match cs with
    | c :: cs => match p.get c, gets ps cs with
      | some x, some y => some (x, y)
      | _, _ => none
    | [] => none
end

mutual
def Pat.put : (p : Pat κ) → p.den → AV κ
  | .any, _ => .bot
  | .int k, n => .val (.int k n)
  | .bool, b => .val (.bool b)
  | .str, b => .val (.string b)
  | .nilS, _ => .val (.slice none 0 0)
  | .ro k, xs => .ro k xs
  | .own k i, _ => .own k i
  | .sub k i, lo => .sub k i lo
  | .ptr i off, _ => .ptr i off
  | .optr i, _ => .optr i
  | .mp i, _ => .mp i
  | .nilP, _ => .val (.pointer none)
  | .fn f ps, d => .fn f (puts ps d)
  | .agg ps, d => .agg (puts ps d)
  | .tup ps, d => .tup (puts ps d)
  | .rop ps, d => .rop (puts ps d)
  | .arr k, xs => .arr k xs
  | .tab k, xs => .tab k xs
def puts : (ps : List (Pat κ)) → dens ps → List (AV κ)
  | [], _ => []
  | p :: ps, d => p.put d.1 :: puts ps d.2
end

theorem ite_some {α : Type} {c : Prop} [Decidable c] {x : Option α} {d : α} (h : (if c then x else none) = some d) : c ∧ x = some d := by
  split at h
  · exact ⟨‹_›, h⟩
  · cases h
theorem fn_inv {f : FuncId} {cs : List (AV κ)} {u : Value} (h : Rep E F φ (.fn f cs) u) : ∃ us, u = .func (.func f) #[] us ∧ Reps E F φ cs us.toList := by
  cases h with
  | fn _ _ us hl hr => exact ⟨us, rfl, by simpa using hl, fun j c u hc hu => hr j c u hc (by simpa using hu)⟩
theorem agg_inv {cs : List (AV κ)} {u : Value} (h : Rep E F φ (.agg cs) u) : ∃ us, u = .agg us ∧ Reps E F φ cs us.toList := by
  cases h with
  | agg _ us hl hr => exact ⟨us, rfl, by simpa using hl, fun j c u hc hu => hr j c u hc (by simpa using hu)⟩
theorem tup_inv {cs : List (AV κ)} {u : Value} (h : Rep E F φ (.tup cs) u) : ∃ us, u = .tuple us ∧ Reps E F φ cs us.toList := by
  cases h with
  | tup _ us hl hr => exact ⟨us, rfl, by simpa using hl, fun j c u hc hu => hr j c u hc (by simpa using hu)⟩
theorem rop_inv {cs : List (AV κ)} {u : Value} (h : Rep E F φ (.rop cs) u) : ∃ (b off : Nat) (us : List Value), u = .pointer (some ⟨b, off, none⟩) ∧ Reps E F φ cs us ∧ ∀ (j : Nat) (v : Value), us[j]? = some v → FCell F b (off + j) = some v := by
  cases h with
  | rop _ b off us hc hr =>
    refine ⟨b, off, (List.range cs.length).map us, rfl, ⟨by simp, fun j c u hj hu => ?_⟩, fun j v hj => ?_⟩
    · have hlt := (List.getElem?_eq_some_iff.1 hj).1
      rw [List.getElem?_map, List.getElem?_range hlt] at hu
      obtain rfl := Option.some.inj hu
      exact hr j c hj
    · rw [List.getElem?_map] at hj
      obtain ⟨i, hi, rfl⟩ := Option.map_eq_some_iff.1 hj
      have hlt : j < cs.length := by have := (List.getElem?_eq_some_iff.1 hi).1; simpa using this
      rw [List.getElem?_range hlt] at hi
      obtain rfl := Option.some.inj hi
      exact hc j hlt
theorem fn_mk {f : FuncId} {cs : List (AV κ)} {us : Array Value} (h : Reps E F φ cs us.toList) : Rep E F φ (.fn f cs) (.func (.func f) #[] us) :=
  .fn _ _ us (by simpa using h.1) fun j c u hc hu => h.2 j c u hc (by simpa using hu)
theorem agg_mk {cs : List (AV κ)} {us : Array Value} (h : Reps E F φ cs us.toList) : Rep E F φ (.agg cs) (.agg us) :=
  .agg _ us (by simpa using h.1) fun j c u hc hu => h.2 j c u hc (by simpa using hu)
theorem tup_mk {cs : List (AV κ)} {us : Array Value} (h : Reps E F φ cs us.toList) : Rep E F φ (.tup cs) (.tuple us) :=
  .tup _ us (by simpa using h.1) fun j c u hc hu => h.2 j c u hc (by simpa using hu)
theorem rop_mk {cs : List (AV κ)} {b off : Nat} {us : List Value} (h : Reps E F φ cs us) (hc : ∀ (j : Nat) (v : Value), us[j]? = some v → FCell F b (off + j) = some v) : Rep E F φ (.rop cs) (.pointer (some ⟨b, off, none⟩)) :=
  .rop _ b off (fun j => us.getD j undef) (fun j hj => by
    have hlt : j < us.length := by rw [← h.1]; exact hj
    refine hc j _ ?_
    rw [List.getD_eq_getElem?_getD, List.getElem?_eq_getElem hlt]; rfl) fun j c hj => by
    have hlt : j < us.length := by rw [← h.1]; exact (List.getElem?_eq_some_iff.1 hj).1
    refine h.2 j c _ hj ?_
    rw [List.getD_eq_getElem?_getD, List.getElem?_eq_getElem hlt]; rfl
theorem ro_mk {k k' : κ.Kc} {xs : List (κ.ty k')} {d : List (κ.ty k)} {u : Value} (h : (if h : k' = k then some (h ▸ xs) else none : Option (List (κ.ty k))) = some d) (hr : Rep E F φ (.ro k' xs) u) : Rep E F φ (.ro k d) u := by
  split at h
  · rename_i hk
    subst hk
    obtain rfl := Option.some.inj h
    exact hr
  · cases h
theorem arr_mk {k k' : κ.Kc} {xs : List (κ.ty k')} {d : List (κ.ty k)} {u : Value} (h : (if h : k' = k then some (h ▸ xs) else none : Option (List (κ.ty k))) = some d) (hr : Rep E F φ (.arr k' xs) u) : Rep E F φ (.arr k d) u := by
  split at h
  · rename_i hk
    subst hk
    obtain rfl := Option.some.inj h
    exact hr
  · cases h
theorem tab_mk {k k' : κ.Kc} {xs : List (κ.ty k')} {d : List (κ.ty k)} {u : Value} (h : (if h : k' = k then some (h ▸ xs) else none : Option (List (κ.ty k))) = some d) (hr : Rep E F φ (.tab k' xs) u) : Rep E F φ (.tab k d) u := by
  split at h
  · rename_i hk
    subst hk
    obtain rfl := Option.some.inj h
    exact hr
  · cases h
theorem rows_mk {k k' : κ.Kc} {xs : List (κ.ty k')} {d : List (κ.ty k)} {i : Nat} (h : (if h : k' = k then some (h ▸ xs) else none : Option (List (κ.ty k))) = some d) (hr : OwnB E F φ w i (.rows k' xs)) : OwnB E F φ w i (.rows k d) := by
  split at h
  · rename_i hk
    subst hk
    obtain rfl := Option.some.inj h
    exact hr
  · cases h
theorem Reps.nil : Reps E F φ ([] : List (AV κ)) [] := ⟨rfl, fun j c u hc => by simp at hc⟩
theorem Reps.cons {c : AV κ} {cs : List (AV κ)} {u : Value} {us : List Value} (h : Rep E F φ c u) (k : Reps E F φ cs us) : Reps E F φ (c :: cs) (u :: us) := by
  refine ⟨by simp [k.1], fun j c' u' hc hu => ?_⟩
  cases j with
  | zero => simp at hc hu; subst hc; subst hu; exact h
  | succ j => simp at hc hu; exact k.2 j c' u' hc hu
theorem Reps.cons_inv {c : AV κ} {cs : List (AV κ)} {us : List Value} (h : Reps E F φ (c :: cs) us) : ∃ u us', us = u :: us' ∧ Rep E F φ c u ∧ Reps E F φ cs us' := by
  cases us with
  | nil => have := h.1; simp at this
  | cons u us => exact ⟨u, us, rfl, h.2 0 c u rfl rfl, by simpa using h.1, fun j c u hc hu => h.2 (j + 1) c u (by simpa using hc) (by simpa using hu)⟩
theorem Reps.nil_inv {us : List Value} (h : Reps E F φ ([] : List (AV κ)) us) : us = [] := by
  have := h.1
  simp at this
  exact List.eq_nil_of_length_eq_zero this.symm

set_option maxHeartbeats 1000000 in
mutual
theorem get_rep : ∀ (p : Pat κ) (v : AV κ) (d : p.den) (u : Value), p.get v = some d → Rep E F φ v u → Rep E F φ (p.put d) u
  | .any, _, _, u, _, _ => Rep.bot u
  | .int k, v, d, u, h, hr => by
    unfold Pat.get at h
    split at h
    · obtain ⟨rfl, h⟩ := ite_some h
      obtain rfl := Option.some.inj h
      exact hr
    · cases h
  | .bool, v, d, u, h, hr => by
    unfold Pat.get at h
    split at h
    · obtain rfl := Option.some.inj h; exact hr
    · cases h
  | .str, v, d, u, h, hr => by
    unfold Pat.get at h
    split at h
    · obtain rfl := Option.some.inj h; exact hr
    · cases h
  | .nilS, v, d, u, h, hr => by
    unfold Pat.get at h
    split at h
    · exact hr
    · cases h
  | .ro k, v, d, u, h, hr => by
    unfold Pat.get at h
    split at h
    · exact ro_mk h hr
    · cases h
  | .own k i, v, d, u, h, hr => by
    unfold Pat.get at h
    split at h
    · obtain ⟨⟨rfl, rfl⟩, h⟩ := ite_some h
      exact hr
    · cases h
  | .sub k i, v, d, u, h, hr => by
    unfold Pat.get at h
    split at h
    · obtain ⟨⟨rfl, rfl⟩, h⟩ := ite_some h
      obtain rfl := Option.some.inj h
      exact hr
    · cases h
  | .ptr i off, v, d, u, h, hr => by
    unfold Pat.get at h
    split at h
    · obtain ⟨⟨rfl, rfl⟩, h⟩ := ite_some h
      exact hr
    · cases h
  | .nilP, v, d, u, h, hr => by
    unfold Pat.get at h
    split at h
    · exact hr
    · cases h
  | .mp i, v, d, u, h, hr => by
    unfold Pat.get at h
    split at h
    · obtain ⟨rfl, h⟩ := ite_some h
      exact hr
    · cases h
  | .optr i, v, d, u, h, hr => by
    unfold Pat.get at h
    split at h
    · obtain ⟨rfl, h⟩ := ite_some h
      cases hr with
      | ptr _ _ p g h1 h2 => exact .optr _ p g h1 h2
    · cases hr; exact .optrN i
    · obtain ⟨rfl, h⟩ := ite_some h
      exact hr
    · cases h
  | .fn f ps, v, d, u, h, hr => by
    unfold Pat.get at h
    split at h
    · obtain ⟨rfl, h⟩ := ite_some h
      obtain ⟨us, rfl, hus⟩ := fn_inv hr
      exact fn_mk (gets_rep ps _ d _ h hus)
    · cases h
  | .agg ps, v, d, u, h, hr => by
    cases v with
    | agg cs =>
      obtain ⟨us, rfl, hus⟩ := agg_inv hr
      exact agg_mk (gets_rep ps _ d _ h hus)
    | _ => cases (show (none : Option (dens ps)) = some d from h)
  | .tup ps, v, d, u, h, hr => by
    cases v with
    | tup cs =>
      obtain ⟨us, rfl, hus⟩ := tup_inv hr
      exact tup_mk (gets_rep ps _ d _ h hus)
    | _ => cases (show (none : Option (dens ps)) = some d from h)
  | .rop ps, v, d, u, h, hr => by
    cases v with
    | rop cs =>
      obtain ⟨b, off, us, rfl, hus, hc⟩ := rop_inv hr
      exact rop_mk (gets_rep ps _ d _ h hus) hc
    | _ => cases (show (none : Option (dens ps)) = some d from h)
  | .arr k, v, d, u, h, hr => by
    unfold Pat.get at h
    split at h
    · exact arr_mk h hr
    · cases h
  | .tab k, v, d, u, h, hr => by
    unfold Pat.get at h
    split at h
    · exact tab_mk h hr
    · cases h
theorem gets_rep : ∀ (ps : List (Pat κ)) (cs : List (AV κ)) (d : dens ps) (us : List Value), gets ps cs = some d → Reps E F φ cs us → Reps E F φ (puts ps d) us
  | [], cs, d, us, h, hr => by
    unfold gets at h
    split at h
    · exact hr
    · cases h
  | p :: ps, cs, d, us, h, hr => by
    unfold gets at h
    split at h
    · split at h
      · rename_i x y hx hy
        obtain rfl := Option.some.inj h
        obtain ⟨u, us', rfl, h1, h2⟩ := hr.cons_inv
        exact Reps.cons (get_rep p _ x u hx h1) (gets_rep ps _ y us' hy h2)
      · cases h
    · cases h
end

inductive BPat (κ : Kinds) where
  | dead
  | raw (t : TypeId) (ps : List (Pat κ))
  | rows (k : κ.Kc)
  | mp (k : κ.Kc)
def BPat.den : BPat κ → Type
  | .dead => Unit
  | .raw _ ps => dens ps
  | .rows k => List (κ.ty k)
  | .mp k => List (κ.ty k)
def BPat.get : (p : BPat κ) → Blk κ → Option p.den
  | .dead, b => match b with | .dead => some () | _ => none
  | .raw t ps, b => match b with | .raw t' cs => if t' = t then gets ps cs else none | _ => none
  | .rows k, b => match b with | .rows k' xs => if h : k' = k then some (h ▸ xs) else none | _ => none
  | .mp k, b => match b with | .mp k' xs => if h : k' = k then some (h ▸ xs) else none | _ => none
def BPat.put : (p : BPat κ) → p.den → Blk κ
  | .dead, _ => .dead
  | .raw t ps, d => .raw t (puts ps d)
  | .rows k, xs => .rows k xs
  | .mp k, xs => .mp k xs
theorem mp_mk {k k' : κ.Kc} {xs : List (κ.ty k')} {d : List (κ.ty k)} {i : Nat} (h : (if h : k' = k then some (h ▸ xs) else none : Option (List (κ.ty k))) = some d) (ho : OwnB E F φ w i (.mp k' xs)) : OwnB E F φ w i (.mp k d) := by
  split at h
  · rename_i e
    subst e
    obtain rfl := Option.some.inj h
    exact ho
  · cases h
theorem getB_own : ∀ (p : BPat κ) (b : Blk κ) (d : p.den) (i : Nat), p.get b = some d → OwnB E F φ w i b → OwnB E F φ w i (p.put d)
  | .dead, b, d, i, h, ho => by
    cases b with
    | dead => exact ho
    | _ => cases (show (none : Option Unit) = some d from h)
  | .raw t ps, b, d, i, h, ho => by
    cases b with
    | raw t' cs =>
      obtain ⟨rfl, h⟩ := ite_some (show (if t' = t then gets ps cs else none) = some d from h)
      obtain ⟨p, g, cur, h1, h2, h3, h4, h5⟩ := ho
      obtain ⟨h6, h7⟩ := gets_rep ps _ d cur.toList h ⟨by simpa using h4.symm, fun j c u hc hu => h5 j c u hc (by simpa using hu)⟩
      exact ⟨p, g, cur, h1, h2, h3, by simpa using h6.symm, fun j c u hc hu => h7 j c u hc (by simpa using hu)⟩
    | _ => cases (show (none : Option (dens ps)) = some d from h)
  | .rows k, b, d, i, h, ho => by
    cases b with
    | rows k' xs => exact rows_mk (d := d) h ho
    | _ => cases (show (none : Option (List (κ.ty k))) = some d from h)
  | .mp k, b, d, i, h, ho => by
    cases b with
    | mp k' xs => exact mp_mk (d := d) h ho
    | _ => cases (show (none : Option (List (κ.ty k))) = some d from h)
def densB : List (BPat κ) → Type
  | [] => Unit
  | p :: ps => p.den × densB ps
def getsB : (ps : List (BPat κ)) → List (Blk κ) → Option (densB ps)
  | [], bs => match bs with | [] => some () | _ => none
  | p :: ps, bs => match bs with
    | b :: bs => match p.get b, getsB ps bs with
      | some x, some y => some (x, y)
      | _, _ => none
    | [] => none
def putsB : (ps : List (BPat κ)) → densB ps → List (Blk κ)
  | [], _ => []
  | p :: ps, d => p.put d.1 :: putsB ps d.2
theorem getsB_own : ∀ (ps : List (BPat κ)) (bs : List (Blk κ)) (d : densB ps), getsB ps bs = some d → (putsB ps d).length = bs.length ∧ ∀ (n : Nat), (∀ i b, bs[i]? = some b → OwnB E F φ w (n + i) b) → ∀ i b, (putsB ps d)[i]? = some b → OwnB E F φ w (n + i) b
  | [], bs, d, h => by
    simp only [getsB] at h
    split at h
    · exact ⟨rfl, fun n _ i b hb => by simp [putsB] at hb⟩
    · cases h
  | p :: ps, bs, d, h => by
    simp only [getsB] at h
    split at h
    · rename_i b bs
      split at h
      · rename_i x y hx hy
        obtain rfl := Option.some.inj h
        obtain ⟨h1, h2⟩ := getsB_own ps bs y hy
        refine ⟨by simp [putsB, h1], fun n hn i b' hb => ?_⟩
        cases i with
        | zero => simp [putsB] at hb; subst hb; exact getB_own p b x n hx (hn 0 b rfl)
        | succ i =>
          simp [putsB] at hb
          have := h2 (n + 1) (fun i b hb => by have := hn (i + 1) b (by simpa using hb); rwa [show n + 1 + i = n + (i + 1) by omega]) i b' hb
          rwa [show n + 1 + i = n + (i + 1) by omega] at this
      · cases h
    · cases h

structure Sh (κ : Kinds) where
  keep : Nat
  live : List Nat
  env : List (Pat κ)
  blks : List (BPat κ)
abbrev Sh.den (sh : Sh κ) : Type := dens sh.env × densB sh.blks
def ext (sh : Sh κ) (s : St κ) : Option sh.den :=
  match gets sh.env s.env, getsB sh.blks s.S with
  | some x, some y => some (x, y)
  | _, _ => none
def setEach {α : Type} : List α → List Nat → List α → List α
  | e, t :: ts, v :: vs => setEach (e.set t v) ts vs
  | e, _, _ => e
def can (N : Nat) (sh : Sh κ) (d : sh.den) : St κ :=
  { env := setEach (List.replicate N .bot) sh.live (puts sh.env d.1), S := putsB sh.blks d.2, al := [] }

theorem setEach_length {α : Type} : ∀ (ts : List Nat) (e vs : List α), (setEach e ts vs).length = e.length
  | [], e, vs => by cases vs <;> simp [setEach]
  | t :: ts, e, [] => by simp [setEach]
  | t :: ts, e, v :: vs => by simp [setEach, setEach_length ts]
theorem setEach_get {α : Type} : ∀ (ts : List Nat) (e vs : List α) (t : Nat) (v : α), ts.length ≤ vs.length → (setEach e ts vs)[t]? = some v → (∃ j : Nat, ts[j]? = some t ∧ vs[j]? = some v) ∨ (t ∉ ts ∧ e[t]? = some v)
  | [], e, vs, t, v, _, h => by cases vs <;> exact .inr ⟨by simp, by simpa [setEach] using h⟩
  | x :: ts, e, [], t, v, hl, h => by simp at hl
  | x :: ts, e, z :: vs, t, v, hl, h => by
    simp only [setEach] at h
    rcases setEach_get ts (e.set x z) vs t v (by simpa using hl) h with ⟨j, h1, h2⟩ | ⟨h0, h1⟩
    · exact .inl ⟨j + 1, by simpa using h1, by simpa using h2⟩
    · rw [List.getElem?_set] at h1
      split at h1
      · rename_i hx
        subst hx
        split at h1
        · obtain rfl := Option.some.inj h1
          exact .inl ⟨0, rfl, rfl⟩
        · cases h1
      · rename_i hx
        exact .inr ⟨by simp [h0, Ne.symm hx], h1⟩

theorem ext_seen {sh : Sh κ} {d : sh.den} {us : List Value} (h : ext sh s = some d) (hs : Seen E s.env us w s.S F φ) : Reps E F φ (puts sh.env d.1) us ∧ Rel E F φ (putsB sh.blks d.2) w := by
  unfold ext at h
  split at h
  · rename_i x y hx hy
    obtain rfl := Option.some.inj h
    refine ⟨gets_rep _ _ _ _ hx hs.reps, ?_⟩
    obtain ⟨h1, h2⟩ := getsB_own (E := E) (F := F) (φ := φ) (w := w) _ _ _ hy
    exact ⟨hs.rel.frz, fun i b hb => by have := h2 0 (fun i b hb => by rw [Nat.zero_add]; exact hs.rel.blk i b hb) i b hb; rwa [Nat.zero_add] at this, fun i hi => hs.rel.out i (by rw [← h1]; exact hi), hs.rel.inj, hs.rel.apart, hs.rel.lt⟩
  · cases h

/-- What a shape shows of a state. -/
structure Shown (C : Ctx κ) (a : Act) (w : World) (sh : Sh κ) (d : sh.den) (F : Nat → Option Obj) (φ : Nat → Option Pl) : Prop where
  rel : Rel C.E F φ (putsB sh.blks d.2) w
  reps : Reps C.E F φ (puts sh.env d.1) (sh.live.map fun t => a.tmps.getD t undef)
  defers : a.defers = []
  glob : ∀ (g : Nat) (ψ : Nat → Option Pl), Rep C.E F ψ (C.glob g) (.pointer (some ⟨g, 0, none⟩))

theorem shown_of (hE : C.E.Ok) (hg : Good C.E C.glob a w s F φ) {sh : Sh κ} {d : sh.den} (h : ext sh (gc sh.keep sh.live s) = some d) : Shown C a w sh d F (selφ φ (ids sh.keep sh.live s) s.S.length) ∧ Mv w F φ w F (selφ φ (ids sh.keep sh.live s) s.S.length) := by
  obtain ⟨h1, h2⟩ := gc_seen hE hg.rel (m := sh.keep) (live := sh.live) (us := sh.live.map fun t => a.tmps.getD t undef) ⟨by simp, fun j c u hc hu => by
    rw [List.getElem?_map] at hc hu
    cases hj : sh.live[j]? with
    | none => rw [hj] at hc; cases hc
    | some t =>
      rw [hj] at hc hu
      obtain rfl := Option.some.inj hc
      obtain rfl := Option.some.inj hu
      exact env_rep hg t⟩
  obtain ⟨h3, h4⟩ := ext_seen h h1
  exact ⟨⟨h4, h3, hg.defers, hg.glob⟩, h2⟩

theorem Shown.good {sh : Sh κ} {d : sh.den} {N : Nat} (h : Shown C a w sh d F φ) (hN : a.tmps.size = N) : Good C.E C.glob a w (can N sh d) F φ := by
  refine ⟨h.rel, fun t v hv => ?_, ?_, h.defers, fun p hp => by simp [can] at hp, h.glob⟩
  · simp only [can] at hv
    rcases setEach_get _ _ _ _ _ (by rw [h.reps.1]; simp) hv with ⟨j, h5, h6⟩ | ⟨_, h5⟩
    · exact h.reps.2 j v _ h6 (by rw [List.getElem?_map, h5]; rfl)
    · rw [List.getElem?_replicate] at h5
      split at h5
      · obtain rfl := Option.some.inj h5; exact .bot _
      · cases h5
  · simp only [can, setEach_length, List.length_replicate, hN]

/-- The state behind a piece: temporaries that it writes are as its shape shows, all others as they were; blocks that it was given are as it left them, all others as they were. -/
def post (s : St κ) (l : List Nat) (wr : List Nat) (sh : Sh κ) (d : sh.den) : St κ :=
  let n := s.S.length
  let ρ : Nat → Option Nat := fun j => if j < l.length then l[j]? else some (j - l.length + n)
  let bs := (putsB sh.blks d.2).map (Blk.ren ρ)
  if l.isEmpty then { env := setEach (setAll .bot wr s.env) sh.live (renL ρ (puts sh.env d.1)), S := s.S ++ bs, al := [] }
  else
    let k : Nat → Option Nat := fun i => if i < n ∧ l.contains i = false then some i else none
    { env := setEach (setAll .bot wr (renL k s.env)) sh.live (renL ρ (puts sh.env d.1)), S := setEach (s.S.map (Blk.ren k)) l (bs.take l.length) ++ bs.drop l.length, al := [] }

def postφ (φ φ' : Nat → Option Pl) (l : List Nat) (n : Nat) : Nat → Option Pl := fun i =>
  if l.contains i then φ' (l.idxOf i) else if i < n then φ i else φ' (i - n + l.length)

theorem post_good (hE : C.E.Ok) {a' : Act} (hg : Good C.E C.glob a w s F φ) {l wr : List Nat} {sh : Sh κ} {d : sh.den} (hl : l.Nodup) (hln : ∀ i ∈ l, i < s.S.length) (hlb : l.length ≤ sh.blks.length)
    (hs : Shown C a' w' sh d F' φ') (hm : Mv w F (selφ φ l s.S.length) w' F' φ') (hk : KeepT wr a a') (hN : a'.tmps.size = a.tmps.size) : Good C.E C.glob a' w' (post s l wr sh d) F' (postφ φ φ' l s.S.length) ∧ Mv w F φ w' F' (postφ φ φ' l s.S.length) := by
  -- numbers
  let n := s.S.length
  let ρ : Nat → Option Nat := fun j => if j < l.length then l[j]? else some (j - l.length + n)
  let k : Nat → Option Nat := fun i => if i < n ∧ l.contains i = false then some i else none
  have hρ : ∀ i j, ρ i = some j → postφ φ φ' l n j = φ' i := fun i j h => by
    simp only [ρ] at h
    by_cases hi : i < l.length
    · rw [if_pos hi] at h
      have hm : j ∈ l := List.mem_of_getElem? h
      have hidx : l.idxOf j = i := by
        have h1 : l[l.idxOf j]? = some j := by
          rw [List.getElem?_eq_getElem (List.idxOf_lt_length_iff.2 hm), List.getElem_idxOf]
        exact (List.getElem?_inj (List.idxOf_lt_length_iff.2 hm) hl).1 (h1.trans h.symm)
      simp only [postφ, List.contains_iff_mem.2 hm, if_true, hidx]
    · rw [if_neg hi] at h
      obtain rfl := Option.some.inj h
      have hnm : l.contains (i - l.length + n) = false := by
        rw [Bool.eq_false_iff]
        intro hc
        have := hln _ (List.contains_iff_mem.1 hc)
        omega
      simp only [postφ, hnm, Bool.false_eq_true, if_false]
      rw [if_neg (by omega)]
      congr 1
      omega
  have hkφ : ∀ i j, k i = some j → postφ φ φ' l n j = φ i := fun i j h => by
    simp only [k] at h
    split at h
    · rename_i hc
      obtain rfl := Option.some.inj h
      simp only [postφ, hc.2, Bool.false_eq_true, if_false, if_pos hc.1]
    · cases h
  have inv : ∀ {i : Nat} {p : Pl}, postφ φ φ' l n i = some p → (∃ j, l[j]? = some i ∧ φ' j = some p ∧ j < l.length) ∨ (i ∉ l ∧ i < n ∧ φ i = some p) ∨ (i ∉ l ∧ n ≤ i ∧ φ' (i - n + l.length) = some p) := fun {i p} h => by
    simp only [postφ] at h
    split at h
    · rename_i hc
      have hm := List.contains_iff_mem.1 hc
      exact .inl ⟨l.idxOf i, by rw [List.getElem?_eq_getElem (List.idxOf_lt_length_iff.2 hm), List.getElem_idxOf], h, List.idxOf_lt_length_iff.2 hm⟩
    · rename_i hc
      have hnm : i ∉ l := fun hm => hc (List.contains_iff_mem.2 hm)
      split at h
      · rename_i hi; exact .inr (.inl ⟨hnm, hi, h⟩)
      · rename_i hi; exact .inr (.inr ⟨hnm, by omega, h⟩)
  have sel : ∀ {j i : Nat}, l[j]? = some i → selφ φ l n j = φ i := fun {j i} h => by
    simp only [selφ, h, Option.bind_some]
    rw [if_pos (hln i (List.mem_of_getElem? h))]
  -- what is not given stays
  have apartHeld : ∀ {i : Nat} {p : Pl} {g : Nat}, i ∉ l → φ i = some p → p.g = some g → ¬ Held (selφ φ l n) g := fun {i p g} hi h1 h2 => by
    rintro ⟨j, q, h3, h4⟩
    cases hj : l[j]? with
    | none => simp [selφ, hj] at h3
    | some i' =>
      rw [sel hj] at h3
      have := hg.rel.inj i i' p q g h1 h3 h2 h4
      subst this
      exact hi (List.mem_of_getElem? hj)
  have keepHeap : ∀ {i : Nat} {p : Pl} {g : Nat} {ob : Obj}, i ∉ l → φ i = some p → p.g = some g → w.heap[g]? = some ob → w'.heap[g]? = some ob := fun {i p g ob} hi h1 h2 h3 => by
    rw [hm.keep g (hg.rel.lt i p g h1 h2) (apartHeld hi h1 h2)]; exact h3
  -- a new block is none of the kept
  have newNe : ∀ {j : Nat} {q : Pl} {i : Nat} {p : Pl} {g : Nat}, φ' j = some q → q.g = some g → i ∉ l → φ i = some p → p.g = some g → False := fun {j q i p g} h1 h2 hi h3 h4 =>
    apartHeld hi h3 h4 (hm.held g ⟨j, q, h1, h2⟩ (hg.rel.lt i p g h3 h4))
  have hlen : (putsB sh.blks d.2).length = sh.blks.length := by
    have : ∀ (ps : List (BPat κ)) (d : densB ps), (putsB ps d).length = ps.length := by
      intro ps
      induction ps with
      | nil => intro d; rfl
      | cons p ps ih => intro d; simp only [putsB, List.length_cons]; rw [ih d.2]
    exact this _ _
  have idx : ∀ {j i : Nat}, l[j]? = some i → postφ φ φ' l n i = φ' j := fun {j i} h => hρ j i (by
    have hj : j < l.length := (List.getElem?_eq_some_iff.1 h).1
    simp only [ρ, if_pos hj]; exact h)
  -- the blocks, told once for both forms
  have blkOk : ∀ (i : Nat) (b : Blk κ), (setEach (s.S.map (Blk.ren k)) l (((putsB sh.blks d.2).map (Blk.ren ρ)).take l.length) ++ ((putsB sh.blks d.2).map (Blk.ren ρ)).drop l.length)[i]? = some b → OwnB C.E F' (postφ φ φ' l n) w' i b := by
    intro i b hb
    have hn' : (setEach (s.S.map (Blk.ren k)) l (((putsB sh.blks d.2).map (Blk.ren ρ)).take l.length)).length = n := by rw [setEach_length]; simp [n]
    by_cases hi : i < n
    · rw [List.getElem?_append_left (by rw [hn']; exact hi)] at hb
      rcases setEach_get _ _ _ _ _ (by simp [hlen]; omega) hb with ⟨j, h1, h2⟩ | ⟨h1, h2⟩
      · rw [List.getElem?_take] at h2
        split at h2
        · rw [List.getElem?_map] at h2
          obtain ⟨b', hb', rfl⟩ := Option.map_eq_some_iff.1 h2
          exact OwnB.ren hE hρ (idx h1) (hs.rel.blk j b' hb')
        · cases h2
      · rw [List.getElem?_map] at h2
        obtain ⟨b', hb', rfl⟩ := Option.map_eq_some_iff.1 h2
        have hc : l.contains i = false := by
          rw [Bool.eq_false_iff]; intro hc; exact h1 (List.contains_iff_mem.1 hc)
        have e : postφ φ φ' l n i = φ i := hkφ i i (by simp only [k]; rw [if_pos ⟨hi, hc⟩])
        have h0 := (hg.rel.blk i b' hb').mono hm.le
        -- the cells are as they were
        have h0' : OwnB C.E F' φ w' i b' := by
          cases b' with
          | dead => exact h0
          | raw t cs =>
            obtain ⟨p, g, cur, h3, h4, h5, h6, h7⟩ := h0
            exact ⟨p, g, cur, h3, h4, keepHeap h1 h3 h4 h5, h6, h7⟩
          | rows kk xs =>
            obtain ⟨p, h3, h4, hh⟩ := h0
            refine ⟨p, h3, h4, ?_⟩
            rcases hh with hh | ⟨g, cur, h5, h6, h7⟩
            · exact .inl hh
            · exact .inr ⟨g, cur, h5, keepHeap h1 h3 h5 h6, h7⟩
          | mp kk xs =>
            obtain ⟨p, g, es, clock, h3, h4, h5, h6⟩ := h0
            exact ⟨p, g, es, clock, h3, h4, keepHeap h1 h3 h4 h5, h6⟩
        exact OwnB.ren hE hkφ e h0'
    · rw [List.getElem?_append_right (by rw [hn']; omega), hn', List.getElem?_drop, List.getElem?_map] at hb
      obtain ⟨b', hb', rfl⟩ := Option.map_eq_some_iff.1 hb
      refine OwnB.ren hE hρ ?_ (hs.rel.blk _ b' hb')
      have := hρ (l.length + (i - n)) i (by simp only [ρ]; rw [if_neg (by omega)]; congr 1; omega)
      exact this
  have relOk : ∀ S', S'.length = n + (sh.blks.length - l.length) → (∀ (i : Nat) (b : Blk κ), S'[i]? = some b → OwnB C.E F' (postφ φ φ' l n) w' i b) → Rel C.E F' (postφ φ φ' l n) S' w' := by
    intro S' hS' hb
    refine ⟨hs.rel.frz, hb, fun i hi => ?_, fun i j p q g h1 h2 h3 h4 => ?_, fun i p g h1 h2 => ?_, fun i p g h1 h2 => ?_⟩
    · cases hp : postφ φ φ' l n i with
      | none => rfl
      | some p =>
        rcases inv hp with ⟨j, h1, _, _⟩ | ⟨_, h1, _⟩ | ⟨_, h1, h2⟩
        · have := hln i (List.mem_of_getElem? h1); omega
        · omega
        · rw [hs.rel.out _ (by rw [hlen]; omega)] at h2; cases h2
    · rcases inv h1 with ⟨i', a1, a2, a3⟩ | ⟨a1, a2, a3⟩ | ⟨a1, a2, a3⟩
      · rcases inv h2 with ⟨j', b1, b2, b3⟩ | ⟨b1, b2, b3⟩ | ⟨b1, b2, b3⟩
        · have := hs.rel.inj i' j' p q g a2 b2 h3 h4
          subst this
          exact Option.some.inj (a1.symm.trans b1)
        · exact (newNe a2 h3 b1 b3 h4).elim
        · have := hs.rel.inj i' _ p q g a2 b3 h3 h4; omega
      · rcases inv h2 with ⟨j', b1, b2, b3⟩ | ⟨b1, b2, b3⟩ | ⟨b1, b2, b3⟩
        · exact (newNe b2 h4 a1 a3 h3).elim
        · exact hg.rel.inj i j p q g a3 b3 h3 h4
        · exact (newNe b3 h4 a1 a3 h3).elim
      · rcases inv h2 with ⟨j', b1, b2, b3⟩ | ⟨b1, b2, b3⟩ | ⟨b1, b2, b3⟩
        · have := hs.rel.inj _ j' p q g a3 b2 h3 h4; omega
        · exact (newNe a3 h3 b1 b3 h4).elim
        · have := hs.rel.inj _ _ p q g a3 b3 h3 h4; omega
    · rcases inv h1 with ⟨i', a1, a2, a3⟩ | ⟨a1, a2, a3⟩ | ⟨a1, a2, a3⟩
      · exact hs.rel.apart i' p g a2 h2
      · cases hF : F' g with
        | none => rfl
        | some o =>
          rcases hm.new g o hF (hg.rel.apart i p g a3 h2) with h5 | h5
          · have := hg.rel.lt i p g a3 h2; omega
          · exact (apartHeld a1 a3 h2 h5).elim
      · exact hs.rel.apart _ p g a3 h2
    · rcases inv h1 with ⟨i', a1, a2, a3⟩ | ⟨a1, a2, a3⟩ | ⟨a1, a2, a3⟩
      · exact hs.rel.lt i' p g a2 h2
      · have := hg.rel.lt i p g a3 h2; have := hm.size; omega
      · exact hs.rel.lt _ p g a3 h2
  have renLen : (renL ρ (puts sh.env d.1)).length = sh.live.length := by rw [renL_length, hs.reps.1]; simp
  have envOk : ∀ (e : List (AV κ)), (∀ t v, e[t]? = some v → Rep C.E F' (postφ φ φ' l n) v (a.tmps.getD t undef)) → ∀ (t : Nat) (v : AV κ), (setEach (setAll .bot wr e) sh.live (renL ρ (puts sh.env d.1)))[t]? = some v → Rep C.E F' (postφ φ φ' l n) v (a'.tmps.getD t undef) := by
    intro e he t v hv
    rcases setEach_get _ _ _ _ _ (by rw [renLen]; omega) hv with ⟨j, h1, h2⟩ | ⟨h1, h2⟩
    · rw [renL_get] at h2
      obtain ⟨v0, hv0, rfl⟩ := Option.map_eq_some_iff.1 h2
      exact (hs.reps.2 j v0 _ hv0 (by rw [List.getElem?_map, h1]; rfl)).ren hρ hE
    · by_cases hw : t ∈ wr
      · have : ∀ (l : List Nat) (e : List (AV κ)), t ∈ l → (setAll .bot l e)[t]? = some v → v = .bot := by
          intro l
          induction l with
          | nil => intro e h; simp at h
          | cons x l ih =>
            intro e hx h
            simp only [setAll] at h
            by_cases hxl : t ∈ l
            · exact ih _ hxl h
            · rcases setAll_get l _ t v h with ⟨h3, _⟩ | h3
              · exact absurd h3 hxl
              · have : x = t := by rcases List.mem_cons.1 hx with rfl | h4; rfl; exact absurd h4 hxl
                subst this
                rw [List.getElem?_set] at h3
                simp at h3
                exact h3.2.symm
        rw [this wr e hw h2]; exact .bot _
      · rcases setAll_get wr e t v h2 with ⟨h3, _⟩ | h3
        · exact absurd h3 hw
        · rw [hk t hw]; exact he t v h3
  have mvOk : Mv w F φ w' F' (postφ φ φ' l n) := by
    refine ⟨hm.os, hm.tape, hm.output, hm.size, fun b hb hnh => hm.keep b hb fun ⟨j, q, h1, h2⟩ => hnh ?_, fun b hb hlt => ?_, hm.le, fun b o h1 h2 => ?_⟩
    · cases hj : l[j]? with
      | none => simp [selφ, hj] at h1
      | some i => rw [sel hj] at h1; exact ⟨i, q, h1, h2⟩
    · obtain ⟨i, p, h1, h2⟩ := hb
      have up : Held (selφ φ l n) b → Held φ b := fun ⟨j, q, h3, h4⟩ => by
        cases hj : l[j]? with
        | none => simp [selφ, hj] at h3
        | some i => rw [sel hj] at h3; exact ⟨i, q, h3, h4⟩
      rcases inv h1 with ⟨j, _, h3, _⟩ | ⟨_, _, h3⟩ | ⟨_, _, h3⟩
      · exact up (hm.held b ⟨j, p, h3, h2⟩ hlt)
      · exact ⟨i, p, h3, h2⟩
      · exact up (hm.held b ⟨_, p, h3, h2⟩ hlt)
    · rcases hm.new b o h1 h2 with h3 | ⟨j, q, h3, h4⟩
      · exact .inl h3
      · cases hj : l[j]? with
        | none => simp [selφ, hj] at h3
        | some i => rw [sel hj] at h3; exact .inr ⟨i, q, h3, h4⟩
  refine ⟨?_, mvOk⟩
  unfold post
  simp only
  split
  · rename_i he
    have hl0 : l = [] := by simpa using he
    subst hl0
    refine ⟨relOk _ (by simp [hlen, n]) fun i b hb => ?_, envOk s.env fun t v hv => ?_, by simp [setEach_length, setAll_length, hN, hg.size], hs.defers, fun p hp => by simp at hp, hs.glob⟩
    · by_cases hi : i < n
      · rw [List.getElem?_append_left hi] at hb
        have h0 := (hg.rel.blk i b hb).mono hm.le
        refine h0.keep (by simp [postφ, hi, n]) (fun j p h => ?_) fun p g ob h1 h2 h3 => keepHeap (by simp) h1 h2 h3
        by_cases hj : j < n
        · simp only [postφ, List.contains_nil, Bool.false_eq_true, if_false, if_pos hj]; exact h
        · rw [hg.rel.out j (by omega)] at h; cases h
      · rw [List.getElem?_append_right (by omega), List.getElem?_map] at hb
        obtain ⟨b', hb', rfl⟩ := Option.map_eq_some_iff.1 hb
        refine OwnB.ren hE hρ ?_ (hs.rel.blk _ b' hb')
        simp only [postφ, List.contains_nil, Bool.false_eq_true, if_false, if_neg hi, List.length_nil, Nat.add_zero]
        rfl
    · refine ((hg.env t v hv).mono hm.le).place fun j p h => ?_
      by_cases hj : j < n
      · simp only [postφ, List.contains_nil, Bool.false_eq_true, if_false, if_pos hj]; exact h
      · rw [hg.rel.out j (by omega)] at h; cases h
  · refine ⟨relOk _ (by simp [setEach_length, hlen, n]) blkOk, envOk (renL k s.env) fun t v hv => ?_, by simp [setEach_length, setAll_length, renL_length, hN, hg.size], hs.defers, fun p hp => by simp at hp, hs.glob⟩
    rw [renL_get] at hv
    obtain ⟨v0, hv0, rfl⟩ := Option.map_eq_some_iff.1 hv
    exact ((hg.env t v0 hv0).mono hm.le).ren hkφ hE

def OutT : List (Ex × Sh κ) → Type
  | [] => Empty
  | [x] => x.2.den
  | x :: y :: l => x.2.den ⊕ OutT (y :: l)
/-- Which of two. -/
def onSum {α β γ : Type} (o : α ⊕ β) (f : α → γ) (g : β → γ) : γ := match o with
  | .inl a => f a
  | .inr b => g b
def elimK {β : Type} (s : St κ) (l wr : List Nat) : (outs : List (Ex × Sh κ)) → OutT outs → (Ex → St κ → Option β) → Option β
  | [], o, _ => nomatch o
  | [x], o, K => K x.1 (post s l wr x.2 o)
  | x :: y :: ys, o, K => onSum o (fun d => K x.1 (post s l wr x.2 d)) (fun o => elimK s l wr (y :: ys) o K)
def outAt : (outs : List (Ex × Sh κ)) → OutT outs → Ex × ((sh : Sh κ) × sh.den)
  | [], o => nomatch o
  | [x], o => (x.1, ⟨x.2, o⟩)
  | x :: y :: l, o => match o with
    | .inl d => (x.1, ⟨x.2, d⟩)
    | .inr o => outAt (y :: l) o
def Kout (N : Nat) : (outs : List (Ex × Sh κ)) → Ex → St κ → Option (OutT outs)
  | [], _, _ => none
  | [y], x, s => if x = y.1 ∧ s.env.length = N then ext y.2 (gc y.2.keep y.2.live s) else none
  | y :: z :: l, x, s => if x = y.1 ∧ s.env.length = N then (match ext y.2 (gc y.2.keep y.2.live s) with | some d => some (.inl d) | none => none) else (match Kout N (z :: l) x s with | some o => some (.inr o) | none => none)
theorem elimK_eq {β : Type} {l wr : List Nat} : ∀ (outs : List (Ex × Sh κ)) (o : OutT outs) (K : Ex → St κ → Option β), elimK s l wr outs o K = K (outAt outs o).1 (post s l wr (outAt outs o).2.1 (outAt outs o).2.2)
  | [], o, _ => nomatch o
  | [x], o, K => rfl
  | x :: y :: l, o, K => by
    cases o with
    | inl d => rfl
    | inr o => exact elimK_eq (y :: l) o K
theorem Kout_sound (hE : C.E.Ok) {N : Nat} : ∀ (outs : List (Ex × Sh κ)) (x : Ex) (s : St κ) (o : OutT outs), Kout N outs x s = some o → (outAt outs o).1 = x ∧ s.env.length = N ∧
    ∀ (a : Act) (w : World) (F : Nat → Option Obj) (φ : Nat → Option Pl), Good C.E C.glob a w s F φ → ∃ φ', Shown C a w (outAt outs o).2.1 (outAt outs o).2.2 F φ' ∧ Mv w F φ w F φ'
  | [], _, _, _, h => by simp [Kout] at h
  | [y], x, s, o, h => by
    obtain ⟨hc, h⟩ := ite_some h
    exact ⟨hc.1.symm, hc.2, fun a w F φ hg => ⟨_, shown_of hE hg h⟩⟩
  | y :: z :: l, x, s, o, h => by
    simp only [Kout] at h
    split at h
    · rename_i hc
      split at h
      · rename_i d hd
        obtain rfl := Option.some.inj h
        exact ⟨hc.1.symm, hc.2, fun a w F φ hg => ⟨_, shown_of hE hg hd⟩⟩
      · cases h
    · split at h
      · rename_i o' ho
        obtain rfl := Option.some.inj h
        exact Kout_sound hE (z :: l) x s o' ho
      · cases h

/-- A piece's summary as the reckoner takes it: wr: the temporaries that the piece may write. -/
def lamK (N : Nat) (wr : List Nat) (ins : Sh κ) (outs : List (Ex × Sh κ)) (L : ins.den → Option (OutT outs)) : Lam κ := fun s K =>
  if s.env.length = N ∧ ((ids ins.keep ins.live s).all fun i => decide (i < s.S.length)) = true ∧ (outs.all fun x => decide ((ids ins.keep ins.live s).length ≤ x.2.blks.length)) = true then
    (ext ins (gc ins.keep ins.live s)).bind fun d => (L d).bind fun o => elimK s (ids ins.keep ins.live s) wr outs o K
  else none

/-- What a piece does, from shape to shape. -/
def TrS (C : Ctx κ) (N : Nat) (wr : List Nat) (c : Code) (ins : Sh κ) (d : ins.den) (x : Ex) (sh : Sh κ) (e : sh.den) : Prop :=
  ∀ (a : Act) (w : World) (F : Nat → Option Obj) (φ : Nat → Option Pl), a.tmps.size = N → Shown C a w ins d F φ → ∀ Q : Exit → Act → World → Prop,
    (∀ a' w' F' φ', Shown C a' w' sh e F' φ' → Mv w F φ w' F' φ' → KeepT wr a a' → a'.tmps.size = N → Q x.to a' w') → c.wp C.P Q a w

theorem outAt_mem : ∀ (outs : List (Ex × Sh κ)) (o : OutT outs), ((outAt outs o).1, (outAt outs o).2.1) ∈ outs
  | [], o => nomatch o
  | [x], o => by simp [outAt]
  | x :: y :: l, o => by
    cases o with
    | inl d => simp [outAt]
    | inr o => exact List.mem_cons_of_mem _ (outAt_mem (y :: l) o)

theorem lamK_sound (hE : C.E.Ok) {N : Nat} {wr : List Nat} {ins : Sh κ} {outs : List (Ex × Sh κ)} {L : ins.den → Option (OutT outs)} {c : Code} (hwr : ((writes c).all fun t => wr.contains t) = true) (hrw : (wr.all fun t => (writes c).contains t) = true)
    (h : ∀ (d : ins.den) (o : OutT outs), L d = some o → TrS C N wr c ins d (outAt outs o).1 (outAt outs o).2.1 (outAt outs o).2.2) : LamOk C (lamK N wr ins outs L) c := by
  intro β s K r hr
  obtain ⟨⟨hN, hlt, hlen⟩, hr⟩ := ite_some hr
  obtain ⟨d, h1, h2⟩ := Option.bind_eq_some_iff.1 hr
  obtain ⟨o, h3, h4⟩ := Option.bind_eq_some_iff.1 h2
  rw [elimK_eq] at h4
  refine ⟨_, _, h4, fun a w F φ hg Q hQ => ?_⟩
  obtain ⟨h5, h6⟩ := shown_of hE hg h1
  refine h d o h3 a w F _ (by rw [hg.size]; exact hN) h5 Q fun a' w' F' φ' k1 k2 k3 k4 => ?_
  have hb : (ids ins.keep ins.live s).length ≤ (outAt outs o).2.1.blks.length := by
    have := List.all_eq_true.1 hlen _ (outAt_mem outs o)
    simpa using this
  obtain ⟨k5, k6⟩ := post_good hE hg (l := ids ins.keep ins.live s) (wr := wr) (nub_nodup _) (fun i hi => by simpa using List.all_eq_true.1 hlt i hi) hb k1 k2 k3 (by rw [k4, hg.size, hN])
  exact hQ a' w' F' _ k5 k6 (k3.mono fun t ht => by simpa using List.all_eq_true.1 hrw t ht)

theorem cut_ok (hC : C.Ok) {c : Code} {n : Note} {N : Nat} {wr : List Nat} {ins : Sh κ} {outs : List (Ex × Sh κ)} {L : ins.den → Option (OutT outs)} (hwr : ((writes c).all fun t => wr.contains t) = true) (hrw : (wr.all fun t => (writes c).contains t) = true) (hf : Fits C c n)
    (hL : ∀ d, L d = exec C kindOf c n (can N ins d) (Kout N outs)) : LamOk C (lamK N wr ins outs L) c :=
  lamK_sound hC.enc hwr hrw fun d o ho => by
    rw [hL] at ho
    obtain ⟨x, s', h1, h2⟩ := exec_sound hC hf ho
    obtain ⟨h3, h5, h4⟩ := Kout_sound hC.enc outs x s' o h1
    intro a w F φ hN hs Q hQ
    refine h2 a w F φ (hs.good hN) Q fun a' w' F' φ' k1 k2 k3 => ?_
    obtain ⟨φ2, k4, k5⟩ := h4 a' w' F' φ' k1
    have := hQ a' w' F' φ2 k4 (k2.trans k5) (k3.mono fun t ht => by simpa using List.all_eq_true.1 hwr t ht) (by rw [k1.size]; exact h5)
    rwa [h3] at this

def Kloop {ins : Sh κ} (N : Nat) (outs : List (Ex × Sh κ)) (L : ins.den → Option (OutT outs)) : Ex → St κ → Option (OutT outs)
  | .normal, s => if s.env.length = N then (ext ins (gc ins.keep ins.live s)).bind L else none
  | x, s => Kout N outs x s

theorem loop_ok (hC : C.Ok) {c : Code} {n : Note} {N : Nat} {wr : List Nat} {ins : Sh κ} {outs : List (Ex × Sh κ)} {L : Nat → ins.den → Option (OutT outs)} (hwr : ((writes c).all fun t => wr.contains t) = true) (hrw : (wr.all fun t => (writes c).contains t) = true) (hf : Fits C c n) (h0 : ∀ d, L 0 d = none)
    (hL : ∀ k d, L (k + 1) d = exec C kindOf c n (can N ins d) (Kloop N outs (L k))) (k : Nat) : LamOk C (lamK N wr ins outs (L k)) (.loop c) := by
  have hwr' : ∀ {a b : Act}, KeepT (writes c) a b → KeepT wr a b := fun h => h.mono fun t ht => by simpa using List.all_eq_true.1 hwr t ht
  refine lamK_sound hC.enc hwr hrw fun d o ho a w F φ hN hs Q hQ => wp_loop_rounds k ?_
  have key : ∀ (k : Nat) (d : ins.den), L k d = some o → ∀ (a : Act) (w : World) (F : Nat → Option Obj) (φ : Nat → Option Pl), a.tmps.size = N → Shown C a w ins d F φ →
      (∀ a' w' F' φ', Shown C a' w' (outAt outs o).2.1 (outAt outs o).2.2 F' φ' → Mv w F φ w' F' φ' → KeepT wr a a' → a'.tmps.size = N → Q (outAt outs o).1.to a' w') → Code.rounds C.P c Q k a w := by
    intro k
    induction k with
    | zero => intro d hd; rw [h0] at hd; cases hd
    | succ k ih =>
      intro d hd a w F φ hN hs hQ
      rw [hL] at hd
      obtain ⟨x, s', h1, h2⟩ := exec_sound hC hf hd
      rw [rounds_succ]
      have leave : ∀ (hx : x ≠ .normal), Kout N outs x s' = some o → c.wp C.P (Exit.then (Code.rounds C.P c Q k) Q) a w := fun hx h1 => by
        obtain ⟨h3, h5, h4⟩ := Kout_sound hC.enc outs x s' o h1
        refine h2 a w F φ (hs.good hN) _ fun a' w' F' φ' k1 k2 k3 => ?_
        obtain ⟨φ2, k4, k5⟩ := h4 a' w' F' φ' k1
        have := hQ a' w' F' φ2 k4 (k2.trans k5) (hwr' k3) (by rw [k1.size]; exact h5)
        rw [h3] at this
        cases x with
        | normal => exact absurd rfl hx
        | exit i => exact this
        | ret => exact this
      cases x with
      | normal =>
        obtain ⟨hN', h1⟩ := ite_some h1
        obtain ⟨d', h3, h4⟩ := Option.bind_eq_some_iff.1 h1
        refine h2 a w F φ (hs.good hN) _ fun a' w' F' φ' k1 k2 k3 => ?_
        obtain ⟨k4, k5⟩ := shown_of hC.enc k1 h3
        exact ih d' h4 a' w' F' _ (by rw [k1.size]; exact hN') k4 fun a2 w2 F2 φ3 k6 k7 k8 k9 => hQ a2 w2 F2 φ3 k6 ((k2.trans k5).trans k7) ((hwr' k3).trans k8) k9
      | exit i => exact leave (by simp) h1
      | ret => exact leave (by simp) h1
  exact key k d ho a w F φ hN hs hQ
end
end Go.Am
end
