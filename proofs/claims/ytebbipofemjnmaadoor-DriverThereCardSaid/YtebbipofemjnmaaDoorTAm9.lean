/- Slices that the call makes: literals, make, append, and what is shut for good. -/
import Derived.Test.YtebbipofemjnmaaDoorTAm8
namespace Go.Am
open Go.RowKit
variable {κ : Kinds} {E : Encs κ} {F F' : Nat → Option Obj} {φ φ' : Nat → Option Pl} {P : Program} {C : Ctx κ} {a : Act} {w w' : World} {s s' : St κ} {o : Oper}

theorem at_place (hg : Good C.E C.glob a w s F φ) (pl : Pl) : ∀ j p, φ j = some p → at_ φ s.S.length (some pl) j = some p := fun j p h => by
  by_cases hj : j = s.S.length
  · subst hj; rw [hg.rel.out _ (Nat.le_refl _)] at h; cases h
  · rw [at_ne _ _ hj]; exact h

theorem rows_fresh (hg : Good C.E C.glob a w s F φ) {k : κ.Kc} {xs : List (κ.ty k)} {cur : Array Value} {cap : Nat} (hs : cur.size = cap * κ.sz k) (hlen : xs.length ≤ cap) (hcap : cap ≤ maxLen)
    (hr : ∀ (r : Nat) (x : κ.ty k) (j : Nat) (c : AV κ) (u : Value), xs[r]? = some x → (C.E.enc k x)[j]? = some c → cur[r * κ.sz k + j]? = some u → Rep C.E F φ c u) (hw : w.grownBy w' none) (hnew : w'.heap[w.heap.size]? = some (.cells cur (κ.elem k) (0, 0))) :
    Good C.E C.glob a w' (s.fresh (.rows k xs)) F (at_ φ s.S.length (some ⟨some w.heap.size, xs.length, cap⟩)) ∧ Rep C.E F (at_ φ s.S.length (some ⟨some w.heap.size, xs.length, cap⟩)) (.own k s.S.length) (.slice (some ⟨w.heap.size, 0, none⟩) xs.length cap) ∧
    Mv w F φ w' F (at_ φ s.S.length (some ⟨some w.heap.size, xs.length, cap⟩)) := by
  have hφ := at_place hg ⟨some w.heap.size, xs.length, cap⟩
  have := fresh_good hg ⟨some w.heap.size, xs.length, cap⟩ hw (fun g h => by simp at h; subst h; exact ⟨Nat.le_refl _, (Array.getElem?_eq_some_iff.1 hnew).1⟩) (b := .rows k xs)
    ⟨⟨some w.heap.size, xs.length, cap⟩, at_self _ _ _, rfl, .inr ⟨w.heap.size, cur, rfl, hnew, hs, hlen, hcap, fun r x j c u h1 h2 h3 => (hr r x j c u h1 h2 h3).place hφ⟩⟩
  exact ⟨this.1, .own k _ ⟨some w.heap.size, xs.length, cap⟩ _ (at_self _ _ _) rfl, this.2⟩

theorem nil_fresh (hg : Good C.E C.glob a w s F φ) (k : κ.Kc) :
    Good C.E C.glob a w (s.fresh (.rows k [])) F (at_ φ s.S.length (some ⟨none, 0, 0⟩)) ∧ Rep C.E F (at_ φ s.S.length (some ⟨none, 0, 0⟩)) (.own k s.S.length) (.slice none 0 0) ∧
    Mv w F φ w F (at_ φ s.S.length (some ⟨none, 0, 0⟩)) := by
  have := fresh_good hg ⟨none, 0, 0⟩ (w' := w) ⟨rfl, rfl, rfl, Nat.le_refl _, fun _ _ _ => rfl⟩ (fun g h => by simp at h) (b := .rows k [])
    ⟨⟨none, 0, 0⟩, at_self _ _ _, rfl, .inl ⟨rfl, rfl⟩⟩
  exact ⟨this.1, .ownNil k _ ⟨none, 0, 0⟩ (at_self _ _ _) rfl, this.2⟩

theorem flat_get {α β : Type} {f : α → List β} {n : Nat} : ∀ (l : List α), (∀ x ∈ l, (f x).length = n) → ∀ (r j : Nat), j < n → (l.flatMap f)[r * n + j]? = (l[r]?).bind fun x => (f x)[j]?
  | [], _, r, j, _ => by simp
  | x :: l, h, 0, j, hj => by
    rw [List.flatMap_cons, Nat.zero_mul, Nat.zero_add, List.getElem?_append_left (by rw [h x (by simp)]; exact hj)]
    simp
  | x :: l, h, r + 1, j, hj => by
    have hx := h x (by simp)
    rw [List.flatMap_cons, List.getElem?_append_right (by rw [hx, Nat.add_mul]; omega), hx, show (r + 1) * n + j - n = r * n + j by rw [Nat.add_mul]; omega, flat_get l (fun y hy => h y (by simp [hy])) r j hj]
    simp
theorem flat_length {α β : Type} {f : α → List β} {n : Nat} : ∀ (l : List α), (∀ x ∈ l, (f x).length = n) → (l.flatMap f).length = l.length * n
  | [], _ => by simp
  | x :: l, h => by
    rw [List.flatMap_cons, List.length_append, h x (by simp), flat_length l (fun y hy => h y (by simp [hy])), List.length_cons, Nat.add_mul]
    omega

theorem fill_seq {n : Nat} : ∀ (parts : List (Nat × Value)) (k : Nat) (A : Array Value), parts.map (·.1) = List.range' k parts.length → (∀ p ∈ parts, p.2.cells.size = n) → A.size = (k + parts.length) * n →
    ∃ A', Instr.fill (fun i => some (i * n, n)) A parts = some A' ∧ A'.toList = A.toList.take (k * n) ++ parts.flatMap fun p => p.2.cells.toList
  | [], k, A, _, _, hA => ⟨A, rfl, by simp at hA ⊢; rw [List.take_of_length_le (by simp; omega)]⟩
  | (i, u) :: parts, k, A, hm, hn, hA => by
    simp only [List.map_cons, List.length_cons, List.range'_succ, List.cons.injEq] at hm
    obtain ⟨rfl, hm⟩ := hm
    have hu := hn _ (List.mem_cons_self)
    simp only at hu
    simp only [List.length_cons] at hA
    have hmul : (i + (parts.length + 1)) * n = i * n + n + parts.length * n := by rw [Nat.add_mul, Nat.add_mul]; omega
    have e : (u.cells.zipIdx.foldl (fun cs x => cs.setIfInBounds (i * n + x.2) x.1) A).toList = A.toList.take (i * n) ++ u.cells.toList ++ A.toList.drop (i * n + n) := by
      rw [← Array.foldl_toList, Array.toList_zipIdx, foldl_upd, upd_eq _ _ _ (by simp; omega)]
      simp [hu]
    obtain ⟨A', h1, h2⟩ := fill_seq parts (i + 1) (u.cells.zipIdx.foldl (fun cs x => cs.setIfInBounds (i * n + x.2) x.1) A) hm (fun p hp => hn p (List.mem_cons_of_mem _ hp)) (by
      have := congrArg List.length e
      rw [Array.length_toList] at this
      rw [this]
      simp only [List.length_append, List.length_take, List.length_drop, Array.length_toList, hu]
      have h3 : (i + 1 + parts.length) * n = i * n + n + parts.length * n := by rw [Nat.add_mul, Nat.add_mul]; omega
      omega)
    refine ⟨A', ?_, ?_⟩
    · simp only [Instr.fill]
      rw [if_neg (by simp [hu]; omega)]
      exact h1
    · rw [h2, e, show (i + 1) * n = i * n + n by rw [Nat.add_mul]; omega]
      rw [List.take_append_of_le_length (by simp; omega), List.take_of_length_le (by simp; omega)]
      simp

theorem decL_spec {k : κ.Kc} : ∀ {rows : List (List (AV κ))} {xs : List (κ.ty k)}, decL E k rows = some xs → xs.length = rows.length ∧ ∀ (r : Nat) (x : κ.ty k), xs[r]? = some x → ∃ cs, rows[r]? = some cs ∧ E.dec k cs = some x
  | [], xs, h => by simp only [decL, Option.some.injEq] at h; subst h; exact ⟨rfl, fun r x hx => by simp at hx⟩
  | cs :: rows, xs, h => by
    simp only [decL] at h
    split at h
    · rename_i x xs' hx hxs
      simp only [Option.some.injEq] at h
      subst h
      obtain ⟨h1, h2⟩ := decL_spec hxs
      refine ⟨by simp [h1], fun r y hy => ?_⟩
      cases r with
      | zero => simp at hy; subst hy; exact ⟨cs, rfl, hx⟩
      | succ r => simp at hy; simpa using h2 r y hy
    · cases h

theorem loud_buildSlice {β : Type} (hE : C.E.Ok) (hfit : ∀ k : κ.Kc, Fit C.P k) {kindOf : TypeId → Option κ.Kc} {t : TypeId} {n : Nat} {parts : Array (Nat × Operand)} {K : AV κ → St κ → Option β} {r : β} (ho : o.op = .buildSlice t n parts) (h : loud? C kindOf o s K = some r) :
    ∃ v s', K v s' = some r ∧ LoudOk C o s v s' := by
  simp only [loud?, ho] at h
  split at h
  · rename_i e hu
    split at h
    · rename_i k hk
      split at h
      · rename_i hc
        obtain ⟨hel, hn0, hidx, hsmall, hone⟩ := hc
        split at h
        · rename_i xs hxs
          refine ⟨_, _, h, fun a w F φ hg next Q hn => ?_⟩
          obtain ⟨inf, z, hi, hsz, hby, hz, hzs, hp1, hp2⟩ := hfit k
          rw [hel] at hi
          obtain ⟨hxl, hxs'⟩ := decL_spec hxs
          have hpl : parts.size = n := by have := congrArg List.length hidx; simpa using this
          -- the parts as values
          let vp : List (Nat × Value) := parts.toList.map fun p => (p.1, a.eval p.2)
          have hcell : ∀ p ∈ parts.toList, Reps C.E F φ (ev C s p.2).cells (a.eval p.2).cells.toList := fun p hp => (cells_rep (ev_rep hg p.2) (List.all_eq_true.1 hone p hp)).1
          have hlen : ∀ p ∈ parts.toList, (a.eval p.2).cells.size = κ.sz k := fun p hp => by
            obtain ⟨j, hj⟩ := List.getElem?_of_mem hp
            have hjl : j < xs.length := by rw [hxl]; simp; simpa using (List.getElem?_eq_some_iff.1 hj).1
            obtain ⟨cs, h1, h2⟩ := hxs' j _ (List.getElem?_eq_getElem hjl)
            rw [List.getElem?_map, hj] at h1
            simp at h1
            rw [← cells_pos (hcell p hp), h1, ← hE.put _ _ _ h2, hE.len]
          have hzl : ((Array.range (n * inf.size)).map (z.cells[· % z.cells.size]!)).size = (0 + vp.length) * κ.sz k := by simp [vp, hsz, hpl]
          obtain ⟨A', hf, hA'⟩ := fill_seq (n := κ.sz k) vp 0 _ (by simp only [vp, List.map_map, Function.comp_def, hidx, List.length_map, Array.length_toList, hpl]; exact List.range_eq_range') (fun p hp => by
            obtain ⟨q, hq, rfl⟩ := List.mem_map.1 hp
            exact hlen q hq) hzl
          simp only [Nat.zero_mul, List.take_zero, List.nil_append] at hA'
          have hAs : A'.size = n * κ.sz k := by
            have := congrArg List.length hA'
            rw [flat_length (n := κ.sz k) _ (fun p hp => by obtain ⟨q, hq, rfl⟩ := List.mem_map.1 hp; simpa using hlen q hq)] at this
            simpa [vp, hpl] using this
          have hxn : xs.length = n := by rw [hxl]; simp [hpl]
          have hmx : n ≤ maxLen := by
            have := Nat.le_mul_of_pos_right n hp1
            unfold maxLen
            omega
          obtain ⟨h1, h2, h3⟩ := rows_fresh hg (k := k) (xs := xs) (cur := A') (cap := n) hAs (by omega) hmx (fun r x j c u hx hc hu' => by
            have hj : j < κ.sz k := by rw [← hE.len k x]; exact (List.getElem?_eq_some_iff.1 hc).1
            obtain ⟨cs, h4, h5⟩ := hxs' r x hx
            rw [← Array.getElem?_toList, hA', flat_get (n := κ.sz k) _ (fun p hp => by obtain ⟨q, hq, rfl⟩ := List.mem_map.1 hp; simpa using hlen q hq) r j hj] at hu'
            simp only [vp, List.getElem?_map] at hu' h4
            cases hq : parts.toList[r]? with
            | none => rw [hq] at h4; simp at h4
            | some q =>
              rw [hq] at hu' h4
              simp at hu' h4
              have hmem := List.mem_of_getElem? hq
              rw [hE.put _ _ _ h5, ← h4] at hc
              exact (hcell q hmem).2 j c u hc (by simpa using hu')) (grown_alloc w (.cells A' e)) (by rw [heap_alloc_new, hel])
          rw [hxn] at h1 h2 h3
          refine wp_value (u := .slice (some ⟨w.heap.size, 0, none⟩) n n) (w' := w.alloc (.cells A' e)) ?_ (hn _ _ _ _ h1 h2 h3)
          unfold execOp
          rw [ho]
          refine run_v ?_
          refine run_buildSlice w t e n _ A' inf z hu hi hz (by rw [hsz]; omega) (by rw [hsz]; have := Nat.mul_pos hn0 hp1; omega) ?_
          rw [hsz] at *
          have : (parts.map fun (i, x) => (i, a.eval x)).toList = vp := by simp [vp]
          rw [this]
          exact hf
        · cases h
      · cases h
    · cases h
  · cases h

theorem loud_makeSlice {β : Type} (hE : C.E.Ok) (hfit : ∀ k : κ.Kc, Fit C.P k) {kindOf : TypeId → Option κ.Kc} {t : TypeId} {x y : Operand} {K : AV κ → St κ → Option β} {r : β} (ho : o.op = .makeSlice t x y) (h : loud? C kindOf o s K = some r) :
    ∃ v s', K v s' = some r ∧ LoudOk C o s v s' := by
  simp only [loud?, ho] at h
  split at h
  · rename_i d e kl l kc c hu hx hy
    split at h
    · rename_i k hk
      split at h
      · rename_i hel
        split at h
        · rename_i zv hzv
          split at h
          · rename_i hc
            refine ⟨_, _, h, fun a w F φ hg next Q hn => ?_⟩
            obtain ⟨inf, z, hi, hsz, hby, hz, hzs, hp1, hp2⟩ := hfit k
            rw [hel] at hi
            have e1 := val_inv (hx ▸ ev_rep hg x)
            have e2 := val_inv (hy ▸ ev_rep hg y)
            have hzc : zeroCells? C.P e = some (z.cells.toList.map (AV.val (κ := κ))) := by simp [zeroCells?, hi, hz]
            rw [hzc] at hzv
            have henc := hE.put k _ zv hzv
            have hcb : c.toNat * κ.bytes k ≤ capBytes := by
              have h1 := hc.2.2
              have : ((c.toNat * κ.bytes k : Nat) : Int) ≤ (capBytes : Int) := by
                rw [Int.natCast_mul, Int.toNat_of_nonneg (by omega)]; exact h1
              omega
            have hcle : c.toNat ≤ capBytes := Nat.le_trans (Nat.le_mul_of_pos_right _ hp2) hcb
            have hrun := run_make (P := C.P) w t e inf z hu hi hz kl kc l c hc.1 hc.2.1 (by
              rw [hby, Int.mul_comm]
              have := hc.2.2
              unfold capBytes at this
              omega) (by unfold capBytes at hcle; omega)
            rw [hsz] at hrun
            obtain ⟨h1, h2, h3⟩ := rows_fresh hg (k := k) (xs := List.replicate l.toNat zv) (cur := madeCells z.cells (c.toNat * κ.sz k)) (cap := c.toNat) (size_madeCells _ _) (by simp; omega) (by unfold capBytes at hcle; unfold maxLen; omega) (fun r q j cc u hq hcc hu' => by
              have hq' : q = zv := List.eq_of_mem_replicate (List.mem_of_getElem? hq)
              subst hq'
              have hj : j < κ.sz k := by rw [← hE.len k q]; exact (List.getElem?_eq_some_iff.1 hcc).1
              rw [henc, List.getElem?_map] at hcc
              have hjz : j < z.cells.size := by omega
              rw [List.getElem?_eq_getElem (by simpa using hjz)] at hcc
              simp at hcc
              subst hcc
              have hlt := (Array.getElem?_eq_some_iff.1 hu').1
              rw [size_madeCells] at hlt
              unfold madeCells at hu'
              rw [Array.getElem?_map, Array.getElem?_range] at hu'
              rw [if_pos hlt] at hu'
              simp only [Option.map_some, Option.some.injEq] at hu'
              rw [hzs, Nat.mul_comm, Nat.mul_add_mod, Nat.mod_eq_of_lt hj] at hu'
              have : z.cells[j]! = z.cells[j] := by simp [hjz]
              rw [← hu', this]
              exact .val _) (grown_alloc w (.cells (madeCells z.cells (c.toNat * κ.sz k)) e)) (by rw [heap_alloc_new, hel])
            simp only [List.length_replicate] at h1 h2 h3
            refine wp_value (u := .slice (some ⟨w.heap.size, 0, none⟩) l.toNat c.toNat) (w' := w.alloc (.cells (madeCells z.cells (c.toNat * κ.sz k)) e)) ?_ (hn _ _ _ _ h1 h2 h3)
            unfold execOp
            rw [ho]
            refine run_v ?_
            rw [e1, e2]
            exact hrun
          · cases h
        · cases h
      · cases h
    · cases h
  · cases h

theorem nilOwn_sound {kindOf : TypeId → Option κ.Kc} : ∀ (cs : List (AV κ)) (ts : List TypeId) (us : List Value) {s : St κ} {φ : Nat → Option Pl}, Good C.E C.glob a w s F φ → Reps C.E F φ cs us →
    ∃ φ', Good C.E C.glob a w (nilOwn P kindOf cs ts s).2 F φ' ∧ Reps C.E F φ' (nilOwn P kindOf cs ts s).1 us ∧ Mv w F φ w F φ' ∧ ∀ j p, φ j = some p → φ' j = some p
  | [], ts, us, s, φ, hg, hr => by
    have e : nilOwn P kindOf ([] : List (AV κ)) ts s = ([], s) := by cases ts <;> rfl
    rw [e]; exact ⟨φ, hg, hr, Mv.refl _ _ _, fun _ _ h => h⟩
  | c :: cs, [], us, s, φ, hg, hr => by
    have e : nilOwn P kindOf (c :: cs) [] s = (c :: cs, s) := by cases c <;> first | rfl | (rename_i v; cases v <;> first | rfl | (rename_i a l c; cases a <;> cases l <;> cases c <;> rfl))
    rw [e]; exact ⟨φ, hg, hr, Mv.refl _ _ _, fun _ _ h => h⟩
  | c :: cs, t :: ts, us, s, φ, hg, hr => by
    cases us with
    | nil => have := hr.1; simp at this
    | cons u us =>
      have hc : Rep C.E F φ c u := hr.2 0 c u rfl rfl
      have hcs : Reps C.E F φ cs us := ⟨by simpa using hr.1, fun j c u hc hu => hr.2 (j + 1) c u (by simpa using hc) (by simpa using hu)⟩
      have cons : ∀ {φ' : Nat → Option Pl} {c' : AV κ} {cs' : List (AV κ)}, Rep C.E F φ' c' u → Reps C.E F φ' cs' us → Reps C.E F φ' (c' :: cs') (u :: us) := fun {φ' c' cs'} h k => by
        refine ⟨by simp [k.1], fun j x y hx hy => ?_⟩
        cases j with
        | zero => simp at hx hy; subst hx; subst hy; exact h
        | succ j => simp at hx hy; exact k.2 j x y hx hy
      have plain : ∃ φ', Good C.E C.glob a w (nilOwn P kindOf cs ts s).2 F φ' ∧ Reps C.E F φ' (c :: (nilOwn P kindOf cs ts s).1) (u :: us) ∧ Mv w F φ w F φ' ∧ ∀ j p, φ j = some p → φ' j = some p := by
        obtain ⟨φ', h1, h2, h3, h4⟩ := nilOwn_sound cs ts us hg hcs
        exact ⟨φ', h1, cons (hc.place h4) h2, h3, h4⟩
      unfold nilOwn
      split
      · rename_i cs0 t0 ts0 s0 heq1 heq2
        simp only [List.cons.injEq] at heq1 heq2
        obtain ⟨rfl, rfl⟩ := heq1
        obtain ⟨rfl, rfl⟩ := heq2
        split
        · split
          · rename_i k hk
            have hu : u = .slice none 0 0 := val_inv hc
            subst hu
            obtain ⟨n1, n2, n3⟩ := nil_fresh hg k
            have hpl := at_place hg ⟨none, 0, 0⟩
            obtain ⟨φ', h1, h2, h3, h4⟩ := nilOwn_sound cs ts us n1 ⟨hcs.1, fun j c u hc hu => (hcs.2 j c u hc hu).place hpl⟩
            exact ⟨φ', h1, cons (n2.place h4) h2, n3.trans h3, fun j p h => h4 j p (hpl j p h)⟩
          · exact plain
        · exact plain
      · rename_i heq1 heq2
        simp only [List.cons.injEq] at heq1 heq2
        obtain ⟨rfl, rfl⟩ := heq1
        obtain ⟨rfl, rfl⟩ := heq2
        exact plain
      · rename_i h1 h2
        exact absurd rfl (h2 _ _ _ _ rfl)

theorem loud_alloc {β : Type} {kindOf : TypeId → Option κ.Kc} {t : TypeId} {K : AV κ → St κ → Option β} {r : β} (ho : o.op = .alloc t) (h : loud? C kindOf o s K = some r) : ∃ v s', K v s' = some r ∧ LoudOk C o s v s' := by
  simp only [loud?, ho] at h
  split at h
  · rename_i z hz
    refine ⟨_, _, h, fun a w F φ hg next Q hn => ?_⟩
    unfold zeroCells? at hz
    split at hz
    · rename_i zv hzv
      simp only [Option.some.injEq] at hz
      subst hz
      obtain ⟨i, hi, hiz⟩ := Option.bind_eq_some_iff.1 hzv
      obtain ⟨φ1, k1, k2, k3, _⟩ := nilOwn_sound (P := C.P) (kindOf := kindOf) (zv.cells.toList.map AV.val) (cellTypes C.P 8 t) zv.cells.toList hg (Reps.vals _)
      obtain ⟨h1, h2, h3⟩ := raw_fresh k1 (t := t) (us := zv.cells) k2
      refine wp_value (u := .pointer (some ⟨w.heap.size, 0, none⟩)) (w' := w.alloc (.cells zv.cells t)) ?_ (hn _ _ _ _ h1 h2 (k3.trans h3))
      unfold execOp
      rw [ho]
      refine run_v ?_
      simp [Instr.alloc, zeroValue, typeInfo, hi, hiz, newVar, newRow]
    · cases hz
  · cases h

theorem loud_nil {β : Type} {kindOf : TypeId → Option κ.Kc} {K : AV κ → St κ → Option β} {r : β} (ho : o.op = .assign (.const (.slice none 0 0))) (h : loud? C kindOf o s K = some r) : ∃ v s', K v s' = some r ∧ LoudOk C o s v s' := by
  simp only [loud?, ho] at h
  split at h
  · rename_i v s' he
    refine ⟨v, s', h, fun a w F φ hg next Q hn => ?_⟩
    obtain ⟨φ1, k1, k2, k3, _⟩ := nilOwn_sound (P := C.P) (kindOf := kindOf) [AV.val (.slice none 0 0)] [o.type] [.slice none 0 0] hg (Reps.vals [_])
    rw [he] at k1 k2
    refine wp_value (u := .slice none 0 0) (w' := w) ?_ (hn _ _ _ _ k1 (k2.2 0 v _ rfl rfl) k3)
    unfold execOp
    rw [ho]
    rfl
  · cases h
end Go.Am
