/- A callee that writes to memory that it is given: its contract, and how the reckoner takes it. -/
import Derived.Test.YtebbipofemjnmaaDoorTAm16
namespace Go.Am
noncomputable section
open Go.RowKit
variable {κ : Kinds} {E : Encs κ} {F F' : Nat → Option Obj} {φ φ' : Nat → Option Pl} {P : Program} {C : Ctx κ} {a : Act} {w w' : World} {s s' : St κ} {kindOf : TypeId → Option κ.Kc}

/-- What a function does of plain arguments and of memory that it is given: a value, what it knows of these arguments in the end, memory. -/
def CallW (P : Program) (E : Encs κ) (G : Nat → AV κ) (fid : FuncId) (ins : List (Pat κ)) (bi : List (BPat κ)) (ka : List Nat) (po : List (Pat κ)) (bo : List (BPat κ)) (f : dens ins × densB bi → Option (dens po × densB bo)) : Prop :=
  ∀ (d : dens ins × densB bi) (r : dens po × densB bo), f d = some r → ∀ (w : World) (F : Nat → Option Obj) (φ : Nat → Option Pl) (us : Array Value), Rel E F φ (putsB bi d.2) w → GlobOk E G F → Reps E F φ (puts ins d.1) us.toList →
    Calls P fid us w fun e w' => ∃ u F' φ', e = .returned u ∧ Rel E F' φ' (putsB bo r.2) w' ∧ Reps E F' φ' (puts po r.1) (u :: ka.map fun t => us.getD t undef) ∧ Mv w F φ w' F' φ'

def KfnW (C : Ctx κ) (rs : List ResultVar) (m : Nat) (ka : List Nat) (po : List (Pat κ)) (bo : List (BPat κ)) : Ex → St κ → Option (dens po × densB bo)
  | .exit _, _ => none
  | _, s => match resL C s rs with
    | some vs => let t := gc m (List.range (ka.length + 1)) { env := resV vs :: ka.map s.get, S := s.S, al := [] }
      match gets po t.env, getsB bo t.S with
      | some x, some y => some (x, y)
      | _, _ => none
    | none => none

theorem range_get {l : List (AV κ)} {S : List (Blk κ)} {al : List (Nat × Nat)} : (List.range l.length).map (St.get { env := l, S := S, al := al }) = l := by
  apply List.ext_getElem?
  intro i
  by_cases hi : i < l.length
  · simp [List.getElem?_range hi, St.get, hi]
  · rw [List.getElem?_eq_none (by simpa using hi), List.getElem?_eq_none (by simpa using hi)]

theorem putsB_length : ∀ (ps : List (BPat κ)) (d : densB ps), (putsB ps d).length = ps.length
  | [], _ => rfl
  | p :: ps, d => by simp only [putsB, List.length_cons]; rw [putsB_length ps d.2]
theorem puts_len : ∀ (ps : List (Pat κ)) (d : dens ps), (puts ps d).length = ps.length
  | [], _ => rfl
  | p :: ps, d => by simp only [puts, List.length_cons]; rw [puts_len ps d.2]

theorem fn_okW (hC : C.Ok) {fid : FuncId} {fn : Func} {c : Code} {n : Note} {ins : List (Pat κ)} {bi : List (BPat κ)} {ka : List Nat} {po : List (Pat κ)} {bo : List (BPat κ)} {f : dens ins × densB bi → Option (dens po × densB bo)}
    (hfn : C.P.funcs[fid]? = some fn) (hb : fn.body = some c) (hka : (ka.all fun t => decide (t < ins.length) && !(writes c).contains t) = true) (hfit : Fits C c n)
    (hf : ∀ d, f d = exec C kindOf c n { env := puts ins d.1 ++ List.replicate (fn.ntmps - ins.length) .bot, S := putsB bi d.2, al := [] } (KfnW C fn.results.toList bi.length ka po bo)) : CallW C.P C.E C.glob fid ins bi ka po bo f := by
  intro d r hd w F φ us hrel hglob hargs
  rw [hf] at hd
  obtain ⟨x, s', h1, h2⟩ := exec_sound hC hfit hd
  have pl : (puts ins d.1).length = ins.length := puts_len ins d.1
  have hsz : us.size = ins.length := by rw [← pl, hargs.1]; simp
  have tm : ∀ t, t < us.size → (us ++ Array.replicate (fn.ntmps - us.size) undef).getD t undef = us.getD t undef := fun t ht => by
    simp [Array.getD_eq_getD_getElem?, Array.getElem?_append_left ht]
  have hgood : Good C.E C.glob { tmps := us ++ Array.replicate (fn.ntmps - us.size) undef, defers := [] } w { env := puts ins d.1 ++ List.replicate (fn.ntmps - ins.length) .bot, S := putsB bi d.2, al := [] } F φ := by
    refine ⟨hrel, fun t v hv => ?_, by simp [pl, hsz], rfl, fun q hq => by simp at hq, hglob⟩
    simp only at hv ⊢
    by_cases ht : t < ins.length
    · rw [List.getElem?_append_left (by rw [pl]; exact ht)] at hv
      have hlt : t < us.size := by omega
      rw [tm t hlt]
      refine hargs.2 t v _ hv ?_
      simp [hlt]
    · rw [List.getElem?_append_right (by rw [pl]; omega), List.getElem?_replicate] at hv
      split at hv
      · obtain rfl := Option.some.inj hv; exact .bot _
      · cases hv
  have hpost : ∀ (a' : Act) (w' : World) (F' : Nat → Option Obj) (φ' : Nat → Option Pl), Good C.E C.glob a' w' s' F' φ' → Mv w F φ w' F' φ' → KeepT (writes c) { tmps := us ++ Array.replicate (fn.ntmps - us.size) undef, defers := [] } a' → (∀ i, x ≠ .exit i) → a'.defers = [] ∧ ∃ v, (results fn a'.tmps).run C.P w' = .ok v w' ∧
      ∃ u F' φ', Ending.returned v = .returned u ∧ Rel C.E F' φ' (putsB bo r.2) w' ∧ Reps C.E F' φ' (puts po r.1) (u :: ka.map fun t => us.getD t undef) ∧ Mv w F φ w' F' φ' := by
    intro a' w' F' φ' k1 k2 k3 hx
    have hk : (match resL C s' fn.results.toList with
      | some vs => let t := gc bi.length (List.range (ka.length + 1)) { env := resV vs :: ka.map s'.get, S := s'.S, al := [] }
        match gets po t.env, getsB bo t.S with
        | some x, some y => some (x, y)
        | _, _ => none
      | none => none) = some r := by
      cases x with
      | exit i => exact absurd rfl (hx i)
      | normal => exact h1
      | ret => exact h1
    split at hk
    · rename_i vs hvs
      obtain ⟨u, h3, h4⟩ := results_sound hC.enc k1 hvs
      simp only at hk
      have hka' : Reps C.E F' φ' (ka.map s'.get) (ka.map fun t => us.getD t undef) := by
        refine ⟨by simp, fun j v u hv hu => ?_⟩
        rw [List.getElem?_map] at hv hu
        cases hj : ka[j]? with
        | none => rw [hj] at hv; cases hv
        | some t =>
          rw [hj] at hv hu
          obtain rfl := Option.some.inj hv
          obtain rfl := Option.some.inj hu
          have := List.all_eq_true.1 hka t (List.mem_of_getElem? hj)
          simp only [Bool.and_eq_true, decide_eq_true_eq, Bool.not_eq_true'] at this
          have e := k3 t (fun hm => by have := List.contains_iff_mem.2 hm; simp_all)
          have h5 := env_rep k1 t
          rw [e] at h5
          have h6 := tm t (by omega)
          simp only at h5
          rw [h6] at h5
          exact h5
      have hlen : (resV vs :: ka.map s'.get).length = ka.length + 1 := by simp
      obtain ⟨h5, h6⟩ := gc_seen hC.enc (s := { env := resV vs :: ka.map s'.get, S := s'.S, al := [] }) (m := bi.length) (live := List.range (ka.length + 1)) (us := u :: ka.map fun t => us.getD t undef) k1.rel (by
        rw [← hlen, range_get]; exact Reps.cons h3 hka')
      split at hk
      · rename_i x y hx' hy'
        obtain rfl := Option.some.inj hk
        obtain ⟨h7, h8⟩ := ext_seen (sh := ⟨bi.length, List.range (ka.length + 1), po, bo⟩) (d := (x, y)) (by unfold ext; rw [hx', hy']) h5
        exact ⟨k1.defers, u, h4, u, F', _, rfl, h8, h7, k2.trans h6⟩
      · cases hk
    · cases hk
  refine calls_of_wp hfn hb (h2 _ w F φ hgood _ fun a' w' F' φ' k1 k2 k3 => ?_)
  cases x with
  | exit i => exact absurd h1 (by simp [KfnW])
  | normal => exact hpost a' w' F' φ' k1 k2 k3 (fun i h => by cases h)
  | ret => exact hpost a' w' F' φ' k1 k2 k3 (fun i h => by cases h)

/-! ### The caller's side -/
/-- Where a block lay it lies still. -/
def SameO (φ φ' : Nat → Option Pl) (i : Nat) : Prop :=
  (∀ p g, φ i = some p → p.g = some g → ∃ q, φ' i = some q ∧ q.g = some g ∧ q.len = p.len ∧ q.cap = p.cap) ∧ (∀ p, φ i = some p → p.g = none → ∃ q, φ' i = some q ∧ q.g = none)
def SameP (φ φ' : Nat → Option Pl) (i : Nat) : Prop := ∀ p g, φ i = some p → p.g = some g → ∃ q, φ' i = some q ∧ q.g = some g
theorem kwL_get (m : List (Nat × Nat)) : ∀ (cs : List (AV κ)) (j : Nat), (kwL m cs)[j]? = (cs[j]?).map (AV.kw m)
  | [], j => by simp [kwL]
  | c :: cs, 0 => by simp [kwL]
  | c :: cs, j + 1 => by simp [kwL, kwL_get m cs j]
theorem kwL_length (m : List (Nat × Nat)) : ∀ (cs : List (AV κ)), (kwL m cs).length = cs.length
  | [] => rfl
  | c :: cs => by simp [kwL, kwL_length m cs]
theorem kw_flat (m : List (Nat × Nat)) {c : AV κ} (h : c.flat = true) : c.kw m = c := by
  cases c <;> simp [AV.flat] at h <;> simp [AV.kw]
theorem kwL_flat (m : List (Nat × Nat)) : ∀ {cs : List (AV κ)}, (∀ c ∈ cs, c.flat = true) → kwL m cs = cs
  | [], _ => rfl
  | c :: cs, h => by rw [kwL, kw_flat m (h c List.mem_cons_self), kwL_flat m fun c hc => h c (List.mem_cons_of_mem _ hc)]
theorem Rep.kw {m : List (Nat × Nat)} (hO : ∀ i, kwO m i = true → SameO φ φ' i) (hP : ∀ i, kwP m i = true → SameP φ φ' i) (hE : E.Ok) {v : AV κ} {u : Value} (h : Rep E F φ v u) : Rep E F φ' (v.kw m) u := by
  induction h with
  | bot u => exact .bot u
  | val v => exact .val v
  | agg cs us hl _ ih =>
    refine .agg _ us (by rw [kwL_length]; exact hl) fun j c u hc hu => ?_
    rw [kwL_get] at hc
    obtain ⟨c', hc', rfl⟩ := Option.map_eq_some_iff.1 hc
    exact ih j c' u hc' hu
  | tup cs us hl _ ih =>
    refine .tup _ us (by rw [kwL_length]; exact hl) fun j c u hc hu => ?_
    rw [kwL_get] at hc
    obtain ⟨c', hc', rfl⟩ := Option.map_eq_some_iff.1 hc
    exact ih j c' u hc' hu
  | ro k xs b off cap us hcap hc _ ih =>
    refine .ro k xs b off cap us hcap hc fun r x j c hx hj => ?_
    have := ih r x j c hx hj
    rwa [kw_flat m (hE.flat k x c (List.mem_of_getElem? hj))] at this
  | roNil k => exact .roNil k
  | roEmp k a cap => exact .roEmp k a cap
  | rop cs b off us hc _ ih =>
    refine .rop _ b off us (fun j hj => hc j (by rwa [kwL_length] at hj)) fun j c hj => ?_
    rw [kwL_get] at hj
    obtain ⟨c', hc', rfl⟩ := Option.map_eq_some_iff.1 hj
    exact ih j c' hc'
  | arr k xs u _ ih =>
    refine .arr k xs u ?_
    have : AV.kw m (.agg (xs.flatMap (E.enc k))) = .agg (xs.flatMap (E.enc k)) := by rw [AV.kw, kwL_flat m (flats hE)]
    rwa [this] at ih
  | tab k xs b hx _ ih =>
    refine .tab k xs b hx ?_
    have : AV.kw m (.rop (xs.flatMap (E.enc k))) = .rop (xs.flatMap (E.enc k)) := by rw [AV.kw, kwL_flat m (flats hE)]
    rwa [this] at ih
  | own k j p g h hg =>
    unfold AV.kw
    split
    · rename_i hj
      obtain ⟨q, h1, h2, h3, h4⟩ := (hO j hj).1 p g h hg
      rw [← h3, ← h4]
      exact .own k j q g h1 h2
    · exact .bot _
  | ownNil k j p h hg =>
    unfold AV.kw
    split
    · rename_i hj
      obtain ⟨q, h1, h2⟩ := (hO j hj).2 p h hg
      exact .ownNil k j q h1 h2
    · exact .bot _
  | ptr j off p g h hg =>
    unfold AV.kw
    split
    · rename_i hj
      obtain ⟨q, h1, h2⟩ := hP j hj p g h hg
      exact .ptr j off q g h1 h2
    · exact .bot _
  | ptrE k j row col p g h hg hr =>
    unfold AV.kw
    split
    · rename_i hj
      obtain ⟨q, h1, h2, h3, h4⟩ := (hO j hj).1 p g h hg
      exact .ptrE k j row col q g h1 h2 (by rw [h3]; exact hr)
    · exact .bot _
  | optrN j =>
    unfold AV.kw
    split
    · exact .optrN j
    · exact .bot _
  | optr j p g h hg =>
    unfold AV.kw
    split
    · rename_i hj
      obtain ⟨q, h1, h2⟩ := hP j hj p g h hg
      exact .optr j q g h1 h2
    · exact .bot _
  | fn f cs us hl _ ih =>
    refine .fn f _ us (by rw [kwL_length]; exact hl) fun j c u hc hu => ?_
    rw [kwL_get] at hc
    obtain ⟨c', hc', rfl⟩ := Option.map_eq_some_iff.1 hc
    exact ih j c' u hc' hu

theorem OwnB.kw {m : List (Nat × Nat)} (hO : ∀ i, kwO m i = true → SameO φ φ' i) (hP : ∀ i, kwP m i = true → SameP φ φ' i) (hE : E.Ok) {i : Nat} {b : Blk κ} (hj : φ' i = φ i) (h : OwnB E F φ w i b) : OwnB E F φ' w i (b.kw m) := by
  cases b with
  | dead => exact hj.trans h
  | raw t cs =>
    obtain ⟨p, g, cur, h1, h2, h3, h4, h5⟩ := h
    refine ⟨p, g, cur, hj.trans h1, h2, h3, by rw [kwL_length]; exact h4, fun j c u hc hu => ?_⟩
    rw [kwL_get] at hc
    obtain ⟨c', hc', rfl⟩ := Option.map_eq_some_iff.1 hc
    exact (h5 j c' u hc' hu).kw hO hP hE
  | rows k xs =>
    obtain ⟨p, h1, h2, hh⟩ := h
    refine ⟨p, hj.trans h1, h2, ?_⟩
    rcases hh with hh | ⟨g, cur, h3, h4, h5, h6, h7, h8⟩
    · exact .inl hh
    · refine .inr ⟨g, cur, h3, h4, h5, h6, h7, fun r x j c u hx hc hu => ?_⟩
      exact ((h8 r x j c u hx hc hu).flat hE (hE.flat k x c (List.mem_of_getElem? hc))).1

theorem lookup_none_of {m : List (Nat × Nat)} {i : Nat} (h : m.lookup i = none) : ∀ p ∈ m, p.1 ≠ i := by
  intro p hp
  rw [List.lookup_eq_none_iff] at h
  have := h p hp
  intro e
  simp [e] at this

mutual
/-- How block j is held at the same place of both: 1 by a pointer, 2 by a slice, 0 not. -/
def Pat.keeps (j : Nat) : Pat κ → Pat κ → Nat
  | .ptr i _, q => match q with | .ptr i' _ => if i = j ∧ i' = j then 1 else 0 | _ => 0
  | .own _ i, q => match q with | .own _ i' => if i = j ∧ i' = j then 2 else 0 | _ => 0
  | .fn _ ps, q => match q with | .fn _ qs => keepsL j ps qs | _ => 0
  | .agg ps, q => match q with | .agg qs => keepsL j ps qs | _ => 0
  | _, _ => 0
def keepsL (j : Nat) : List (Pat κ) → List (Pat κ) → Nat
  | p :: ps, qs => match qs with
    | q :: qs => match p.keeps j q with
      | 0 => keepsL j ps qs
      | n => n
    | [] => 0
  | [], _ => 0
end
/-- How block j is still held by an argument in the end: 1 by a pointer, 2 by a slice, 0 not. -/
def keptOf (ins po : List (Pat κ)) (j : Nat) : List (Nat × Nat) → Nat
  | [] => 0
  | (t, c) :: l => match ins[t]?, po[c]? with
    | some p, some q => match p.keeps j q with
      | 0 => keptOf ins po j l
      | n => n
    | _, _ => keptOf ins po j l
def modes (ins po : List (Pat κ)) (ka l : List Nat) : List (Nat × Nat) := (l.zip (List.range l.length)).map fun p => (p.1, keptOf ins po p.2 (ka.zip ((List.range ka.length).map (· + 1))))

def entW (ins : List (Pat κ)) (bi : List (BPat κ)) (ka : List Nat) (po : List (Pat κ)) (bo : List (BPat κ)) (f : dens ins × densB bi → Option (dens po × densB bo)) : Ent κ := fun args S K =>
  let s : St κ := { env := args, S := S, al := [] }
  let l := ids 0 (List.range args.length) s
  let t := gc 0 (List.range args.length) s
  let ρ : Nat → Option Nat := fun j => if j < l.length then l[j]? else some (j - l.length + S.length)
  if l.all fun i => decide (i < S.length) then
    (gets ins t.env).bind fun x => (getsB bi t.S).bind fun y => (f (x, y)).bind fun r =>
      let bs := (putsB bo r.2).map (Blk.ren ρ)
      let m := modes ins po ka l
      match puts po r.1 with
      | v :: _ => K (v.ren ρ) (setEach (S.map (Blk.kw m)) l (bs.take l.length) ++ bs.drop l.length) m
      | [] => none
  else none

theorem modes_get {ins po : List (Pat κ)} {ka l : List Nat} (hl : l.Nodup) {i : Nat} : (i ∉ l → (modes ins po ka l).lookup i = none) ∧ ∀ j, l[j]? = some i → (modes ins po ka l).lookup i = some (keptOf ins po j (ka.zip ((List.range ka.length).map (· + 1)))) := by
  have gen : ∀ (l : List Nat) (k : Nat) (g : Nat → Nat), l.Nodup → (i ∉ l → ((l.zip (List.range' k l.length)).map fun p => (p.1, g p.2)).lookup i = none) ∧ ∀ j, l[j]? = some i → ((l.zip (List.range' k l.length)).map fun p => (p.1, g p.2)).lookup i = some (g (k + j)) := by
    intro l
    induction l with
    | nil => intro k g _; exact ⟨fun _ => rfl, fun j h => by simp at h⟩
    | cons x l ih =>
      intro k g hn
      rw [List.nodup_cons] at hn
      obtain ⟨h1, h2⟩ := ih (k + 1) g hn.2
      simp only [List.length_cons, List.range'_succ, List.zip_cons_cons, List.map_cons, List.lookup_cons]
      refine ⟨fun hi => ?_, fun j hj => ?_⟩
      · simp only [List.mem_cons, not_or] at hi
        have : (i == x) = false := by simpa using hi.1
        rw [this]
        exact h1 hi.2
      · cases j with
        | zero => simp at hj; subst hj; simp
        | succ j =>
          simp at hj
          have : (i == x) = false := by
            simp only [beq_eq_false_iff_ne, ne_eq]
            intro e
            subst e
            exact hn.1 (List.mem_of_getElem? hj)
          rw [this]
          have := h2 j hj
          rw [this, show k + 1 + j = k + (j + 1) by omega]
  have := gen l 0 (fun j => keptOf ins po j (ka.zip ((List.range ka.length).map (· + 1)))) hl
  unfold modes
  rw [← List.range_eq_range'] at this
  refine ⟨this.1, fun j hj => by have h := this.2 j hj; rwa [Nat.zero_add] at h⟩

theorem puts_get : ∀ {ps : List (Pat κ)} {d : dens ps} {t : Nat} {p : Pat κ}, ps[t]? = some p → ∃ e : p.den, (puts ps d)[t]? = some (p.put e)
  | [], d, t, p, h => by simp at h
  | q :: ps, d, 0, p, h => by simp at h; subst h; exact ⟨d.1, rfl⟩
  | q :: ps, d, t + 1, p, h => by
    simp at h
    obtain ⟨e, he⟩ := puts_get (d := d.2) h
    exact ⟨e, by simpa [puts] using he⟩

/-- What a value shows of a block ahead and behind. -/
def Kept (φ φ' : Nat → Option Pl) (j n : Nat) : Prop := (n = 1 → SameP φ φ' j) ∧ (n = 2 → SameO φ φ' j)
theorem Kept.zero {j : Nat} : Kept φ φ' j 0 := ⟨fun h => (by cases h), fun h => (by cases h)⟩
mutual
theorem keeps_spec {φ φ' : Nat → Option Pl} {j : Nat} : ∀ (p q : Pat κ) (d : p.den) (e : q.den) (u : Value), Rep E F φ (p.put d) u → Rep E F' φ' (q.put e) u → Kept φ φ' j (p.keeps j q)
  | .ptr i o, q, d, e, u, h1, h2 => by
    cases q with
    | ptr i' o' =>
      show Kept φ φ' j (if i = j ∧ i' = j then 1 else 0)
      split
      · rename_i hc
        obtain ⟨rfl, rfl⟩ := hc
        have h1 : Rep E F φ (.ptr i' o) u := h1
        have h2 : Rep E F' φ' (.ptr i' o') u := h2
        cases h1 with
        | ptr _ _ p g hp hg =>
          cases h2 with
          | ptr _ _ q g' hq hg' =>
            refine ⟨fun _ p' g1 k1 k2 => ?_, fun h => by cases h⟩
            obtain rfl := Option.some.inj (hp.symm.trans k1)
            obtain rfl := Option.some.inj (hg.symm.trans k2)
            exact ⟨q, hq, hg'⟩
      · exact .zero
    | _ => exact .zero
  | .own k i, q, d, e, u, h1, h2 => by
    cases q with
    | own k' i' =>
      show Kept φ φ' j (if i = j ∧ i' = j then 2 else 0)
      split
      · rename_i hc
        obtain ⟨rfl, rfl⟩ := hc
        have r1 : Rep E F φ (.own k i') u := h1
        have r2 : Rep E F' φ' (.own k' i') u := h2
        refine ⟨fun h => (by cases h), fun _ => ?_⟩
        generalize hu0 : u = u0 at r2
        cases r1 with
        | own _ _ p g hp hg =>
          cases r2 with
          | own _ _ q g' hq hg' =>
            injection hu0 with e3 e4 e5
            injection e3 with e3
            injection e3 with e3
            subst e3
            refine ⟨fun p' g1 k1 k2 => ?_, fun p' k1 k2 => ?_⟩
            · obtain rfl := Option.some.inj (hp.symm.trans k1)
              obtain rfl := Option.some.inj (hg.symm.trans k2)
              exact ⟨q, hq, hg', e4.symm, e5.symm⟩
            · obtain rfl := Option.some.inj (hp.symm.trans k1)
              rw [k2] at hg; cases hg
          | ownNil _ _ q hq hg' => cases hu0
        | ownNil _ _ p hp hg =>
          cases r2 with
          | own _ _ q g' hq hg' => cases hu0
          | ownNil _ _ q hq hg' =>
            refine ⟨fun p' g1 k1 k2 => ?_, fun p' k1 k2 => ?_⟩
            · obtain rfl := Option.some.inj (hp.symm.trans k1)
              rw [k2] at hg; cases hg
            · exact ⟨q, hq, hg'⟩
      · exact .zero
    | _ => exact .zero
  | .fn f ps, q, d, e, u, h1, h2 => by
    cases q with
    | fn g qs =>
      obtain ⟨us, rfl, k1⟩ := fn_inv (show Rep E F φ (.fn f (puts ps d)) u from h1)
      obtain ⟨vs, hv, k2⟩ := fn_inv (show Rep E F' φ' (.fn g (puts qs e)) _ from h2)
      injection hv with _ _ hv
      subst hv
      exact keepsL_spec ps qs d e _ k1 k2
    | _ => exact .zero
  | .agg ps, q, d, e, u, h1, h2 => by
    cases q with
    | agg qs =>
      obtain ⟨us, rfl, k1⟩ := agg_inv (show Rep E F φ (.agg (puts ps d)) u from h1)
      obtain ⟨vs, hv, k2⟩ := agg_inv (show Rep E F' φ' (.agg (puts qs e)) _ from h2)
      injection hv with hv
      subst hv
      exact keepsL_spec ps qs d e _ k1 k2
    | _ => exact .zero
  | .any, _, _, _, _, _, _ => .zero
  | .int _, _, _, _, _, _, _ => .zero
  | .bool, _, _, _, _, _, _ => .zero
  | .str, _, _, _, _, _, _ => .zero
  | .nilS, _, _, _, _, _, _ => .zero
  | .optr _, _, _, _, _, _, _ => .zero
  | .nilP, _, _, _, _, _, _ => .zero
  | .ro _, _, _, _, _, _, _ => .zero
  | .tup _, _, _, _, _, _, _ => .zero
  | .rop _, _, _, _, _, _, _ => .zero
  | .arr _, _, _, _, _, _, _ => .zero
  | .tab _, _, _, _, _, _, _ => .zero
theorem keepsL_spec {φ φ' : Nat → Option Pl} {j : Nat} : ∀ (ps qs : List (Pat κ)) (d : dens ps) (e : dens qs) (us : List Value), Reps E F φ (puts ps d) us → Reps E F' φ' (puts qs e) us → Kept φ φ' j (keepsL j ps qs)
  | [], _, _, _, _, _, _ => .zero
  | p :: ps, [], _, _, _, _, _ => .zero
  | p :: ps, q :: qs, d, e, us, h1, h2 => by
    obtain ⟨u, us', rfl, a1, a2⟩ := (show Reps E F φ (p.put d.1 :: puts ps d.2) us from h1).cons_inv
    obtain ⟨u2, us2, e2, b1, b2⟩ := (show Reps E F' φ' (q.put e.1 :: puts qs e.2) _ from h2).cons_inv
    obtain ⟨rfl, rfl⟩ := List.cons.inj e2
    have k1 := keeps_spec (j := j) p q d.1 e.1 u a1 b1
    have k2 := keepsL_spec (j := j) ps qs d.2 e.2 us' a2 b2
    show Kept φ φ' j (match p.keeps j q with | 0 => keepsL j ps qs | n => n)
    split
    · exact k2
    · exact k1
end
/-- What an argument shows of its block ahead and behind. -/
theorem kept_spec {ins po : List (Pat κ)} {x : dens ins} {y : dens po} {us vs : List Value} {l : List (Nat × Nat)} {F F' : Nat → Option Obj} {φ φ' : Nat → Option Pl} (h1 : Reps E F φ (puts ins x) us) (h2 : Reps E F' φ' (puts po y) vs)
    (hl : ∀ p ∈ l, ∃ u, us[p.1]? = some u ∧ vs[p.2]? = some u) {j : Nat} : (keptOf ins po j l = 1 → SameP φ φ' j) ∧ (keptOf ins po j l = 2 → SameO φ φ' j) := by
  induction l with
  | nil => exact Kept.zero
  | cons p l ih =>
    have ih := ih fun p hp => hl p (List.mem_cons_of_mem _ hp)
    obtain ⟨t, c⟩ := p
    simp only [keptOf]
    split
    · rename_i q1 q2 hq1 hq2
      split
      · exact ih
      · obtain ⟨d1, hd1⟩ := puts_get (d := x) hq1
        obtain ⟨d2, hd2⟩ := puts_get (d := y) hq2
        obtain ⟨u, hu, hv⟩ := hl (t, c) List.mem_cons_self
        exact keeps_spec (j := j) _ _ _ _ u (h1.2 t _ u hd1 hu) (h2.2 c _ u hd2 hv)
    · exact ih

theorem join_relW (hE : E.Ok) {S bs' : List (Blk κ)} (hr : Rel E F φ S w) {l : List Nat} (hl : l.Nodup) (hln : ∀ i ∈ l, i < S.length) (hlb : l.length ≤ bs'.length) (hs : Rel E F' φ' bs' w') (hm : Mv w F (selφ φ l S.length) w' F' φ')
    {ρ : Nat → Option Nat} (hρ0 : ρ = fun j => if j < l.length then l[j]? else some (j - l.length + S.length)) (τ : Blk κ → Blk κ) (hτ : ∀ i b, S[i]? = some b → i ∉ l → OwnB E F' φ w' i b → OwnB E F' (postφ φ φ' l S.length) w' i (τ b)) :
    Rel E F' (postφ φ φ' l S.length) (setEach (S.map τ) l ((bs'.map (Blk.ren ρ)).take l.length) ++ (bs'.map (Blk.ren ρ)).drop l.length) w' ∧ Mv w F φ w' F' (postφ φ φ' l S.length) ∧ (∀ i j, ρ i = some j → postφ φ φ' l S.length j = φ' i) := by
  let n := S.length
  have hρ : ∀ i j, ρ i = some j → postφ φ φ' l n j = φ' i := fun i j h => by
    rw [hρ0] at h
    simp only at h
    by_cases hi : i < l.length
    · rw [if_pos hi] at h
      have hm : j ∈ l := List.mem_of_getElem? h
      have hidx : l.idxOf j = i := by
        have h1 : l[l.idxOf j]? = some j := by
          rw [List.getElem?_eq_getElem (List.idxOf_lt_length_iff.2 hm), List.getElem_idxOf]
        exact (List.getElem?_inj (List.idxOf_lt_length_iff.2 hm) hl).1 (h1.trans h.symm)
      simp only [postφ, List.contains_iff_mem.2 hm, if_true, hidx]
    · rw [if_neg hi] at h
      obtain rfl := Option.some.inj h
      have hnm : l.contains (i - l.length + n) = false := by
        rw [Bool.eq_false_iff]
        intro hc
        have := hln _ (List.contains_iff_mem.1 hc)
        omega
      simp only [postφ, n] at hnm ⊢
      rw [hnm]
      simp only [Bool.false_eq_true, if_false]
      rw [if_neg (by omega)]
      congr 1
      omega
  have hkφ : ∀ i, i ∉ l → i < n → postφ φ φ' l n i = φ i := fun i h h' => by
    have hc : l.contains i = false := by rw [Bool.eq_false_iff]; intro hc; exact h (List.contains_iff_mem.1 hc)
    simp only [postφ, hc, Bool.false_eq_true, if_false, if_pos h']
  have inv : ∀ {i : Nat} {p : Pl}, postφ φ φ' l n i = some p → (∃ j, l[j]? = some i ∧ φ' j = some p ∧ j < l.length) ∨ (i ∉ l ∧ i < n ∧ φ i = some p) ∨ (i ∉ l ∧ n ≤ i ∧ φ' (i - n + l.length) = some p) := fun {i p} h => by
    simp only [postφ] at h
    split at h
    · rename_i hc
      have hm := List.contains_iff_mem.1 hc
      exact .inl ⟨l.idxOf i, by rw [List.getElem?_eq_getElem (List.idxOf_lt_length_iff.2 hm), List.getElem_idxOf], h, List.idxOf_lt_length_iff.2 hm⟩
    · rename_i hc
      have hnm : i ∉ l := fun hm => hc (List.contains_iff_mem.2 hm)
      split at h
      · rename_i hi; exact .inr (.inl ⟨hnm, hi, h⟩)
      · rename_i hi; exact .inr (.inr ⟨hnm, by omega, h⟩)
  have sel : ∀ {j i : Nat}, l[j]? = some i → selφ φ l n j = φ i := fun {j i} h => by
    simp only [selφ, h, Option.bind_some]
    rw [if_pos (hln i (List.mem_of_getElem? h))]
  have apartHeld : ∀ {i : Nat} {p : Pl} {g : Nat}, i ∉ l → φ i = some p → p.g = some g → ¬ Held (selφ φ l n) g := fun {i p g} hi h1 h2 => by
    rintro ⟨j, q, h3, h4⟩
    cases hj : l[j]? with
    | none => simp [selφ, hj] at h3
    | some i' =>
      rw [sel hj] at h3
      have := hr.inj i i' p q g h1 h3 h2 h4
      subst this
      exact hi (List.mem_of_getElem? hj)
  have keepHeap : ∀ {i : Nat} {p : Pl} {g : Nat} {ob : Obj}, i ∉ l → φ i = some p → p.g = some g → w.heap[g]? = some ob → w'.heap[g]? = some ob := fun {i p g ob} hi h1 h2 h3 => by
    rw [hm.keep g (hr.lt i p g h1 h2) (apartHeld hi h1 h2)]; exact h3
  have newNe : ∀ {j : Nat} {q : Pl} {i : Nat} {p : Pl} {g : Nat}, φ' j = some q → q.g = some g → i ∉ l → φ i = some p → p.g = some g → False := fun {j q i p g} h1 h2 hi h3 h4 =>
    apartHeld hi h3 h4 (hm.held g ⟨j, q, h1, h2⟩ (hr.lt i p g h3 h4))
  have idx : ∀ {j i : Nat}, l[j]? = some i → postφ φ φ' l n i = φ' j := fun {j i} h => hρ j i (by
    have hj : j < l.length := (List.getElem?_eq_some_iff.1 h).1
    rw [hρ0]; simp only [if_pos hj]; exact h)
  have blkOk : ∀ (i : Nat) (b : Blk κ), (setEach (S.map τ) l ((bs'.map (Blk.ren ρ)).take l.length) ++ (bs'.map (Blk.ren ρ)).drop l.length)[i]? = some b → OwnB E F' (postφ φ φ' l n) w' i b := by
    intro i b hb
    have hn' : (setEach (S.map τ) l ((bs'.map (Blk.ren ρ)).take l.length)).length = n := by rw [setEach_length]; simp [n]
    by_cases hi : i < n
    · rw [List.getElem?_append_left (by rw [hn']; exact hi)] at hb
      rcases setEach_get _ _ _ _ _ (by simp; omega) hb with ⟨j, h1, h2⟩ | ⟨h1, h2⟩
      · rw [List.getElem?_take] at h2
        split at h2
        · rw [List.getElem?_map] at h2
          obtain ⟨b', hb', rfl⟩ := Option.map_eq_some_iff.1 h2
          exact OwnB.ren hE hρ (idx h1) (hs.blk j b' hb')
        · cases h2
      · rw [List.getElem?_map] at h2
        obtain ⟨b', hb', rfl⟩ := Option.map_eq_some_iff.1 h2
        have h0 := (hr.blk i b' hb').mono hm.le
        refine hτ i b' hb' h1 ?_
        cases b' with
        | dead => exact h0
        | raw t cs =>
          obtain ⟨p, g, cur, h3, h4, h5, h6, h7⟩ := h0
          exact ⟨p, g, cur, h3, h4, keepHeap h1 h3 h4 h5, h6, h7⟩
        | rows kk xs =>
          obtain ⟨p, h3, h4, hh⟩ := h0
          refine ⟨p, h3, h4, ?_⟩
          rcases hh with hh | ⟨g, cur, h5, h6, h7⟩
          · exact .inl hh
          · exact .inr ⟨g, cur, h5, keepHeap h1 h3 h5 h6, h7⟩
    · rw [List.getElem?_append_right (by rw [hn']; omega), hn', List.getElem?_drop, List.getElem?_map] at hb
      obtain ⟨b', hb', rfl⟩ := Option.map_eq_some_iff.1 hb
      refine OwnB.ren hE hρ ?_ (hs.blk _ b' hb')
      have := hρ (l.length + (i - n)) i (by rw [hρ0]; simp only; rw [if_neg (by omega)]; congr 1; omega)
      exact this
  refine ⟨⟨hs.frz, blkOk, fun i hi => ?_, fun i j p q g h1 h2 h3 h4 => ?_, fun i p g h1 h2 => ?_, fun i p g h1 h2 => ?_⟩, ?_, hρ⟩
  · have hi : n + (bs'.length - l.length) ≤ i := by simpa [setEach_length, n] using hi
    cases hp : postφ φ φ' l n i with
    | none => rfl
    | some p =>
      rcases inv hp with ⟨j, h1, _, _⟩ | ⟨_, h1, _⟩ | ⟨_, h1, h2⟩
      · have := hln i (List.mem_of_getElem? h1); simp only [n] at hi; omega
      · omega
      · rw [hs.out _ (by omega)] at h2; cases h2
  · rcases inv h1 with ⟨i', a1, a2, a3⟩ | ⟨a1, a2, a3⟩ | ⟨a1, a2, a3⟩
    · rcases inv h2 with ⟨j', b1, b2, b3⟩ | ⟨b1, b2, b3⟩ | ⟨b1, b2, b3⟩
      · have := hs.inj i' j' p q g a2 b2 h3 h4
        subst this
        exact Option.some.inj (a1.symm.trans b1)
      · exact (newNe a2 h3 b1 b3 h4).elim
      · have := hs.inj i' _ p q g a2 b3 h3 h4; omega
    · rcases inv h2 with ⟨j', b1, b2, b3⟩ | ⟨b1, b2, b3⟩ | ⟨b1, b2, b3⟩
      · exact (newNe b2 h4 a1 a3 h3).elim
      · exact hr.inj i j p q g a3 b3 h3 h4
      · exact (newNe b3 h4 a1 a3 h3).elim
    · rcases inv h2 with ⟨j', b1, b2, b3⟩ | ⟨b1, b2, b3⟩ | ⟨b1, b2, b3⟩
      · have := hs.inj _ j' p q g a3 b2 h3 h4; omega
      · exact (newNe a3 h3 b1 b3 h4).elim
      · have := hs.inj _ _ p q g a3 b3 h3 h4; omega
  · rcases inv h1 with ⟨i', a1, a2, a3⟩ | ⟨a1, a2, a3⟩ | ⟨a1, a2, a3⟩
    · exact hs.apart i' p g a2 h2
    · cases hF : F' g with
      | none => rfl
      | some o =>
        rcases hm.new g o hF (hr.apart i p g a3 h2) with h5 | h5
        · have := hr.lt i p g a3 h2; omega
        · exact (apartHeld a1 a3 h2 h5).elim
    · exact hs.apart _ p g a3 h2
  · rcases inv h1 with ⟨i', a1, a2, a3⟩ | ⟨a1, a2, a3⟩ | ⟨a1, a2, a3⟩
    · exact hs.lt i' p g a2 h2
    · have := hr.lt i p g a3 h2; have := hm.size; omega
    · exact hs.lt _ p g a3 h2
  · refine ⟨hm.os, hm.tape, hm.output, hm.size, fun b hb hnh => hm.keep b hb fun ⟨j, q, h1, h2⟩ => hnh ?_, fun b hb hlt => ?_, hm.le, fun b o h1 h2 => ?_⟩
    · cases hj : l[j]? with
      | none => simp [selφ, hj] at h1
      | some i => rw [sel hj] at h1; exact ⟨i, q, h1, h2⟩
    · obtain ⟨i, p, h1, h2⟩ := hb
      have up : Held (selφ φ l n) b → Held φ b := fun ⟨j, q, h3, h4⟩ => by
        cases hj : l[j]? with
        | none => simp [selφ, hj] at h3
        | some i => rw [sel hj] at h3; exact ⟨i, q, h3, h4⟩
      rcases inv h1 with ⟨j, _, h3, _⟩ | ⟨_, _, h3⟩ | ⟨_, _, h3⟩
      · exact up (hm.held b ⟨j, p, h3, h2⟩ hlt)
      · exact ⟨i, p, h3, h2⟩
      · exact up (hm.held b ⟨_, p, h3, h2⟩ hlt)
    · rcases hm.new b o h1 h2 with h3 | ⟨j, q, h3, h4⟩
      · exact .inl h3
      · cases hj : l[j]? with
        | none => simp [selφ, hj] at h3
        | some i => rw [sel hj] at h3; exact .inr ⟨i, q, h3, h4⟩

theorem getsB_len : ∀ {bi : List (BPat κ)} {bs : List (Blk κ)} {y : densB bi}, getsB bi bs = some y → bi.length = bs.length
  | [], bs, y, h => by
    simp only [getsB] at h
    split at h
    · rfl
    · cases h
  | p :: ps, bs, y, h => by
    simp only [getsB] at h
    split at h
    · split at h
      · rename_i _ _ _ hy
        simp [getsB_len hy]
      · cases h
    · cases h

theorem ent_okW (hE : E.Ok) {G : Nat → AV κ} {fid : FuncId} {ins : List (Pat κ)} {bi : List (BPat κ)} {ka : List Nat} {po : List (Pat κ)} {bo : List (BPat κ)} {f : dens ins × densB bi → Option (dens po × densB bo)}
    (henter : ∀ (us : Array Value) (w : World), (callFunc fid us).run P w = .ok (.enter fid us) w) (hlb : bi.length ≤ bo.length) (hka : (ka.all fun t => decide (t < ins.length)) = true) (h : CallW P E G fid ins bi ka po bo f) : EntOk P E G fid (entW ins bi ka po bo f) := by
  intro β args S K r hK
  refine ⟨henter, ?_⟩
  unfold entW at hK
  simp only at hK
  split at hK
  · rename_i hall
    have hln : ∀ i ∈ ids 0 (List.range args.length) ({ env := args, S := S, al := [] } : St κ), i < S.length := fun i hi => by simpa using List.all_eq_true.1 hall i hi
    obtain ⟨x, hx, hK⟩ := Option.bind_eq_some_iff.1 hK
    obtain ⟨y, hy, hK⟩ := Option.bind_eq_some_iff.1 hK
    obtain ⟨q, hq, hK⟩ := Option.bind_eq_some_iff.1 hK
    split at hK
    · rename_i v vs hv
      refine ⟨_, _, _, hK, fun w F φ us hr hg hargs => ?_⟩
      have hnd : (ids 0 (List.range args.length) ({ env := args, S := S, al := [] } : St κ)).Nodup := nub_nodup _
      obtain ⟨h1, h2⟩ := gc_seen hE (s := { env := args, S := S, al := [] }) (m := 0) (live := List.range args.length) (us := us.toList) hr (by rw [range_get]; exact hargs)
      obtain ⟨h3, h4⟩ := ext_seen (sh := ⟨0, List.range args.length, ins, bi⟩) (d := (x, y)) (s := gc 0 (List.range args.length) { env := args, S := S, al := [] }) (by unfold ext; rw [hx, hy]) h1
      have hbl : (ids 0 (List.range args.length) ({ env := args, S := S, al := [] } : St κ)).length = bi.length := by
        have := getsB_len hy
        rw [this]; simp [gc, sels]
      have hGlob : GlobOk E G F := hg
      refine (h (x, y) q hq w F _ us h4 hGlob h3).mono ?_
      rintro e w' ⟨u, F', φ', rfl, h5, h6, h7⟩
      simp only at h5 h6 h7
      have hisz : ins.length = us.size := by
        have := h3.1
        rw [puts_len] at this
        simpa using this
      -- the places behind the call
      have hsel : ∀ {j i : Nat}, (ids 0 (List.range args.length) ({ env := args, S := S, al := [] } : St κ))[j]? = some i → selφ φ (ids 0 (List.range args.length) ({ env := args, S := S, al := [] } : St κ)) S.length j = φ i := fun {j i} hj => by
        simp only [selφ, hj, Option.bind_some]
        rw [if_pos (hln i (List.mem_of_getElem? hj))]
      generalize hl : ids 0 (List.range args.length) ({ env := args, S := S, al := [] } : St κ) = l at *
      have hpos : ∀ {j i : Nat}, l[j]? = some i → postφ φ φ' l S.length i = φ' j := fun {j i} hj => by
        have hm : i ∈ l := List.mem_of_getElem? hj
        have hidx : l.idxOf i = j := by
          have h1 : l[l.idxOf i]? = some i := by
            rw [List.getElem?_eq_getElem (List.idxOf_lt_length_iff.2 hm), List.getElem_idxOf]
          exact (List.getElem?_inj (List.idxOf_lt_length_iff.2 hm) hnd).1 (h1.trans hj.symm)
        simp only [postφ, List.contains_iff_mem.2 hm, if_true, hidx]
      have hout : ∀ {i : Nat}, i ∉ l → (∀ p, φ i = some p → postφ φ φ' l S.length i = some p) := fun {i} hi p hp => by
        have hc : l.contains i = false := by rw [Bool.eq_false_iff]; intro hc; exact hi (List.contains_iff_mem.1 hc)
        have hlt : i < S.length := by
          rcases Nat.lt_or_ge i S.length with hlt | hge
          · exact hlt
          · rw [hr.out i hge] at hp; cases hp
        simp only [postφ, hc, Bool.false_eq_true, if_false, if_pos hlt]
        exact hp
      have hzip : ∀ p ∈ ka.zip ((List.range ka.length).map (· + 1)), ∃ u', us.toList[p.1]? = some u' ∧ (u :: ka.map fun t => us.getD t undef)[p.2]? = some u' := by
        intro p hp
        obtain ⟨j, hj⟩ := List.mem_iff_getElem?.1 hp
        rw [List.getElem?_zip_eq_some] at hj
        obtain ⟨hj1, hj2⟩ := hj
        rw [List.getElem?_map] at hj2
        obtain ⟨j', hj', e⟩ := Option.map_eq_some_iff.1 hj2
        have : j' = j := by
          rw [List.getElem?_eq_some_iff] at hj'
          obtain ⟨_, h⟩ := hj'
          simpa using h.symm
        subst this
        have hlt := List.all_eq_true.1 hka p.1 (List.mem_of_getElem? hj1)
        have hlt : p.1 < us.size := by rw [← hisz]; simpa using hlt
        refine ⟨us[p.1], by simp [hlt], ?_⟩
        rw [← e]
        simp [hj1, hlt]
      have hks := fun j => kept_spec (ins := ins) (po := po) (x := x) (y := q.1) (j := j) h3 h6 hzip
      have hO : ∀ i, kwO (modes ins po ka l) i = true → SameO φ (postφ φ φ' l S.length) i := fun i hi => by
        by_cases hm : i ∈ l
        · obtain ⟨j, hj⟩ := List.mem_iff_getElem?.1 hm
          simp only [kwO, (modes_get hnd).2 j hj] at hi
          have := (hks j).2 (by simpa using hi)
          unfold SameO at this ⊢
          rw [hsel hj] at this
          rw [hpos hj]
          exact this
        · exact ⟨fun p g h1 h2 => ⟨p, hout hm p h1, h2, rfl, rfl⟩, fun p h1 h2 => ⟨p, hout hm p h1, h2⟩⟩
      have hP : ∀ i, kwP (modes ins po ka l) i = true → SameP φ (postφ φ φ' l S.length) i := fun i hi => by
        by_cases hm : i ∈ l
        · obtain ⟨j, hj⟩ := List.mem_iff_getElem?.1 hm
          simp only [kwP, (modes_get hnd).2 j hj] at hi
          have := (hks j).1 (by simpa using hi)
          unfold SameP at this ⊢
          rw [hsel hj] at this
          rw [hpos hj]
          exact this
        · exact fun p g h1 h2 => ⟨p, hout hm p h1, h2⟩
      obtain ⟨k1, k2, k3⟩ := join_relW hE hr hnd hln (by rw [putsB_length, hbl]; exact hlb) h5 h7 rfl (Blk.kw (modes ins po ka l)) (fun i b hb hi ho => ho.kw hO hP hE (by
        have hlt : i < S.length := (List.getElem?_eq_some_iff.1 hb).1
        have hc : l.contains i = false := by rw [Bool.eq_false_iff]; intro hc; exact hi (List.contains_iff_mem.1 hc)
        simp only [postφ, hc, Bool.false_eq_true, if_false, if_pos hlt]))
      refine ⟨u, F', _, rfl, k1, ?_, k2, fun es vs he => ?_⟩
      · have h8 := h6.2 0 v u (by rw [hv]; rfl) rfl
        exact h8.ren k3 hE
      · have he' := he
        cases hmm : modes ins po ka l with
        | nil =>
          have hO' : ∀ i, kwO ([] : List (Nat × Nat)) i = true → SameO φ (postφ φ φ' l S.length) i := by rw [← hmm]; exact hO
          have hP' : ∀ i, kwP ([] : List (Nat × Nat)) i = true → SameP φ (postφ φ φ' l S.length) i := by rw [← hmm]; exact hP
          have hl0 : l = [] := by
            have : (modes ins po ka l).length = 0 := by rw [hmm]; rfl
            simp [modes] at this
            exact this
          refine ⟨he.1, fun j c u hc hu => ((he.2 j c u hc hu).mono k2.le).place fun i p hp => hout (by rw [hl0]; simp) p hp⟩
        | cons m0 m1 =>
          show Reps E F' _ (kwL (m0 :: m1) es) vs
          rw [← hmm]
          refine ⟨by rw [kwL_length]; exact he.1, fun j c u hc hu => ?_⟩
          rw [kwL_get] at hc
          obtain ⟨c', hc', rfl⟩ := Option.map_eq_some_iff.1 hc
          exact ((he.2 j c' u hc' hu).mono k2.le).kw hO hP hE
    · cases hK
  · cases hK
end
end Go.Am
