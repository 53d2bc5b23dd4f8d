/- A function's result that is frozen where it is handed back: slices of its own become plain data. -/
import Derived.Test.YtebbipofemjnmaaDoorTAm16w
namespace Go.Am
noncomputable section
open Go.RowKit
variable {κ : Kinds} {E : Encs κ} {F F' : Nat → Option Obj} {φ φ' : Nat → Option Pl} {P : Program} {C : Ctx κ} {a : Act} {w w' : World} {s s' : St κ} {kindOf : TypeId → Option κ.Kc}

mutual
def AV.froz (i : Nat) (k : κ.Kc) (xs : List (κ.ty k)) : AV κ → AV κ
  | .own k' j => if j = i then (if k' = k then .ro k xs else .bot) else .own k' j
  | .ptr j o => if j = i then .bot else .ptr j o
  | .ptrE k' j r c => if j = i then .bot else .ptrE k' j r c
  | .optr j => if j = i then .bot else .optr j
  | .agg cs => .agg (frozL i k xs cs)
  | .tup cs => .tup (frozL i k xs cs)
  | .fn f cs => .fn f (frozL i k xs cs)
  | .rop cs => .rop (frozL i k xs cs)
  | v => v
def frozL (i : Nat) (k : κ.Kc) (xs : List (κ.ty k)) : List (AV κ) → List (AV κ)
  | [] => []
  | c :: cs => c.froz i k xs :: frozL i k xs cs
end
theorem frozL_get (i : Nat) (k : κ.Kc) (xs : List (κ.ty k)) : ∀ (cs : List (AV κ)) (j : Nat), (frozL i k xs cs)[j]? = (cs[j]?).map (AV.froz i k xs)
  | [], j => by simp [frozL]
  | c :: cs, 0 => by simp [frozL]
  | c :: cs, j + 1 => by simp [frozL, frozL_get i k xs cs j]
theorem frozL_length (i : Nat) (k : κ.Kc) (xs : List (κ.ty k)) : ∀ (cs : List (AV κ)), (frozL i k xs cs).length = cs.length
  | [] => rfl
  | c :: cs => by simp [frozL, frozL_length i k xs cs]
theorem froz_flat (i : Nat) (k : κ.Kc) (xs : List (κ.ty k)) {c : AV κ} (h : c.flat = true) : c.froz i k xs = c := by
  cases c <;> simp [AV.flat] at h <;> simp [AV.froz]
theorem frozL_flat (i : Nat) (k : κ.Kc) (xs : List (κ.ty k)) : ∀ {cs : List (AV κ)}, (∀ c ∈ cs, c.flat = true) → frozL i k xs cs = cs
  | [], _ => rfl
  | c :: cs, h => by rw [frozL, froz_flat i k xs (h c List.mem_cons_self), frozL_flat i k xs fun c hc => h c (List.mem_cons_of_mem _ hc)]
theorem Rep.froz {i : Nat} {k : κ.Kc} {xs : List (κ.ty k)} (hφ : ∀ j, j ≠ i → φ' j = φ j) (hF : Le F F') (hro : ∀ u, Rep E F φ (.own k i) u → Rep E F' φ' (.ro k xs) u) (hE : E.Ok) {v : AV κ} {u : Value} (h : Rep E F φ v u) : Rep E F' φ' (v.froz i k xs) u := by
  induction h with
  | bot u => exact .bot u
  | val v => exact .val v
  | agg cs us hl _ ih =>
    refine .agg _ us (by rw [frozL_length]; exact hl) fun j c u hc hu => ?_
    rw [frozL_get] at hc
    obtain ⟨c', hc', rfl⟩ := Option.map_eq_some_iff.1 hc
    exact ih j c' u hc' hu
  | tup cs us hl _ ih =>
    refine .tup _ us (by rw [frozL_length]; exact hl) fun j c u hc hu => ?_
    rw [frozL_get] at hc
    obtain ⟨c', hc', rfl⟩ := Option.map_eq_some_iff.1 hc
    exact ih j c' u hc' hu
  | ro k' ys b off cap us hcap hc _ ih =>
    refine .ro k' ys b off cap us hcap (fun r j h1 h2 => FCell.mono hF (hc r j h1 h2)) fun r x j c hx hj => ?_
    have := ih r x j c hx hj
    rwa [froz_flat i k xs (hE.flat k' x c (List.mem_of_getElem? hj))] at this
  | roNil k => exact .roNil k
  | roEmp k a cap => exact .roEmp k a cap
  | rop cs b off us hc _ ih =>
    refine .rop _ b off us (fun j hj => FCell.mono hF (hc j (by rwa [frozL_length] at hj))) fun j c hj => ?_
    rw [frozL_get] at hj
    obtain ⟨c', hc', rfl⟩ := Option.map_eq_some_iff.1 hj
    exact ih j c' hc'
  | arr k' ys u _ ih =>
    refine .arr k' ys u ?_
    have : AV.froz i k xs (.agg (ys.flatMap (E.enc k'))) = .agg (ys.flatMap (E.enc k')) := by rw [AV.froz, frozL_flat i k xs (flats hE)]
    rwa [this] at ih
  | tab k' ys b hx _ ih =>
    refine .tab k' ys b (by obtain ⟨c, ty, fr, h1, h2⟩ := hx; exact ⟨c, ty, fr, hF _ _ h1, h2⟩) ?_
    have : AV.froz i k xs (.rop (ys.flatMap (E.enc k'))) = .rop (ys.flatMap (E.enc k')) := by rw [AV.froz, frozL_flat i k xs (flats hE)]
    rwa [this] at ih
  | own k' j p g h hg =>
    unfold AV.froz
    split
    · rename_i hj
      subst hj
      split
      · rename_i hk
        subst hk
        exact hro _ (.own k' j p g h hg)
      · exact .bot _
    · rename_i hne; exact .own k' j p g (by rw [hφ j hne]; exact h) hg
  | ownNil k' j p h hg =>
    unfold AV.froz
    split
    · rename_i hj
      subst hj
      split
      · rename_i hk
        subst hk
        exact hro _ (.ownNil k' j p h hg)
      · exact .bot _
    · rename_i hne; exact .ownNil k' j p (by rw [hφ j hne]; exact h) hg
  | ptr j off p g h hg =>
    unfold AV.froz
    split
    · exact .bot _
    · rename_i hne; exact .ptr j off p g (by rw [hφ j hne]; exact h) hg
  | ptrE k' j row col p g h hg hr =>
    unfold AV.froz
    split
    · exact .bot _
    · rename_i hne; exact .ptrE k' j row col p g (by rw [hφ j hne]; exact h) hg hr
  | optrN j =>
    unfold AV.froz
    split
    · exact .bot _
    · exact .optrN j
  | optr j p g h hg =>
    unfold AV.froz
    split
    · exact .bot _
    · rename_i hne; exact .optr j p g (by rw [hφ j hne]; exact h) hg
  | fn f cs us hl _ ih =>
    refine .fn f _ us (by rw [frozL_length]; exact hl) fun j c u hc hu => ?_
    rw [frozL_get] at hc
    obtain ⟨c', hc', rfl⟩ := Option.map_eq_some_iff.1 hc
    exact ih j c' u hc' hu

theorem froz_one (hE : C.E.Ok) (hg : Good C.E C.glob a w s F φ) {i : Nat} {k : κ.Kc} {xs : List (κ.ty k)} (hS : s.S[i]? = some (.rows k xs)) :
    ∃ F' φ', Good C.E C.glob a w (s.turn i .dead) F' φ' ∧ Mv w F φ w F' φ' ∧ Le F F' ∧ (∀ j, j ≠ i → φ' j = φ j) ∧ ∀ u, Rep C.E F φ (.own k i) u → Rep C.E F' φ' (.ro k xs) u := by
  obtain ⟨p, h1, h4, hh⟩ := hg.rel.blk i _ hS
  rcases hh with ⟨hpg, hx⟩ | ⟨g, cur, hpg, h5, h6, h7, h8, h9⟩
  · have := turn_good hE hg hS (w' := w) (row := none) ⟨rfl, rfl, rfl, Nat.le_refl _, fun _ _ _ => rfl⟩ (fun k h => by cases h) none (b' := .dead) (F' := F) (fun p g h => by cases h) (Le.refl F) hg.rel.frz (fun j q g' h3 h4 => by
      by_cases hj : j = i
      · subst hj; rw [at_self] at h3; cases h3
      · rw [at_ne _ _ hj] at h3; exact hg.rel.apart j q g' h3 h4) (fun x o' h1 h2 => by rw [h2] at h1; cases h1) (at_self _ _ _)
    refine ⟨F, _, this.1, this.2, Le.refl F, fun j hj => at_ne _ _ hj, fun u hu => ?_⟩
    subst hx
    cases hu with
    | own _ _ p' g hp hpg' =>
      obtain rfl := Option.some.inj (h1.symm.trans hp)
      rw [hpg] at hpg'; cases hpg'
    | ownNil _ _ _ _ _ => exact .roNil k
  · have hle : Le F (fun x => if x = g then some (.cells cur (κ.elem k) (0, 0)) else F x) := fun x o' hx => by
      have hne : x ≠ g := fun e => by subst e; rw [hg.rel.apart i p x h1 hpg] at hx; cases hx
      show (if x = g then _ else F x) = some o'
      rw [if_neg hne]; exact hx
    have := turn_good hE hg hS (w' := w) (row := none) ⟨rfl, rfl, rfl, Nat.le_refl _, fun _ _ _ => rfl⟩ (fun k h => by cases h) none (b' := .dead) (F' := fun x => if x = g then some (.cells cur (κ.elem k) (0, 0)) else F x) (fun p g h => by cases h) hle (fun x o' hx => by
        split at hx
        · rename_i e
          subst e
          obtain rfl := Option.some.inj hx
          exact h5
        · exact hg.rel.frz x o' hx) (fun j q g' h3 h4 => by
        by_cases hj : j = i
        · subst hj; rw [at_self] at h3; cases h3
        · rw [at_ne _ _ hj] at h3
          have hne : g' ≠ g := fun e => by subst e; exact hj (hg.rel.inj j i q p g' h3 h1 h4 hpg)
          show (if g' = g then _ else F g') = none
          rw [if_neg hne]
          exact hg.rel.apart j q g' h3 h4) (fun x o' h3 h4 => by
        split at h3
        · rename_i e
          subst e
          exact .inr ⟨i, p, h1, hpg⟩
        · rw [h4] at h3; cases h3) (at_self _ _ _)
    refine ⟨_, _, this.1, this.2, hle, fun j hj => at_ne _ _ hj, fun u hu => ?_⟩
    cases hu with
    | ownNil _ _ p' hp hpg' =>
      obtain rfl := Option.some.inj (h1.symm.trans hp)
      rw [hpg] at hpg'; cases hpg'
    | own _ _ p' g' hp hpg' =>
      obtain rfl := Option.some.inj (h1.symm.trans hp)
      obtain rfl := Option.some.inj (hpg.symm.trans hpg')
      rw [h4]
      refine .ro k xs g 0 p.cap (fun r j => cur.getD (r * κ.sz k + j) undef) h7 (fun r j hr hj => ?_) (fun r x j c hx hc => ?_)
      · have h10 : (r + 1) * κ.sz k ≤ p.cap * κ.sz k := Nat.mul_le_mul_right _ (by omega)
        rw [Nat.add_mul, Nat.one_mul] at h10
        have : r * κ.sz k + j < cur.size := by omega
        simp [FCell, this]
      · have hj : j < κ.sz k := by rw [← hE.len k x]; exact (List.getElem?_eq_some_iff.1 hc).1
        have hrl : r < xs.length := (List.getElem?_eq_some_iff.1 hx).1
        have h10 : (r + 1) * κ.sz k ≤ p.cap * κ.sz k := Nat.mul_le_mul_right _ (by omega)
        rw [Nat.add_mul, Nat.one_mul] at h10
        have hlt : r * κ.sz k + j < cur.size := by omega
        have := h9 r x j c _ hx hc (show cur[r * κ.sz k + j]? = some (cur.getD (r * κ.sz k + j) undef) by simp [hlt])
        exact ((this.flat hE (hE.flat k x c (List.mem_of_getElem? hc))).1).mono hle

/-- All slices of its own that a value names are frozen. -/
def shutAll {β : Type} : List Nat → AV κ → St κ → (AV κ → St κ → Option β) → Option β
  | [], v, s, K => K v s
  | i :: l, v, s, K => match s.S[i]? with
    | some (.rows k xs) => shutAll l (v.froz i k xs) (s.turn i .dead) K
    | _ => none
theorem shutAll_sound {β : Type} (hE : C.E.Ok) {r : β} : ∀ {l : List Nat} {v : AV κ} {s : St κ} {K : AV κ → St κ → Option β}, shutAll l v s K = some r → ∃ v' s', K v' s' = some r ∧
    ∀ (a : Act) (w : World) (F : Nat → Option Obj) (φ : Nat → Option Pl) (u : Value), Good C.E C.glob a w s F φ → Rep C.E F φ v u → ∃ F' φ', Good C.E C.glob a w s' F' φ' ∧ Rep C.E F' φ' v' u ∧ Mv w F φ w F' φ'
  | [], v, s, K, h => ⟨v, s, h, fun a w F φ u hg hr => ⟨F, φ, hg, hr, Mv.refl _ _ _⟩⟩
  | i :: l, v, s, K, h => by
    unfold shutAll at h
    split at h
    · rename_i k xs hS
      obtain ⟨v', s', h1, h2⟩ := shutAll_sound hE h
      refine ⟨v', s', h1, fun a w F φ u hg hr => ?_⟩
      obtain ⟨F1, φ1, k1, k2, k3, k4, k5⟩ := froz_one hE hg hS
      obtain ⟨F2, φ2, m1, m2, m3⟩ := h2 a w F1 φ1 u k1 (hr.froz k4 k3 k5 hE)
      exact ⟨F2, φ2, m1, m2, k2.trans m3⟩
    · cases h

def KfnZ (C : Ctx κ) (rs : List ResultVar) (p : Pat κ) (bs : List (BPat κ)) : Ex → St κ → Option (p.den × densB bs)
  | .exit _, _ => none
  | _, s => match resL C s rs with
    | some vs => shutAll (nub (resV vs).refs) (resV vs) s fun v s' => let t := gc 0 [0] { env := [v], S := s'.S, al := [] }
      match gets [p] t.env, getsB bs t.S with
      | some x, some y => some (x.1, y)
      | _, _ => none
    | none => none

theorem fn_okZ (hC : C.Ok) {fid : FuncId} {fn : Func} {c : Code} {n : Note} {ins : List (Pat κ)} {p : Pat κ} {bs : List (BPat κ)} {f : dens ins → Option (p.den × densB bs)}
    (hfn : C.P.funcs[fid]? = some fn) (hb : fn.body = some c) (hfit : Fits C c n)
    (hf : ∀ d, f d = exec C kindOf c n { env := puts ins d ++ List.replicate (fn.ntmps - ins.length) .bot, S := [], al := [] } (KfnZ C fn.results.toList p bs)) : CallV C.P C.E C.glob fid ins p bs f := by
  intro d r hd w F us hrel hglob hargs
  rw [hf] at hd
  obtain ⟨x, s', h1, h2⟩ := exec_sound hC hfit hd
  have pl : (puts ins d).length = ins.length := puts_len ins d
  have hsz : us.size = ins.length := by rw [← pl, hargs.1]; simp
  have hgood : Good C.E C.glob { tmps := us ++ Array.replicate (fn.ntmps - us.size) undef, defers := [] } w { env := puts ins d ++ List.replicate (fn.ntmps - ins.length) .bot, S := [], al := [] } F noPl := by
    refine ⟨hrel, fun t v hv => ?_, by simp [pl, hsz], rfl, fun q hq => by simp at hq, hglob⟩
    simp only at hv ⊢
    by_cases ht : t < ins.length
    · rw [List.getElem?_append_left (by rw [pl]; exact ht)] at hv
      have hlt : t < us.size := by omega
      have : (us ++ Array.replicate (fn.ntmps - us.size) undef).getD t undef = us[t] := by
        simp [Array.getD_eq_getD_getElem?, Array.getElem?_append_left hlt, hlt]
      rw [this]
      exact hargs.2 t v _ hv (by simp [hlt])
    · rw [List.getElem?_append_right (by rw [pl]; omega), List.getElem?_replicate] at hv
      split at hv
      · obtain rfl := Option.some.inj hv; exact .bot _
      · cases hv
  have hpost : ∀ (a' : Act) (w' : World) (F' : Nat → Option Obj) (φ' : Nat → Option Pl), Good C.E C.glob a' w' s' F' φ' → Mv w F noPl w' F' φ' → (∀ i, x ≠ .exit i) → a'.defers = [] ∧ ∃ v, (results fn a'.tmps).run C.P w' = .ok v w' ∧
      ∃ u F' φ', Ending.returned v = .returned u ∧ Rel C.E F' φ' (putsB bs r.2) w' ∧ Rep C.E F' φ' (p.put r.1) u ∧ Mv w F noPl w' F' φ' := by
    intro a' w' F' φ' k1 k2 hx
    have hk : (match resL C s' fn.results.toList with
      | some vs => shutAll (nub (resV vs).refs) (resV vs) s' fun v s' => let t := gc 0 [0] { env := [v], S := s'.S, al := [] }
        match gets [p] t.env, getsB bs t.S with
        | some x, some y => some (x.1, y)
        | _, _ => none
      | none => none) = some r := by
      cases x with
      | exit i => exact absurd rfl (hx i)
      | normal => exact h1
      | ret => exact h1
    split at hk
    · rename_i vs hvs
      obtain ⟨u, h3, h4⟩ := results_sound hC.enc k1 hvs
      obtain ⟨v', s2, hk, hsh⟩ := shutAll_sound hC.enc hk
      obtain ⟨F2, φ2, g1, g2, g3⟩ := hsh a' w' F' φ' u k1 h3
      simp only at hk
      obtain ⟨h5, h6⟩ := gc_seen hC.enc (s := { env := [v'], S := s2.S, al := [] }) (m := 0) (live := [0]) (us := [u]) g1.rel (Reps.cons (by simpa [St.get] using g2) Reps.nil)
      split at hk
      · rename_i x y hx' hy'
        obtain rfl := Option.some.inj hk
        obtain ⟨h7, h8⟩ := ext_seen (sh := ⟨0, [0], [p], bs⟩) (d := (x, y)) (by unfold ext; rw [hx', hy']) h5
        obtain ⟨u', us', h9, h10, _⟩ := (show Reps C.E F2 _ (p.put x.1 :: puts [] x.2) [u] from h7).cons_inv
        obtain ⟨rfl, _⟩ := List.cons.inj h9
        exact ⟨k1.defers, u, h4, u, F2, _, rfl, h8, h10, k2.trans (g3.trans h6)⟩
      · cases hk
    · cases hk
  refine calls_of_wp hfn hb (h2 _ w F noPl hgood _ fun a' w' F' φ' k1 k2 _ => ?_)
  cases x with
  | exit i => exact absurd h1 (by simp [KfnZ])
  | normal => exact hpost a' w' F' φ' k1 k2 (fun i h => by cases h)
  | ret => exact hpost a' w' F' φ' k1 k2 (fun i h => by cases h)
end
end Go.Am
