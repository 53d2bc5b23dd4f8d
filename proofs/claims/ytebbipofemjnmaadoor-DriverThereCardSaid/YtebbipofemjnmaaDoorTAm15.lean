/- A function's contract, and how a caller takes it. -/
import Derived.Test.YtebbipofemjnmaaDoorTAm14
namespace Go.Am
noncomputable section
open Go.RowKit
variable {κ : Kinds} {E : Encs κ} {F F' : Nat → Option Obj} {φ φ' : Nat → Option Pl} {P : Program} {C : Ctx κ} {a : Act} {w w' : World} {s s' : St κ} {kindOf : TypeId → Option κ.Kc}

def noPl : Nat → Option Pl := fun _ => none
abbrev GlobOk (E : Encs κ) (G : Nat → AV κ) (F : Nat → Option Obj) : Prop := ∀ (g : Nat) (ψ : Nat → Option Pl), Rep E F ψ (G g) (.pointer (some ⟨g, 0, none⟩))

/-- What a function does of plain arguments: a value, and memory of its own. -/
def CallV (P : Program) (E : Encs κ) (G : Nat → AV κ) (fid : FuncId) (ins : List (Pat κ)) (p : Pat κ) (bs : List (BPat κ)) (f : dens ins → Option (p.den × densB bs)) : Prop :=
  ∀ (d : dens ins) (r : p.den × densB bs), f d = some r → ∀ (w : World) (F : Nat → Option Obj) (us : Array Value), Rel E F noPl [] w → GlobOk E G F → Reps E F noPl (puts ins d) us.toList →
    Calls P fid us w fun e w' => ∃ u F' φ', e = .returned u ∧ Rel E F' φ' (putsB bs r.2) w' ∧ Rep E F' φ' (p.put r.1) u ∧ Mv w F noPl w' F' φ'

def resL (C : Ctx κ) (s : St κ) : List ResultVar → Option (List (AV κ))
  | [] => some []
  | .tmp t :: rs => match resL C s rs with
    | some vs => some (s.get t :: vs)
    | none => none
  | .cell p t :: rs => match cellsAt C.E s.S (s.get p) with
    | some cs => match part? C.P t cs, resL C s rs with
      | some v, some vs => some (v :: vs)
      | _, _ => none
    | none => none
def resV : List (AV κ) → AV κ
  | [v] => v
  | vs => .tup vs
def Kfn (C : Ctx κ) (rs : List ResultVar) (p : Pat κ) (bs : List (BPat κ)) : Ex → St κ → Option (p.den × densB bs)
  | .exit _, _ => none
  | _, s => match resL C s rs with
    | some vs => let t := gc 0 [0] { env := [resV vs], S := s.S, al := [] }
      match gets [p] t.env, getsB bs t.S with
      | some x, some y => some (x.1, y)
      | _, _ => none
    | none => none

def resF (a : Act) : ResultVar → Sem Value
  | .tmp t => pure (a.tmps.getD t undef)
  | .cell p t => do loadVar t (← asAddr (a.tmps.getD p undef))
theorem resL_sound (hE : C.E.Ok) (hg : Good C.E C.glob a w s F φ) : ∀ {rs : List ResultVar} {vs : List (AV κ)}, resL C s rs = some vs → ∃ us : List Value, Reps C.E F φ vs us ∧
    (rs.mapM (resF a)).run C.P w = .ok us w
  | [], vs, h => by obtain rfl := Option.some.inj h; exact ⟨[], Reps.nil, by simp⟩
  | .tmp t :: rs, vs, h => by
    simp only [resL] at h
    split at h
    · rename_i vs' hvs
      obtain rfl := Option.some.inj h
      obtain ⟨us, h1, h2⟩ := resL_sound hE hg hvs
      exact ⟨_ :: us, Reps.cons (env_rep hg t) h1, by simp only [List.mapM_cons, resF, Sem.run_bind, Sem.run_pure, Result.andThen_ok, h2]⟩
    · cases h
  | .cell p t :: rs, vs, h => by
    simp only [resL] at h
    split at h
    · rename_i cs hcs
      split at h
      · rename_i v vs' hv hvs
        obtain rfl := Option.some.inj h
        obtain ⟨us, h1, h2⟩ := resL_sound hE hg hvs
        obtain ⟨b, off, hu, ux, h3, h4⟩ := cellsAt_sound hE hg (env_rep hg p) hcs
        obtain ⟨u, h5, h6⟩ := part_load hv h4
        have hrun := h6 w b off (fun j hj => h3 j hj w (Sub.refl w))
        exact ⟨u :: us, Reps.cons h5 h1, by simp only [List.mapM_cons, resF, hu, asAddr, Sem.run_bind, Sem.run_pure, Result.andThen_ok, hrun, h2]⟩
      · cases h
    · cases h

theorem results_sound (hE : C.E.Ok) (hg : Good C.E C.glob a w s F φ) {fn : Func} {vs : List (AV κ)} (h : resL C s fn.results.toList = some vs) : ∃ u, Rep C.E F φ (resV vs) u ∧ (results fn a.tmps).run C.P w = .ok u w := by
  obtain ⟨us, h1, h2⟩ := resL_sound hE hg h
  have hrun : (fn.results.mapM (resF a)).run C.P w = .ok us.toArray w := by
    rw [Array.mapM_eq_mapM_toList]
    simp only [Sem.run_map, h2, Result.andThen_ok]
  refine ⟨if h : us.toArray.size = 1 then us.toArray[0] else .tuple us.toArray, ?_, ?_⟩
  · match vs, us, h1 with
    | [], us, h1 => obtain rfl := h1.nil_inv; exact tup_mk (us := #[]) Reps.nil
    | [v], us, h1 =>
      obtain ⟨u, us', rfl, h3, h4⟩ := h1.cons_inv
      obtain rfl := h4.nil_inv
      exact h3
    | v :: v' :: vs, us, h1 =>
      have hl := h1.1
      have hne : ¬ us.toArray.size = 1 := by simp at hl ⊢; omega
      rw [dif_neg hne]
      exact tup_mk (us := us.toArray) (by simpa using h1)
  · have e : results fn a.tmps = (do let vs ← fn.results.mapM (resF a); pure (if h : vs.size = 1 then vs[0] else .tuple vs)) := by
      unfold results
      congr 1
    rw [e]
    simp only [Sem.run_bind, hrun, Result.andThen_ok, Sem.run_pure]

theorem fn_ok (hC : C.Ok) {fid : FuncId} {fn : Func} {c : Code} {n : Note} {ins : List (Pat κ)} {p : Pat κ} {bs : List (BPat κ)} {f : dens ins → Option (p.den × densB bs)}
    (hfn : C.P.funcs[fid]? = some fn) (hb : fn.body = some c) (hfit : Fits C c n)
    (hf : ∀ d, f d = exec C kindOf c n { env := puts ins d ++ List.replicate (fn.ntmps - ins.length) .bot, S := [], al := [] } (Kfn C fn.results.toList p bs)) : CallV C.P C.E C.glob fid ins p bs f := by
  intro d r hd w F us hrel hglob hargs
  rw [hf] at hd
  obtain ⟨x, s', h1, h2⟩ := exec_sound hC hfit hd
  have pl : (puts ins d).length = ins.length := by
    have : ∀ (ins : List (Pat κ)) (d : dens ins), (puts ins d).length = ins.length := by
      intro ins
      induction ins with
      | nil => intro d; rfl
      | cons p ps ih => intro d; simp only [puts, List.length_cons]; rw [ih d.2]
    exact this ins d
  have hsz : us.size = ins.length := by rw [← pl, hargs.1]; simp
  have hgood : Good C.E C.glob { tmps := us ++ Array.replicate (fn.ntmps - us.size) undef, defers := [] } w { env := puts ins d ++ List.replicate (fn.ntmps - ins.length) .bot, S := [], al := [] } F noPl := by
    refine ⟨hrel, fun t v hv => ?_, by simp [pl, hsz], rfl, fun q hq => by simp at hq, hglob⟩
    simp only at hv ⊢
    by_cases ht : t < ins.length
    · rw [List.getElem?_append_left (by rw [pl]; exact ht)] at hv
      have hlt : t < us.size := by omega
      have : (us ++ Array.replicate (fn.ntmps - us.size) undef).getD t undef = us[t] := by
        simp [Array.getD_eq_getD_getElem?, Array.getElem?_append_left hlt, hlt]
      rw [this]
      exact hargs.2 t v _ hv (by simp [hlt])
    · rw [List.getElem?_append_right (by rw [pl]; omega), List.getElem?_replicate] at hv
      split at hv
      · obtain rfl := Option.some.inj hv; exact .bot _
      · cases hv
  have hpost : ∀ (a' : Act) (w' : World) (F' : Nat → Option Obj) (φ' : Nat → Option Pl), Good C.E C.glob a' w' s' F' φ' → Mv w F noPl w' F' φ' → (∀ i, x ≠ .exit i) → a'.defers = [] ∧ ∃ v, (results fn a'.tmps).run C.P w' = .ok v w' ∧
      ∃ u F' φ', Ending.returned v = .returned u ∧ Rel C.E F' φ' (putsB bs r.2) w' ∧ Rep C.E F' φ' (p.put r.1) u ∧ Mv w F noPl w' F' φ' := by
    intro a' w' F' φ' k1 k2 hx
    have hk : (match resL C s' fn.results.toList with
      | some vs => let t := gc 0 [0] { env := [resV vs], S := s'.S, al := [] }
        match gets [p] t.env, getsB bs t.S with
        | some x, some y => some (x.1, y)
        | _, _ => none
      | none => none) = some r := by
      cases x with
      | exit i => exact absurd rfl (hx i)
      | normal => exact h1
      | ret => exact h1
    split at hk
    · rename_i vs hvs
      obtain ⟨u, h3, h4⟩ := results_sound hC.enc k1 hvs
      simp only at hk
      obtain ⟨h5, h6⟩ := gc_seen hC.enc (s := { env := [resV vs], S := s'.S, al := [] }) (m := 0) (live := [0]) (us := [u]) k1.rel (Reps.cons (by simpa [St.get] using h3) Reps.nil)
      split at hk
      · rename_i x y hx' hy'
        obtain rfl := Option.some.inj hk
        obtain ⟨h7, h8⟩ := ext_seen (sh := ⟨0, [0], [p], bs⟩) (d := (x, y)) (by unfold ext; rw [hx', hy']) h5
        obtain ⟨u', us', h9, h10, _⟩ := (show Reps C.E F' _ (p.put x.1 :: puts [] x.2) [u] from h7).cons_inv
        obtain ⟨rfl, _⟩ := List.cons.inj h9
        exact ⟨k1.defers, u, h4, u, F', _, rfl, h8, h10, k2.trans h6⟩
      · cases hk
    · cases hk
  refine calls_of_wp hfn hb (h2 _ w F noPl hgood _ fun a' w' F' φ' k1 k2 _ => ?_)
  cases x with
  | exit i => exact absurd h1 (by simp [Kfn])
  | normal => exact hpost a' w' F' φ' k1 k2 (fun i h => by cases h)
  | ret => exact hpost a' w' F' φ' k1 k2 (fun i h => by cases h)

/-! ### The caller's side -/
def view1 (S : List (Blk κ)) : AV κ → AV κ
  | .own k i => match S[i]? with
    | some (.rows k' xs) => if k' = k then .ro k' xs else .bot
    | _ => .bot
  | v => if v.flat then v else .bot
def view (E : Encs κ) (S : List (Blk κ)) : AV κ → AV κ
  | .ptr i off => match S[i]? with
    | some (.raw _ cs) => .rop ((cs.drop off).map (view1 S))
    | _ => .bot
  | .ptrE k i row col => match cellsAt E S (.ptrE k i row col) with
    | some cs => .rop cs
    | none => .bot
  | .agg cs => .agg (cs.map (view1 S))
  | .rop cs => .rop (cs.map (view1 S))
  | v => view1 S v

def allOf (w : World) : Nat → Option Obj := fun b => w.heap[b]?
theorem fcell_all {b o : Nat} {v : Value} (h : w.cell? ⟨b, o, none⟩ = some v) : FCell (allOf w) b o = some v := by
  unfold FCell allOf
  unfold World.cell? at h
  simp only at h
  split at h
  · rename_i c e fr hb
    rw [hb]
    simpa using h
  · cases h

theorem view1_rep (hE : E.Ok) {S : List (Blk κ)} (hr : Rel E F φ S w) (ψ : Nat → Option Pl) {v : AV κ} {u : Value} (h : Rep E F φ v u) : Rep E (allOf w) ψ (view1 S v) u := by
  have hle : Le F (allOf w) := fun b o hb => hr.frz b o hb
  have other : Rep E (allOf w) ψ (if v.flat then v else .bot) u := by
    split
    · rename_i hf
      exact ((h.flat hE hf).1).mono hle
    · exact .bot _
  cases v with
  | own k i =>
    simp only [view1]
    split
    · rename_i k' xs hS
      split
      · rename_i hk
        subst hk
        obtain ⟨p, h1, h2, hh⟩ := hr.blk i _ hS
        rcases hh with ⟨hn, rfl⟩ | ⟨g, cur, hpg, h4, h5, h6, h7, h8⟩
        · cases h with
          | own _ _ p' g hp hpg =>
            obtain rfl := Option.some.inj (h1.symm.trans hp)
            rw [hn] at hpg; cases hpg
          | ownNil _ _ _ _ _ => exact .roNil k'
        · cases h with
          | ownNil _ _ p' hp hpg' =>
            obtain rfl := Option.some.inj (h1.symm.trans hp)
            rw [hpg] at hpg'; cases hpg'
          | own _ _ p' g' hp hpg' =>
            obtain rfl := Option.some.inj (h1.symm.trans hp)
            obtain rfl := Option.some.inj (hpg.symm.trans hpg')
            rw [h2]
            refine .ro k' xs g 0 p.cap (fun r j => cur.getD (r * κ.sz k' + j) undef) h6 (fun r j hr' hj => ?_) (fun r x j c hx hc => ?_)
            · have h10 : (r + 1) * κ.sz k' ≤ p.cap * κ.sz k' := Nat.mul_le_mul_right _ (by omega)
              rw [Nat.add_mul, Nat.one_mul] at h10
              have hlt : r * κ.sz k' + j < cur.size := by omega
              refine fcell_all ?_
              rw [cell_at h4]
              simp [hlt]
            · have hj : j < κ.sz k' := by rw [← hE.len k' x]; exact (List.getElem?_eq_some_iff.1 hc).1
              have hrl : r < xs.length := (List.getElem?_eq_some_iff.1 hx).1
              have h10 : (r + 1) * κ.sz k' ≤ p.cap * κ.sz k' := Nat.mul_le_mul_right _ (by omega)
              rw [Nat.add_mul, Nat.one_mul] at h10
              have hlt : r * κ.sz k' + j < cur.size := by omega
              have := h8 r x j c _ hx hc (show cur[r * κ.sz k' + j]? = some (cur.getD (r * κ.sz k' + j) undef) by simp [hlt])
              exact ((this.flat hE (hE.flat k' x c (List.mem_of_getElem? hc))).1).mono hle
      · exact .bot _
    · exact .bot _
  | _ => exact other

theorem view1_reps (hE : E.Ok) {S : List (Blk κ)} (hr : Rel E F φ S w) (ψ : Nat → Option Pl) {cs : List (AV κ)} {us : List Value} (h : Reps E F φ cs us) : Reps E (allOf w) ψ (cs.map (view1 S)) us := by
  refine ⟨by simpa using h.1, fun j c u hc hu => ?_⟩
  rw [List.getElem?_map] at hc
  obtain ⟨c', hc', rfl⟩ := Option.map_eq_some_iff.1 hc
  exact view1_rep hE hr ψ (h.2 j c' u hc' hu)

theorem view_rep (hE : E.Ok) {S : List (Blk κ)} (hr : Rel E F φ S w) (ψ : Nat → Option Pl) {v : AV κ} {u : Value} (h : Rep E F φ v u) : Rep E (allOf w) ψ (view E S v) u := by
  cases v with
  | ptr i off =>
    simp only [view]
    split
    · rename_i t cs hS
      cases h with
      | ptr _ _ p g hp hpg =>
        obtain ⟨p', g', cur, h1, h2, h3, h4, h5⟩ := hr.blk i _ hS
        obtain rfl := Option.some.inj (hp.symm.trans h1)
        obtain rfl := Option.some.inj (hpg.symm.trans h2)
        refine rop_mk (us := cur.toList.drop off) (view1_reps hE hr ψ ⟨by simp [h4], fun j c u hc hu => ?_⟩) fun j v hj => ?_
        · rw [List.getElem?_drop] at hc hu
          exact h5 _ c u hc (by simpa using hu)
        · rw [List.getElem?_drop] at hj
          refine fcell_all ?_
          rw [cell_at h3]
          simpa using hj
    · exact .bot _
  | ptrE k i row col =>
    have hgood : Good E (fun _ => .bot) { tmps := #[], defers := [] } w ⟨[], S, []⟩ F φ := ⟨hr, fun t v hv => by simp at hv, rfl, rfl, fun p hp => by simp at hp, fun g ψ => .bot _⟩
    show Rep E (allOf w) ψ (match cellsAt E S (.ptrE k i row col) with | some cs => .rop cs | none => .bot) u
    cases hcs : cellsAt E S (.ptrE k i row col) with
    | none => exact .bot _
    | some cs =>
      let C0 : Ctx κ := { P := default, E := E, glob := fun _ => .bot, Γ := fun _ => @(fun _ _ _ _ => none), Γq := fun _ => @(fun _ _ _ _ => none), Λ := fun _ => @(fun _ _ _ => none) }
      obtain ⟨b, off, rfl, us, h1, h2⟩ := cellsAt_sound (C := C0) hE hgood h hcs
      have hfl : ∀ c ∈ cs, c.flat = true := by
        intro c hc
        simp only [cellsAt] at hcs
        split at hcs
        · split at hcs
          · obtain rfl := Option.some.inj hcs
            exact hE.flat k _ c (List.mem_of_mem_drop hc)
          · cases hcs
        · cases hcs
      refine .rop cs b off us (fun j hj => fcell_all (h1 j hj w (Sub.refl w))) fun j c hj => ?_
      exact (((h2 j c hj).flat hE (hfl c (List.mem_of_getElem? hj))).1).mono fun b o hb => hr.frz b o hb
  | agg cs =>
    obtain ⟨us, rfl, hus⟩ := agg_inv h
    exact agg_mk (view1_reps hE hr ψ hus)
  | rop cs =>
    obtain ⟨b, off, us, rfl, hus, hc⟩ := rop_inv h
    exact rop_mk (view1_reps hE hr ψ hus) fun j v hj => FCell.mono (fun b o hb => hr.frz b o hb) (hc j v hj)
  | _ => exact view1_rep hE hr ψ h
end
end Go.Am
