/- Parts of this work, put into one text: Am15 Am16 Am16w Am16z Am19 Am17 -/
import Derived.Test.YtdgempbldhdihaaDoorVAmB
import Derived.OrdersHeld
import Derived.KernelRfl
section
namespace Go.Am
noncomputable section
open Go.RowKit
variable {κ : Kinds} {E : Encs κ} {F F' : Nat → Option Obj} {φ φ' : Nat → Option Pl} {P : Program} {C : Ctx κ} {a : Act} {w w' : World} {s s' : St κ} {kindOf : TypeId → Option κ.Kc}

def noPl : Nat → Option Pl := fun _ => none
abbrev GlobOk (E : Encs κ) (G : Nat → AV κ) (F : Nat → Option Obj) : Prop := ∀ (g : Nat) (ψ : Nat → Option Pl), Rep E F ψ (G g) (.pointer (some ⟨g, 0, none⟩))

/-- What a function does of plain arguments: a value, and memory of its own. -/
def CallV (P : Program) (E : Encs κ) (G : Nat → AV κ) (fid : FuncId) (ins : List (Pat κ)) (p : Pat κ) (bs : List (BPat κ)) (f : dens ins → Option (p.den × densB bs)) : Prop :=
  ∀ (d : dens ins) (r : p.den × densB bs), f d = some r → ∀ (w : World) (F : Nat → Option Obj) (us : Array Value), Rel E F noPl [] w → GlobOk E G F → Reps E F noPl (puts ins d) us.toList →
    Calls P fid us w fun e w' => ∃ u F' φ', e = .returned u ∧ Rel E F' φ' (putsB bs r.2) w' ∧ Rep E F' φ' (p.put r.1) u ∧ Mv w F noPl w' F' φ'

def resL (C : Ctx κ) (s : St κ) : List ResultVar → Option (List (AV κ))
  | [] => some []
  | .tmp t :: rs => match resL C s rs with
    | some vs => some (s.get t :: vs)
    | none => none
  | .cell p t :: rs => match cellsAt C.E s.S (s.get p) with
    | some cs => match part? C.P t cs, resL C s rs with
      | some v, some vs => some (v :: vs)
      | _, _ => none
    | none => none
def resV : List (AV κ) → AV κ
  | [v] => v
  | vs => .tup vs
def Kfn (C : Ctx κ) (rs : List ResultVar) (p : Pat κ) (bs : List (BPat κ)) : Ex → St κ → Option (p.den × densB bs)
  | .exit _, _ => none
  | _, s => match resL C s rs with
    | some vs => let t := gc 0 [0] { env := [resV vs], S := s.S, al := [] }
      match gets [p] t.env, getsB bs t.S with
      | some x, some y => some (x.1, y)
      | _, _ => none
    | none => none

def resF (a : Act) : ResultVar → Sem Value
  | .tmp t => pure (a.tmps.getD t undef)
  | .cell p t => do loadVar t (← asAddr (a.tmps.getD p undef))
theorem resL_sound (hE : C.E.Ok) (hg : Good C.E C.glob a w s F φ) : ∀ {rs : List ResultVar} {vs : List (AV κ)}, resL C s rs = some vs → ∃ us : List Value, Reps C.E F φ vs us ∧
    (rs.mapM (resF a)).run C.P w = .ok us w
  | [], vs, h => by obtain rfl := Option.some.inj h; exact ⟨[], Reps.nil, by simp⟩
  | .tmp t :: rs, vs, h => by
    simp only [resL] at h
    split at h
    · rename_i vs' hvs
      obtain rfl := Option.some.inj h
      obtain ⟨us, h1, h2⟩ := resL_sound hE hg hvs
      exact ⟨_ :: us, Reps.cons (env_rep hg t) h1, by simp only [List.mapM_cons, resF, Sem.run_bind, Sem.run_pure, Result.andThen_ok, h2]⟩
    · cases h
  | .cell p t :: rs, vs, h => by
    simp only [resL] at h
    split at h
    · rename_i cs hcs
      split at h
      · rename_i v vs' hv hvs
        obtain rfl := Option.some.inj h
        obtain ⟨us, h1, h2⟩ := resL_sound hE hg hvs
        obtain ⟨b, off, hu, ux, h3, h4⟩ := cellsAt_sound hE hg (env_rep hg p) hcs
        obtain ⟨u, h5, h6⟩ := part_load hv h4
        have hrun := h6 w b off (fun j hj => h3 j hj w (Sub.refl w))
        exact ⟨u :: us, Reps.cons h5 h1, by simp only [List.mapM_cons, resF, hu, asAddr, Sem.run_bind, Sem.run_pure, Result.andThen_ok, hrun, h2]⟩
      · cases h
    · cases h

theorem results_sound (hE : C.E.Ok) (hg : Good C.E C.glob a w s F φ) {fn : Func} {vs : List (AV κ)} (h : resL C s fn.results.toList = some vs) : ∃ u, Rep C.E F φ (resV vs) u ∧ (results fn a.tmps).run C.P w = .ok u w := by
  obtain ⟨us, h1, h2⟩ := resL_sound hE hg h
  have hrun : (fn.results.mapM (resF a)).run C.P w = .ok us.toArray w := by
    rw [Array.mapM_eq_mapM_toList]
    simp only [Sem.run_map, h2, Result.andThen_ok]
  refine ⟨if h : us.toArray.size = 1 then us.toArray[0] else .tuple us.toArray, ?_, ?_⟩
  · match vs, us, h1 with
    | [], us, h1 => obtain rfl := h1.nil_inv; exact tup_mk (us := #[]) Reps.nil
    | [v], us, h1 =>
      obtain ⟨u, us', rfl, h3, h4⟩ := h1.cons_inv
      obtain rfl := h4.nil_inv
      exact h3
    | v :: v' :: vs, us, h1 =>
      have hl := h1.1
      have hne : ¬ us.toArray.size = 1 := by simp at hl ⊢; omega
      rw [dif_neg hne]
      exact tup_mk (us := us.toArray) (by simpa using h1)
  · have e : results fn a.tmps = (do let vs ← fn.results.mapM (resF a); pure (if h : vs.size = 1 then vs[0] else .tuple vs)) := by
      unfold results
      congr 1
    rw [e]
    simp only [Sem.run_bind, hrun, Result.andThen_ok, Sem.run_pure]

theorem fn_ok (hC : C.Ok) {fid : FuncId} {fn : Func} {c : Code} {n : Note} {ins : List (Pat κ)} {p : Pat κ} {bs : List (BPat κ)} {f : dens ins → Option (p.den × densB bs)}
    (hfn : C.P.funcs[fid]? = some fn) (hb : fn.body = some c) (hfit : Fits C c n)
    (hf : ∀ d, f d = exec C kindOf c n { env := puts ins d ++ List.replicate (fn.ntmps - ins.length) .bot, S := [], al := [] } (Kfn C fn.results.toList p bs)) : CallV C.P C.E C.glob fid ins p bs f := by
  intro d r hd w F us hrel hglob hargs
  rw [hf] at hd
  obtain ⟨x, s', h1, h2⟩ := exec_sound hC hfit hd
  have pl : (puts ins d).length = ins.length := by
    have : ∀ (ins : List (Pat κ)) (d : dens ins), (puts ins d).length = ins.length := by
      intro ins
      induction ins with
      | nil => intro d; rfl
      | cons p ps ih => intro d; simp only [puts, List.length_cons]; rw [ih d.2]
    exact this ins d
  have hsz : us.size = ins.length := by rw [← pl, hargs.1]; simp
  have hgood : Good C.E C.glob { tmps := us ++ Array.replicate (fn.ntmps - us.size) undef, defers := [] } w { env := puts ins d ++ List.replicate (fn.ntmps - ins.length) .bot, S := [], al := [] } F noPl := by
    refine ⟨hrel, fun t v hv => ?_, by simp [pl, hsz], rfl, fun q hq => by simp at hq, hglob⟩
    simp only at hv ⊢
    by_cases ht : t < ins.length
    · rw [List.getElem?_append_left (by rw [pl]; exact ht)] at hv
      have hlt : t < us.size := by omega
      have : (us ++ Array.replicate (fn.ntmps - us.size) undef).getD t undef = us[t] := by
        simp [Array.getD_eq_getD_getElem?, Array.getElem?_append_left hlt, hlt]
      rw [this]
      exact hargs.2 t v _ hv (by simp [hlt])
    · rw [List.getElem?_append_right (by rw [pl]; omega), List.getElem?_replicate] at hv
      split at hv
      · obtain rfl := Option.some.inj hv; exact .bot _
      · cases hv
  have hpost : ∀ (a' : Act) (w' : World) (F' : Nat → Option Obj) (φ' : Nat → Option Pl), Good C.E C.glob a' w' s' F' φ' → Mv w F noPl w' F' φ' → (∀ i, x ≠ .exit i) → a'.defers = [] ∧ ∃ v, (results fn a'.tmps).run C.P w' = .ok v w' ∧
      ∃ u F' φ', Ending.returned v = .returned u ∧ Rel C.E F' φ' (putsB bs r.2) w' ∧ Rep C.E F' φ' (p.put r.1) u ∧ Mv w F noPl w' F' φ' := by
    intro a' w' F' φ' k1 k2 hx
    have hk : (match resL C s' fn.results.toList with
      | some vs => let t := gc 0 [0] { env := [resV vs], S := s'.S, al := [] }
        match gets [p] t.env, getsB bs t.S with
        | some x, some y => some (x.1, y)
        | _, _ => none
      | none => none) = some r := by
      cases x with
      | exit i => exact absurd rfl (hx i)
      | normal => exact h1
      | ret => exact h1
    split at hk
    · rename_i vs hvs
      obtain ⟨u, h3, h4⟩ := results_sound hC.enc k1 hvs
      simp only at hk
      obtain ⟨h5, h6⟩ := gc_seen hC.enc (s := { env := [resV vs], S := s'.S, al := [] }) (m := 0) (live := [0]) (us := [u]) k1.rel (Reps.cons (by simpa [St.get] using h3) Reps.nil)
      split at hk
      · rename_i x y hx' hy'
        obtain rfl := Option.some.inj hk
        obtain ⟨h7, h8⟩ := ext_seen (sh := ⟨0, [0], [p], bs⟩) (d := (x, y)) (by unfold ext; rw [hx', hy']) h5
        obtain ⟨u', us', h9, h10, _⟩ := (show Reps C.E F' _ (p.put x.1 :: puts [] x.2) [u] from h7).cons_inv
        obtain ⟨rfl, _⟩ := List.cons.inj h9
        exact ⟨k1.defers, u, h4, u, F', _, rfl, h8, h10, k2.trans h6⟩
      · cases hk
    · cases hk
  refine calls_of_wp hfn hb (h2 _ w F noPl hgood _ fun a' w' F' φ' k1 k2 _ => ?_)
  cases x with
  | exit i => exact absurd h1 (by simp [Kfn])
  | normal => exact hpost a' w' F' φ' k1 k2 (fun i h => by cases h)
  | ret => exact hpost a' w' F' φ' k1 k2 (fun i h => by cases h)

/-! ### The caller's side -/
def view1 (S : List (Blk κ)) : AV κ → AV κ
  | .own k i => match S[i]? with
    | some (.rows k' xs) => if k' = k then .ro k' xs else .bot
    | _ => .bot
  | v => if v.flat then v else .bot
def view (E : Encs κ) (S : List (Blk κ)) : AV κ → AV κ
  | .ptr i off => match S[i]? with
    | some (.raw _ cs) => .rop ((cs.drop off).map (view1 S))
    | _ => .bot
  | .ptrE k i row col => match cellsAt E S (.ptrE k i row col) with
    | some cs => .rop cs
    | none => .bot
  | .agg cs => .agg (cs.map (view1 S))
  | .rop cs => .rop (cs.map (view1 S))
  | v => view1 S v

def allOf (w : World) : Nat → Option Obj := fun b => w.heap[b]?
theorem fcell_all {b o : Nat} {v : Value} (h : w.cell? ⟨b, o, none⟩ = some v) : FCell (allOf w) b o = some v := by
  unfold FCell allOf
  unfold World.cell? at h
  simp only at h
  split at h
  · rename_i c e fr hb
    rw [hb]
    simpa using h
  · cases h

theorem view1_rep (hE : E.Ok) {S : List (Blk κ)} (hr : Rel E F φ S w) (ψ : Nat → Option Pl) {v : AV κ} {u : Value} (h : Rep E F φ v u) : Rep E (allOf w) ψ (view1 S v) u := by
  have hle : Le F (allOf w) := fun b o hb => hr.frz b o hb
  have other : Rep E (allOf w) ψ (if v.flat then v else .bot) u := by
    split
    · rename_i hf
      exact ((h.flat hE hf).1).mono hle
    · exact .bot _
  cases v with
  | own k i =>
    simp only [view1]
    split
    · rename_i k' xs hS
      split
      · rename_i hk
        subst hk
        obtain ⟨p, h1, h2, hh⟩ := hr.blk i _ hS
        rcases hh with ⟨hn, rfl⟩ | ⟨g, cur, hpg, h4, h5, h6, h7, h8⟩
        · cases h with
          | own _ _ p' g hp hpg =>
            obtain rfl := Option.some.inj (h1.symm.trans hp)
            rw [hn] at hpg; cases hpg
          | ownNil _ _ _ _ _ => exact .roNil k'
        · cases h with
          | ownNil _ _ p' hp hpg' =>
            obtain rfl := Option.some.inj (h1.symm.trans hp)
            rw [hpg] at hpg'; cases hpg'
          | own _ _ p' g' hp hpg' =>
            obtain rfl := Option.some.inj (h1.symm.trans hp)
            obtain rfl := Option.some.inj (hpg.symm.trans hpg')
            rw [h2]
            refine .ro k' xs g 0 p.cap (fun r j => cur.getD (r * κ.sz k' + j) undef) h6 (fun r j hr' hj => ?_) (fun r x j c hx hc => ?_)
            · have h10 : (r + 1) * κ.sz k' ≤ p.cap * κ.sz k' := Nat.mul_le_mul_right _ (by omega)
              rw [Nat.add_mul, Nat.one_mul] at h10
              have hlt : r * κ.sz k' + j < cur.size := by omega
              refine fcell_all ?_
              rw [cell_at h4]
              simp [hlt]
            · have hj : j < κ.sz k' := by rw [← hE.len k' x]; exact (List.getElem?_eq_some_iff.1 hc).1
              have hrl : r < xs.length := (List.getElem?_eq_some_iff.1 hx).1
              have h10 : (r + 1) * κ.sz k' ≤ p.cap * κ.sz k' := Nat.mul_le_mul_right _ (by omega)
              rw [Nat.add_mul, Nat.one_mul] at h10
              have hlt : r * κ.sz k' + j < cur.size := by omega
              have := h8 r x j c _ hx hc (show cur[r * κ.sz k' + j]? = some (cur.getD (r * κ.sz k' + j) undef) by simp [hlt])
              exact ((this.flat hE (hE.flat k' x c (List.mem_of_getElem? hc))).1).mono hle
      · exact .bot _
    · exact .bot _
  | _ => exact other

theorem view1_reps (hE : E.Ok) {S : List (Blk κ)} (hr : Rel E F φ S w) (ψ : Nat → Option Pl) {cs : List (AV κ)} {us : List Value} (h : Reps E F φ cs us) : Reps E (allOf w) ψ (cs.map (view1 S)) us := by
  refine ⟨by simpa using h.1, fun j c u hc hu => ?_⟩
  rw [List.getElem?_map] at hc
  obtain ⟨c', hc', rfl⟩ := Option.map_eq_some_iff.1 hc
  exact view1_rep hE hr ψ (h.2 j c' u hc' hu)

theorem view_rep (hE : E.Ok) {S : List (Blk κ)} (hr : Rel E F φ S w) (ψ : Nat → Option Pl) {v : AV κ} {u : Value} (h : Rep E F φ v u) : Rep E (allOf w) ψ (view E S v) u := by
  cases v with
  | ptr i off =>
    simp only [view]
    split
    · rename_i t cs hS
      cases h with
      | ptr _ _ p g hp hpg =>
        obtain ⟨p', g', cur, h1, h2, h3, h4, h5⟩ := hr.blk i _ hS
        obtain rfl := Option.some.inj (hp.symm.trans h1)
        obtain rfl := Option.some.inj (hpg.symm.trans h2)
        refine rop_mk (us := cur.toList.drop off) (view1_reps hE hr ψ ⟨by simp [h4], fun j c u hc hu => ?_⟩) fun j v hj => ?_
        · rw [List.getElem?_drop] at hc hu
          exact h5 _ c u hc (by simpa using hu)
        · rw [List.getElem?_drop] at hj
          refine fcell_all ?_
          rw [cell_at h3]
          simpa using hj
    · exact .bot _
  | ptrE k i row col =>
    have hgood : Good E (fun _ => .bot) { tmps := #[], defers := [] } w ⟨[], S, []⟩ F φ := ⟨hr, fun t v hv => by simp at hv, rfl, rfl, fun p hp => by simp at hp, fun g ψ => .bot _⟩
    show Rep E (allOf w) ψ (match cellsAt E S (.ptrE k i row col) with | some cs => .rop cs | none => .bot) u
    cases hcs : cellsAt E S (.ptrE k i row col) with
    | none => exact .bot _
    | some cs =>
      let C0 : Ctx κ := { P := default, E := E, glob := fun _ => .bot, Γ := fun _ => @(fun _ _ _ _ => none), Γq := fun _ => @(fun _ _ _ _ => none), Λ := fun _ => @(fun _ _ _ => none) }
      obtain ⟨b, off, rfl, us, h1, h2⟩ := cellsAt_sound (C := C0) hE hgood h hcs
      have hfl : ∀ c ∈ cs, c.flat = true := by
        intro c hc
        simp only [cellsAt] at hcs
        split at hcs
        · split at hcs
          · obtain rfl := Option.some.inj hcs
            exact hE.flat k _ c (List.mem_of_mem_drop hc)
          · cases hcs
        · cases hcs
      refine .rop cs b off us (fun j hj => fcell_all (h1 j hj w (Sub.refl w))) fun j c hj => ?_
      exact (((h2 j c hj).flat hE (hfl c (List.mem_of_getElem? hj))).1).mono fun b o hb => hr.frz b o hb
  | agg cs =>
    obtain ⟨us, rfl, hus⟩ := agg_inv h
    exact agg_mk (view1_reps hE hr ψ hus)
  | rop cs =>
    obtain ⟨b, off, us, rfl, hus, hc⟩ := rop_inv h
    exact rop_mk (view1_reps hE hr ψ hus) fun j v hj => FCell.mono (fun b o hb => hr.frz b o hb) (hc j v hj)
  | _ => exact view1_rep hE hr ψ h
end
end Go.Am
end

section
namespace Go.Am
noncomputable section
open Go.RowKit
variable {κ : Kinds} {E : Encs κ} {F F' : Nat → Option Obj} {φ φ' : Nat → Option Pl} {P : Program} {C : Ctx κ} {a : Act} {w w' : World} {s s' : St κ}

mutual
def AV.noRo : AV κ → Bool
  | .ro _ _ | .rop _ | .arr _ _ | .tab _ _ => false
  | .agg cs | .tup cs | .fn _ cs => noRoL cs
  | _ => true
def noRoL : List (AV κ) → Bool
  | [] => true
  | c :: cs => c.noRo && noRoL cs
end
theorem noRoL_get : ∀ {cs : List (AV κ)} {j : Nat} {c : AV κ}, noRoL cs = true → cs[j]? = some c → c.noRo = true
  | [], j, c, _, h => by simp at h
  | x :: cs, 0, c, h, hj => by simp [noRoL] at h hj; subst hj; exact h.1
  | x :: cs, j + 1, c, h, hj => by simp [noRoL] at h hj; exact noRoL_get h.2 hj
theorem Rep.noRo {F2 : Nat → Option Obj} {v : AV κ} {u : Value} (h : Rep E F φ v u) (hn : v.noRo = true) : Rep E F2 φ v u := by
  induction h with
  | bot u => exact .bot u
  | val v => exact .val v
  | agg cs us hl _ ih => exact .agg cs us hl fun j c u hc hu => ih j c u hc hu (noRoL_get (by simpa [AV.noRo] using hn) hc)
  | tup cs us hl _ ih => exact .tup cs us hl fun j c u hc hu => ih j c u hc hu (noRoL_get (by simpa [AV.noRo] using hn) hc)
  | fn f cs us hl _ ih => exact .fn f cs us hl fun j c u hc hu => ih j c u hc hu (noRoL_get (by simpa [AV.noRo] using hn) hc)
  | ro => simp [AV.noRo] at hn
  | roNil => simp [AV.noRo] at hn
  | roEmp => simp [AV.noRo] at hn
  | rop => simp [AV.noRo] at hn
  | arr => simp [AV.noRo] at hn
  | tab => simp [AV.noRo] at hn
  | own k i p g h hg => exact .own k i p g h hg
  | ownNil k i p h hg => exact .ownNil k i p h hg
  | sub k i lo p ad cap h h0 hl ha => exact .sub k i lo p ad cap h h0 hl ha
  | ptr i off p g h hg => exact .ptr i off p g h hg
  | ptrE k i row col p g h hg hr => exact .ptrE k i row col p g h hg hr
  | optrN i => exact .optrN i
  | optr i p g h hg => exact .optr i p g h hg
  | mp i p g h hg => exact .mp i p g h hg

mutual
def Pat.noRo : Pat κ → Bool
  | .ro _ | .rop _ | .arr _ | .tab _ => false
  | .agg ps | .tup ps | .fn _ ps => noRoP ps
  | _ => true
def noRoP : List (Pat κ) → Bool
  | [] => true
  | p :: ps => p.noRo && noRoP ps
end
mutual
theorem put_noRo : ∀ (p : Pat κ) (d : p.den), p.noRo = true → (p.put d).noRo = true
  | .any, _, _ => rfl
  | .int _, _, _ => rfl
  | .bool, _, _ => rfl
  | .str, _, _ => rfl
  | .nilS, _, _ => rfl
  | .ro _, _, h => by cases h
  | .own _ _, _, _ => rfl
  | .sub _ _, _, _ => rfl
  | .ptr _ _, _, _ => rfl
  | .optr _, _, _ => rfl
  | .mp _, _, _ => rfl
  | .nilP, _, _ => rfl
  | .fn _ ps, d, h => puts_noRo ps d h
  | .agg ps, d, h => puts_noRo ps d h
  | .tup ps, d, h => puts_noRo ps d h
  | .rop _, _, h => by cases h
  | .arr _, _, h => by cases h
  | .tab _, _, h => by cases h
theorem puts_noRo : ∀ (ps : List (Pat κ)) (d : dens ps), noRoP ps = true → noRoL (puts ps d) = true
  | [], _, _ => rfl
  | p :: ps, d, h => by
    have h' : p.noRo = true ∧ noRoP ps = true := by simpa [noRoP] using h
    show ((p.put d.1).noRo && noRoL (puts ps d.2)) = true
    rw [put_noRo p d.1 h'.1, puts_noRo ps d.2 h'.2]; rfl
end

def Plain (E : Encs κ) (k : κ.Kc) : Prop := ∀ x c, c ∈ E.enc k x → c.noRo = true
def BPat.NoRo (E : Encs κ) : BPat κ → Prop
  | .dead => True
  | .raw _ ps => noRoP ps = true
  | .rows k => Plain E k
  | .mp k => ∀ x, (E.mval k x).noRo = true

def entOf (ins : List (Pat κ)) (p : Pat κ) (bs : List (BPat κ)) (free : Bool) (f : dens ins → Option (p.den × densB bs)) (E : Encs κ) : Ent κ := fun args S K =>
  if (refsL args).isEmpty then (gets ins args).bind fun d => (f d).bind fun r => K ((p.put r.1).ren fun i => some (i + S.length)) (S ++ (putsB bs r.2).map (Blk.ren fun i => some (i + S.length))) []
  else if free then (gets ins (args.map (view E S))).bind fun d => (f d).bind fun r => K ((p.put r.1).ren fun i => some (i + S.length)) (S ++ (putsB bs r.2).map (Blk.ren fun i => some (i + S.length))) []
  else none

theorem putsB_get : ∀ (bs : List (BPat κ)) (d : densB bs) (i : Nat) (b : Blk κ), (putsB bs d)[i]? = some b → ∃ (q : BPat κ) (e : q.den), q ∈ bs ∧ b = q.put e
  | [], _, _, _, h => by simp [putsB] at h
  | q :: bs, d, 0, b, h => by simp [putsB] at h; exact ⟨q, d.1, List.mem_cons_self, h.symm⟩
  | q :: bs, d, i + 1, b, h => by
    simp [putsB] at h
    obtain ⟨q', e, h1, h2⟩ := putsB_get bs d.2 i b h
    exact ⟨q', e, List.mem_cons_of_mem _ h1, h2⟩

theorem refs_free (hE : E.Ok) : ∀ {v : AV κ} {u : Value}, Rep E F φ v u → v.refs = [] → Rep E F φ' v u := by
  intro v u h
  have key : ∀ {cs : List (AV κ)} {j : Nat} {c : AV κ}, refsL cs = [] → cs[j]? = some c → c.refs = [] := by
    intro cs
    induction cs with
    | nil => intro j c _ h; simp at h
    | cons x cs ih =>
      intro j c h hj
      simp only [refsL, List.append_eq_nil_iff] at h
      cases j with
      | zero => simp at hj; subst hj; exact h.1
      | succ j => simp at hj; exact ih h.2 hj
  induction h with
  | bot u => exact fun _ => .bot u
  | val v => exact fun _ => .val v
  | agg cs us hl _ ih => exact fun hn => .agg cs us hl fun j c u hc hu => ih j c u hc hu (key (by simpa [AV.refs] using hn) hc)
  | tup cs us hl _ ih => exact fun hn => .tup cs us hl fun j c u hc hu => ih j c u hc hu (key (by simpa [AV.refs] using hn) hc)
  | fn f cs us hl _ ih => exact fun hn => .fn f cs us hl fun j c u hc hu => ih j c u hc hu (key (by simpa [AV.refs] using hn) hc)
  | ro k xs b off cap us hcap hc hr ih => exact fun _ => .ro k xs b off cap us hcap hc fun r x j c hx hj => ih r x j c hx hj (by
      have := hE.flat k x c (List.mem_of_getElem? hj)
      cases c <;> first | rfl | simp [AV.flat] at this)
  | roNil k => exact fun _ => .roNil k
  | roEmp k a cap => exact fun _ => .roEmp k a cap
  | rop cs b off us hc _ ih => exact fun hn => .rop cs b off us hc fun j c hj => ih j c hj (key (by simpa [AV.refs] using hn) hj)
  | arr k xs u _ ih => exact fun _ => .arr k xs u (ih (by
      have : ∀ {cs : List (AV κ)}, (∀ c ∈ cs, c.flat = true) → refsL cs = [] := by
        intro cs
        induction cs with
        | nil => intro _; rfl
        | cons c cs ih =>
          intro h
          have := h c List.mem_cons_self
          rw [refsL, ih fun c hc => h c (List.mem_cons_of_mem _ hc)]
          cases c <;> first | rfl | simp [AV.flat] at this
      show refsL _ = []
      exact this (flats hE)))
  | tab k xs b hx _ ih => exact fun _ => .tab k xs b hx (ih (by
      have : ∀ {cs : List (AV κ)}, (∀ c ∈ cs, c.flat = true) → refsL cs = [] := by
        intro cs
        induction cs with
        | nil => intro _; rfl
        | cons c cs ih =>
          intro h
          have := h c List.mem_cons_self
          rw [refsL, ih fun c hc => h c (List.mem_cons_of_mem _ hc)]
          cases c <;> first | rfl | simp [AV.flat] at this
      show refsL _ = []
      exact this (flats hE)))
  | _ => exact fun hn => by simp [AV.refs] at hn

/-- A callee's new memory joins the caller's. -/
theorem join_rel (hE : E.Ok) {S S' : List (Blk κ)} {F2 : Nat → Option Obj} (hr : Rel E F φ S w) (hm : Mv w F' noPl w' F2 φ') (h' : Rel E F2 φ' S' w') {G2 : Nat → Option Obj} (hF : Le F G2) (hGw : ∀ b o, G2 b = some o → w'.heap[b]? = some o)
    (hGa : ∀ i p g, φ i = some p → p.g = some g → G2 g = none) (hGb : ∀ i p g, φ' i = some p → p.g = some g → G2 g = none) (hblk : ∀ i b, S'[i]? = some b → OwnB E G2 φ' w' i b) :
    Rel E G2 (fun j => if j < S.length then φ j else φ' (j - S.length)) (S ++ S'.map (Blk.ren fun i => some (i + S.length))) w' ∧ (∀ j p, φ j = some p → (if j < S.length then φ j else φ' (j - S.length)) = some p) ∧
    (∀ i j, (some (i + S.length) : Option Nat) = some j → (if j < S.length then φ j else φ' (j - S.length)) = φ' i) := by
  have hφ1 : ∀ j p, φ j = some p → (if j < S.length then φ j else φ' (j - S.length)) = some p := fun j p h => by
    by_cases hj : j < S.length
    · rw [if_pos hj]; exact h
    · rw [hr.out j (by omega)] at h; cases h
  have hφ2 : ∀ i j, (some (i + S.length) : Option Nat) = some j → (if j < S.length then φ j else φ' (j - S.length)) = φ' i := fun i j h => by
    obtain rfl := Option.some.inj h
    rw [if_neg (by omega), Nat.add_sub_cancel]
  have keep : ∀ b, b < w.heap.size → w'.heap[b]? = w.heap[b]? := fun b hb => hm.keep b hb fun ⟨i, p, h, _⟩ => by cases h
  have fresh : ∀ i p g, φ' i = some p → p.g = some g → w.heap.size ≤ g := fun i p g h1 h2 => by
    rcases Nat.lt_or_ge g w.heap.size with hlt | hge
    · obtain ⟨_, _, h3, _⟩ := hm.held g ⟨i, p, h1, h2⟩ hlt
      cases h3
    · exact hge
  refine ⟨⟨hGw, fun i b hb => ?_, fun i hi => ?_, fun i j p q g h1 h2 h3 h4 => ?_, fun i p g h1 h2 => ?_, fun i p g h1 h2 => ?_⟩, hφ1, hφ2⟩
  · by_cases hi : i < S.length
    · rw [List.getElem?_append_left hi] at hb
      refine ((hr.blk i b hb).mono hF).keep (by simp only [if_pos hi]) hφ1 fun p g ob h1 h2 h3 => ?_
      rw [keep g (hr.lt i p g h1 h2)]; exact h3
    · rw [List.getElem?_append_right (by omega), List.getElem?_map] at hb
      obtain ⟨b', hb', rfl⟩ := Option.map_eq_some_iff.1 hb
      exact OwnB.ren hE hφ2 (by simp only [if_neg hi]) (hblk _ b' hb')
  · simp only [List.length_append, List.length_map] at hi
    rw [if_neg (by omega)]
    exact h'.out _ (by omega)
  · by_cases hi : i < S.length
    · rw [if_pos hi] at h1
      by_cases hj : j < S.length
      · rw [if_pos hj] at h2
        exact hr.inj i j p q g h1 h2 h3 h4
      · rw [if_neg hj] at h2
        have := fresh _ q g h2 h4
        have := hr.lt i p g h1 h3
        omega
    · rw [if_neg hi] at h1
      by_cases hj : j < S.length
      · rw [if_pos hj] at h2
        have := fresh _ p g h1 h3
        have := hr.lt j q g h2 h4
        omega
      · rw [if_neg hj] at h2
        have := h'.inj _ _ p q g h1 h2 h3 h4
        omega
  · by_cases hi : i < S.length
    · rw [if_pos hi] at h1; exact hGa i p g h1 h2
    · rw [if_neg hi] at h1; exact hGb _ p g h1 h2
  · by_cases hi : i < S.length
    · rw [if_pos hi] at h1
      have := hr.lt i p g h1 h2
      have := hm.size
      omega
    · rw [if_neg hi] at h1; exact h'.lt _ p g h1 h2

theorem join_mv {S : List (Blk κ)} {F2 G2 : Nat → Option Obj} (hm : Mv w F' noPl w' F2 φ') (hF : Le F G2) (hG : ∀ b o, G2 b = some o → F b = none → w.heap.size ≤ b) : Mv w F φ w' G2 (fun j => if j < S.length then φ j else φ' (j - S.length)) := by
  refine ⟨hm.os, hm.tape, hm.output, hm.size, fun b hb _ => hm.keep b hb (fun ⟨i, p, h, _⟩ => (by cases h)), fun b hb hlt => ?_, hF, fun b o h1 h2 => .inl (hG b o h1 h2)⟩
  obtain ⟨i, p, h1, h2⟩ := hb
  simp only at h1
  split at h1
  · exact ⟨i, p, h1, h2⟩
  · obtain ⟨_, _, h3, _⟩ := hm.held b ⟨_, p, h1, h2⟩ hlt
    cases h3

theorem ent_ok (hE : E.Ok) {G : Nat → AV κ} {fid : FuncId} {ins : List (Pat κ)} {p : Pat κ} {bs : List (BPat κ)} {free : Bool} {f : dens ins → Option (p.den × densB bs)}
    (henter : ∀ (us : Array Value) (w : World), (callFunc fid us).run P w = .ok (.enter fid us) w) (hfree : free = true → p.noRo = true ∧ ∀ b ∈ bs, b.NoRo E) (h : CallV P E G fid ins p bs f) : EntOk P E G fid (entOf ins p bs free f E) := by
  intro β args S K r hK
  refine ⟨henter, ?_⟩
  unfold entOf at hK
  dsimp only at hK
  split at hK
  · rename_i hempty
    obtain ⟨d, h1, hK⟩ := Option.bind_eq_some_iff.1 hK
    obtain ⟨q, h2, hK⟩ := Option.bind_eq_some_iff.1 hK
    refine ⟨_, _, [], hK, fun w F φ us hr hg hargs => ?_⟩
    have hargs0 : Reps E F noPl args us.toList := ⟨hargs.1, fun j c u hc hu => refs_free hE (hargs.2 j c u hc hu) (by
      have hall : refsL args = [] := by simpa using hempty
      have : ∀ (cs : List (AV κ)) (j : Nat) (c : AV κ), refsL cs = [] → cs[j]? = some c → c.refs = [] := by
        intro cs
        induction cs with
        | nil => intro j c _ h; simp at h
        | cons x cs ih =>
          intro j c h hj
          simp only [refsL, List.append_eq_nil_iff] at h
          cases j with
          | zero => simp at hj; subst hj; exact h.1
          | succ j => simp at hj; exact ih j c h.2 hj
      exact this args j c hall hc)⟩
    have hrel0 : Rel E F noPl [] w := ⟨hr.frz, fun i b hb => (by simp at hb), fun _ _ => rfl, fun _ _ _ _ _ h => (by cases h), fun _ _ _ h => (by cases h), fun _ _ _ h => (by cases h)⟩
    refine (h d q h2 w F us hrel0 hg (gets_rep _ _ _ _ h1 hargs0)).mono ?_
    rintro e w' ⟨u, F', φ', rfl, h3, h4, h5⟩
    have hGa : ∀ i p g, φ i = some p → p.g = some g → F' g = none := fun i p g h6 h7 => by
      cases hF' : F' g with
      | none => rfl
      | some o =>
        rcases h5.new g o hF' (hr.apart i p g h6 h7) with h8 | ⟨_, _, h8, _⟩
        · have := hr.lt i p g h6 h7; omega
        · cases h8
    obtain ⟨k1, k2, k3⟩ := join_rel hE hr h5 h3 (G2 := F') h5.le h3.frz hGa h3.apart h3.blk
    refine ⟨u, F', _, rfl, k1, h4.ren k3 hE, join_mv h5 h5.le fun b o h6 h7 => ?_, fun es vs he => ⟨he.1, fun j c u hc hu => ((he.2 j c u hc hu).mono h5.le).place k2⟩⟩
    rcases h5.new b o h6 h7 with h8 | ⟨_, _, h8, _⟩
    · exact h8
    · cases h8
  · split at hK
    · rename_i hfr
      obtain ⟨hp, hbs⟩ := hfree hfr
      obtain ⟨d, h1, hK⟩ := Option.bind_eq_some_iff.1 hK
      obtain ⟨q, h2, hK⟩ := Option.bind_eq_some_iff.1 hK
      refine ⟨_, _, [], hK, fun w F φ us hr hg hargs => ?_⟩
      have hle : Le F (allOf w) := fun b o hb => hr.frz b o hb
      have hargs0 : Reps E (allOf w) noPl (args.map (view E S)) us.toList := by
        refine ⟨by simpa using hargs.1, fun j c u hc hu => ?_⟩
        rw [List.getElem?_map] at hc
        obtain ⟨c', hc', rfl⟩ := Option.map_eq_some_iff.1 hc
        exact view_rep hE hr noPl (hargs.2 j c' u hc' hu)
      have hrel0 : Rel E (allOf w) noPl [] w := ⟨fun b o hb => hb, fun i b hb => (by simp at hb), fun _ _ => rfl, fun _ _ _ _ _ h => (by cases h), fun _ _ _ h => (by cases h), fun _ _ _ h => (by cases h)⟩
      refine (h d q h2 w (allOf w) us hrel0 (fun g ψ => (hg g ψ).mono hle) (gets_rep _ _ _ _ h1 hargs0)).mono ?_
      rintro e w' ⟨u, F', φ', rfl, h3, h4, h5⟩
      have hfrz : ∀ b o, F b = some o → w'.heap[b]? = some o := fun b o hb => by
        have := hr.frz b o hb
        rw [h5.keep b (Array.getElem?_eq_some_iff.1 this).1 fun ⟨i, p, h, _⟩ => by cases h]; exact this
      obtain ⟨k1, k2, k3⟩ := join_rel hE hr h5 h3 (G2 := F) (Le.refl F) hfrz hr.apart (fun i p g h6 h7 => by
          cases hF : F g with
          | none => rfl
          | some o =>
            have hlt := (Array.getElem?_eq_some_iff.1 (hr.frz g o hF)).1
            obtain ⟨_, _, h8, _⟩ := h5.held g ⟨i, p, h6, h7⟩ hlt
            cases h8) (fun i b hb => by
          have ho := h3.blk i b hb
          obtain ⟨q', e', hq, rfl⟩ := putsB_get _ _ _ _ hb
          have hno := hbs q' hq
          cases q' with
          | dead => exact ho
          | raw t ps =>
            obtain ⟨p, g, cur, h1, h2, h3, h4, h5⟩ := ho
            exact ⟨p, g, cur, h1, h2, h3, h4, fun j c u hc hu => (h5 j c u hc hu).noRo (noRoL_get (puts_noRo ps e' hno) hc)⟩
          | rows k =>
            obtain ⟨p, h1, h2, hh⟩ := ho
            refine ⟨p, h1, h2, ?_⟩
            rcases hh with hh | ⟨g, cur, h3, h4, h5, h6, h7, h8⟩
            · exact .inl hh
            · exact .inr ⟨g, cur, h3, h4, h5, h6, h7, fun r x j c u hx hc hu => (h8 r x j c u hx hc hu).noRo (hno x c (List.mem_of_getElem? hc))⟩
          | mp k =>
            obtain ⟨p, g, es, clock, h1, h2, h3, h4, h5, h6⟩ := ho
            exact ⟨p, g, es, clock, h1, h2, h3, h4, h5, fun r x e hx he => ⟨(h6 r x e hx he).1, (h6 r x e hx he).2.noRo (hno x)⟩⟩)
      exact ⟨u, F, _, rfl, k1, (h4.noRo (put_noRo _ _ hp)).ren k3 hE, join_mv h5 (Le.refl F) fun b o h6 h7 => (by rw [h7] at h6; cases h6), fun es vs he => ⟨he.1, fun j c u hc hu => (he.2 j c u hc hu).place k2⟩⟩
    · cases hK

/-- Values that are told whole by themselves. -/
def valsOf : List (AV κ) → Option (List Value)
  | [] => some []
  | .val v :: cs => match valsOf cs with
    | some vs => some (v :: vs)
    | none => none
  | _ :: _ => none
def AV.toVal? : AV κ → Option Value
  | .val v => some v
  | .agg cs => match valsOf cs with
    | some vs => some (.agg vs.toArray)
    | none => none
  | .tup cs => match valsOf cs with
    | some vs => some (.tuple vs.toArray)
    | none => none
  | _ => none
theorem mapM_vals : ∀ {cs : List (AV κ)} {vs : List Value}, valsOf cs = some vs → cs = vs.map AV.val
  | [], vs, h => by obtain rfl := Option.some.inj h; rfl
  | c :: cs, vs, h => by
    cases c with
    | val v =>
      simp only [valsOf] at h
      split at h
      · rename_i vs' hvs
        obtain rfl := Option.some.inj h
        rw [mapM_vals hvs]; rfl
      · cases h
    | _ => simp [valsOf] at h
theorem toVal_rep {v : AV κ} {u : Value} (h : v.toVal? = some u) : (∀ F φ, Rep E F φ v u) ∧ ∀ F φ u', Rep E F φ v u' → u' = u := by
  cases v with
  | val x => obtain rfl := Option.some.inj h; exact ⟨fun F φ => .val _, fun F φ u' hr => val_inv hr⟩
  | agg cs =>
    simp only [AV.toVal?] at h
    split at h
    · rename_i vs hvs
      obtain rfl := Option.some.inj h
      have e := mapM_vals hvs
      subst e
      refine ⟨fun F φ => agg_mk (us := vs.toArray) (by simpa using Reps.vals vs), fun F φ u' hr => ?_⟩
      obtain ⟨us, rfl, hus⟩ := agg_inv hr
      congr 1
      rw [← Array.toList_inj]
      apply List.ext_getElem?
      intro j
      have hl := hus.1
      simp only [List.length_map] at hl
      by_cases hj : j < vs.length
      · have h1 : us.toList[j]? = some (us.toList[j]'(by omega)) := List.getElem?_eq_getElem _
        have := val_inv (hus.2 j (.val vs[j]) _ (by simp [hj]) h1)
        rw [h1, this]; simp [hj]
      · rw [List.getElem?_eq_none (by omega), List.getElem?_eq_none (by simp; omega)]
    · cases h
  | tup cs =>
    simp only [AV.toVal?] at h
    split at h
    · rename_i vs hvs
      obtain rfl := Option.some.inj h
      have e := mapM_vals hvs
      subst e
      refine ⟨fun F φ => tup_mk (us := vs.toArray) (by simpa using Reps.vals vs), fun F φ u' hr => ?_⟩
      obtain ⟨us, rfl, hus⟩ := tup_inv hr
      congr 1
      rw [← Array.toList_inj]
      apply List.ext_getElem?
      intro j
      have hl := hus.1
      simp only [List.length_map] at hl
      by_cases hj : j < vs.length
      · have h1 : us.toList[j]? = some (us.toList[j]'(by omega)) := List.getElem?_eq_getElem _
        have := val_inv (hus.2 j (.val vs[j]) _ (by simp [hj]) h1)
        rw [h1, this]; simp [hj]
      · rw [List.getElem?_eq_none (by omega), List.getElem?_eq_none (by simp; omega)]
    · cases h
  | _ => simp [AV.toVal?] at h

def qentOf (ins : List (Pat κ)) (p : Pat κ) (f : dens ins → Option (p.den × densB ([] : List (BPat κ)))) (E : Encs κ) : QEnt κ := fun args S K =>
  (gets ins (args.map (view E S))).bind fun d => (f d).bind fun r => if (p.put r.1).toVal?.isSome then K (p.put r.1) else none

theorem qent_ok (hE : E.Ok) {G : Nat → AV κ} {fid : FuncId} {ins : List (Pat κ)} {p : Pat κ} {f : dens ins → Option (p.den × densB ([] : List (BPat κ)))}
    (henter : ∀ (us : Array Value) (w : World), (callFunc fid us).run P w = .ok (.enter fid us) w) (h : CallV P E G fid ins p [] f) : QEntOk P E G fid (qentOf ins p f E) := by
  intro β args S K r hK
  refine ⟨henter, ?_⟩
  unfold qentOf at hK
  dsimp only at hK
  obtain ⟨d, h1, hK⟩ := Option.bind_eq_some_iff.1 hK
  obtain ⟨q, h2, hK⟩ := Option.bind_eq_some_iff.1 hK
  obtain ⟨hv, hK⟩ := ite_some hK
  obtain ⟨u, hu⟩ := Option.isSome_iff_exists.1 hv
  obtain ⟨hr1, hr2⟩ := toVal_rep (E := E) hu
  refine ⟨_, u, hK, hr1, fun w F φ us hr hg hargs => ?_⟩
  have hle : Le F (allOf w) := fun b o hb => hr.frz b o hb
  have hargs0 : Reps E (allOf w) noPl (args.map (view E S)) us.toList := by
    refine ⟨by simpa using hargs.1, fun j c u hc hu => ?_⟩
    rw [List.getElem?_map] at hc
    obtain ⟨c', hc', rfl⟩ := Option.map_eq_some_iff.1 hc
    exact view_rep hE hr noPl (hargs.2 j c' u hc' hu)
  have hrel0 : Rel E (allOf w) noPl [] w := ⟨fun b o hb => hb, fun i b hb => (by simp at hb), fun _ _ => rfl, fun _ _ _ _ _ h => (by cases h), fun _ _ _ h => (by cases h), fun _ _ _ h => (by cases h)⟩
  refine (h d q h2 w (allOf w) us hrel0 (fun g ψ => (hg g ψ).mono hle) (gets_rep _ _ _ _ h1 hargs0)).mono ?_
  rintro e w' ⟨u', F', φ', rfl, h3, h4, h5⟩
  exact ⟨by rw [hr2 _ _ _ h4], h5.os, h5.tape, h5.output, h5.size, fun b hb => h5.keep b hb fun ⟨i, p, h, _⟩ => (by cases h)⟩
end
end Go.Am
end

section
namespace Go.Am
noncomputable section
open Go.RowKit
variable {κ : Kinds} {E : Encs κ} {F F' : Nat → Option Obj} {φ φ' : Nat → Option Pl} {P : Program} {C : Ctx κ} {a : Act} {w w' : World} {s s' : St κ} {kindOf : TypeId → Option κ.Kc}

/-- What a function does of plain arguments and of memory that it is given: a value, what it knows of these arguments in the end, memory. -/
def CallW (P : Program) (E : Encs κ) (G : Nat → AV κ) (fid : FuncId) (ins : List (Pat κ)) (bi : List (BPat κ)) (ka : List Nat) (po : List (Pat κ)) (bo : List (BPat κ)) (f : dens ins × densB bi → Option (dens po × densB bo)) : Prop :=
  ∀ (d : dens ins × densB bi) (r : dens po × densB bo), f d = some r → ∀ (w : World) (F : Nat → Option Obj) (φ : Nat → Option Pl) (us : Array Value), Rel E F φ (putsB bi d.2) w → GlobOk E G F → Reps E F φ (puts ins d.1) us.toList →
    Calls P fid us w fun e w' => ∃ u F' φ', e = .returned u ∧ Rel E F' φ' (putsB bo r.2) w' ∧ Reps E F' φ' (puts po r.1) (u :: ka.map fun t => us.getD t undef) ∧ Mv w F φ w' F' φ'

def KfnW (C : Ctx κ) (rs : List ResultVar) (m : Nat) (ka : List Nat) (po : List (Pat κ)) (bo : List (BPat κ)) : Ex → St κ → Option (dens po × densB bo)
  | .exit _, _ => none
  | _, s => match resL C s rs with
    | some vs => let t := gc m (List.range (ka.length + 1)) { env := resV vs :: ka.map s.get, S := s.S, al := [] }
      match gets po t.env, getsB bo t.S with
      | some x, some y => some (x, y)
      | _, _ => none
    | none => none

theorem range_get {l : List (AV κ)} {S : List (Blk κ)} {al : List (Nat × Nat)} : (List.range l.length).map (St.get { env := l, S := S, al := al }) = l := by
  apply List.ext_getElem?
  intro i
  by_cases hi : i < l.length
  · simp [List.getElem?_range hi, St.get, hi]
  · rw [List.getElem?_eq_none (by simpa using hi), List.getElem?_eq_none (by simpa using hi)]

theorem putsB_length : ∀ (ps : List (BPat κ)) (d : densB ps), (putsB ps d).length = ps.length
  | [], _ => rfl
  | p :: ps, d => by simp only [putsB, List.length_cons]; rw [putsB_length ps d.2]
theorem puts_len : ∀ (ps : List (Pat κ)) (d : dens ps), (puts ps d).length = ps.length
  | [], _ => rfl
  | p :: ps, d => by simp only [puts, List.length_cons]; rw [puts_len ps d.2]

theorem fn_okW (hC : C.Ok) {fid : FuncId} {fn : Func} {c : Code} {n : Note} {ins : List (Pat κ)} {bi : List (BPat κ)} {ka : List Nat} {po : List (Pat κ)} {bo : List (BPat κ)} {f : dens ins × densB bi → Option (dens po × densB bo)}
    (hfn : C.P.funcs[fid]? = some fn) (hb : fn.body = some c) (hka : (ka.all fun t => decide (t < ins.length) && !(writes c).contains t) = true) (hfit : Fits C c n)
    (hf : ∀ d, f d = exec C kindOf c n { env := puts ins d.1 ++ List.replicate (fn.ntmps - ins.length) .bot, S := putsB bi d.2, al := [] } (KfnW C fn.results.toList bi.length ka po bo)) : CallW C.P C.E C.glob fid ins bi ka po bo f := by
  intro d r hd w F φ us hrel hglob hargs
  rw [hf] at hd
  obtain ⟨x, s', h1, h2⟩ := exec_sound hC hfit hd
  have pl : (puts ins d.1).length = ins.length := puts_len ins d.1
  have hsz : us.size = ins.length := by rw [← pl, hargs.1]; simp
  have tm : ∀ t, t < us.size → (us ++ Array.replicate (fn.ntmps - us.size) undef).getD t undef = us.getD t undef := fun t ht => by
    simp [Array.getD_eq_getD_getElem?, Array.getElem?_append_left ht]
  have hgood : Good C.E C.glob { tmps := us ++ Array.replicate (fn.ntmps - us.size) undef, defers := [] } w { env := puts ins d.1 ++ List.replicate (fn.ntmps - ins.length) .bot, S := putsB bi d.2, al := [] } F φ := by
    refine ⟨hrel, fun t v hv => ?_, by simp [pl, hsz], rfl, fun q hq => by simp at hq, hglob⟩
    simp only at hv ⊢
    by_cases ht : t < ins.length
    · rw [List.getElem?_append_left (by rw [pl]; exact ht)] at hv
      have hlt : t < us.size := by omega
      rw [tm t hlt]
      refine hargs.2 t v _ hv ?_
      simp [hlt]
    · rw [List.getElem?_append_right (by rw [pl]; omega), List.getElem?_replicate] at hv
      split at hv
      · obtain rfl := Option.some.inj hv; exact .bot _
      · cases hv
  have hpost : ∀ (a' : Act) (w' : World) (F' : Nat → Option Obj) (φ' : Nat → Option Pl), Good C.E C.glob a' w' s' F' φ' → Mv w F φ w' F' φ' → KeepT (writes c) { tmps := us ++ Array.replicate (fn.ntmps - us.size) undef, defers := [] } a' → (∀ i, x ≠ .exit i) → a'.defers = [] ∧ ∃ v, (results fn a'.tmps).run C.P w' = .ok v w' ∧
      ∃ u F' φ', Ending.returned v = .returned u ∧ Rel C.E F' φ' (putsB bo r.2) w' ∧ Reps C.E F' φ' (puts po r.1) (u :: ka.map fun t => us.getD t undef) ∧ Mv w F φ w' F' φ' := by
    intro a' w' F' φ' k1 k2 k3 hx
    have hk : (match resL C s' fn.results.toList with
      | some vs => let t := gc bi.length (List.range (ka.length + 1)) { env := resV vs :: ka.map s'.get, S := s'.S, al := [] }
        match gets po t.env, getsB bo t.S with
        | some x, some y => some (x, y)
        | _, _ => none
      | none => none) = some r := by
      cases x with
      | exit i => exact absurd rfl (hx i)
      | normal => exact h1
      | ret => exact h1
    split at hk
    · rename_i vs hvs
      obtain ⟨u, h3, h4⟩ := results_sound hC.enc k1 hvs
      simp only at hk
      have hka' : Reps C.E F' φ' (ka.map s'.get) (ka.map fun t => us.getD t undef) := by
        refine ⟨by simp, fun j v u hv hu => ?_⟩
        rw [List.getElem?_map] at hv hu
        cases hj : ka[j]? with
        | none => rw [hj] at hv; cases hv
        | some t =>
          rw [hj] at hv hu
          obtain rfl := Option.some.inj hv
          obtain rfl := Option.some.inj hu
          have := List.all_eq_true.1 hka t (List.mem_of_getElem? hj)
          simp only [Bool.and_eq_true, decide_eq_true_eq, Bool.not_eq_true'] at this
          have e := k3 t (fun hm => by have := List.contains_iff_mem.2 hm; simp_all)
          have h5 := env_rep k1 t
          rw [e] at h5
          have h6 := tm t (by omega)
          simp only at h5
          rw [h6] at h5
          exact h5
      have hlen : (resV vs :: ka.map s'.get).length = ka.length + 1 := by simp
      obtain ⟨h5, h6⟩ := gc_seen hC.enc (s := { env := resV vs :: ka.map s'.get, S := s'.S, al := [] }) (m := bi.length) (live := List.range (ka.length + 1)) (us := u :: ka.map fun t => us.getD t undef) k1.rel (by
        rw [← hlen, range_get]; exact Reps.cons h3 hka')
      split at hk
      · rename_i x y hx' hy'
        obtain rfl := Option.some.inj hk
        obtain ⟨h7, h8⟩ := ext_seen (sh := ⟨bi.length, List.range (ka.length + 1), po, bo⟩) (d := (x, y)) (by unfold ext; rw [hx', hy']) h5
        exact ⟨k1.defers, u, h4, u, F', _, rfl, h8, h7, k2.trans h6⟩
      · cases hk
    · cases hk
  refine calls_of_wp hfn hb (h2 _ w F φ hgood _ fun a' w' F' φ' k1 k2 k3 => ?_)
  cases x with
  | exit i => exact absurd h1 (by simp [KfnW])
  | normal => exact hpost a' w' F' φ' k1 k2 k3 (fun i h => by cases h)
  | ret => exact hpost a' w' F' φ' k1 k2 k3 (fun i h => by cases h)

/-! ### The caller's side -/
/-- Where a block lay it lies still. -/
def SameO (φ φ' : Nat → Option Pl) (i : Nat) : Prop :=
  (∀ p g, φ i = some p → p.g = some g → ∃ q, φ' i = some q ∧ q.g = some g ∧ q.len = p.len ∧ q.cap = p.cap) ∧ (∀ p, φ i = some p → p.g = none → ∃ q, φ' i = some q ∧ q.g = none)
def SameP (φ φ' : Nat → Option Pl) (i : Nat) : Prop := ∀ p g, φ i = some p → p.g = some g → ∃ q, φ' i = some q ∧ q.g = some g
theorem kwL_get (m : List (Nat × Nat)) : ∀ (cs : List (AV κ)) (j : Nat), (kwL m cs)[j]? = (cs[j]?).map (AV.kw m)
  | [], j => by simp [kwL]
  | c :: cs, 0 => by simp [kwL]
  | c :: cs, j + 1 => by simp [kwL, kwL_get m cs j]
theorem kwL_length (m : List (Nat × Nat)) : ∀ (cs : List (AV κ)), (kwL m cs).length = cs.length
  | [] => rfl
  | c :: cs => by simp [kwL, kwL_length m cs]
theorem kw_flat (m : List (Nat × Nat)) {c : AV κ} (h : c.flat = true) : c.kw m = c := by
  cases c <;> simp [AV.flat] at h <;> simp [AV.kw]
theorem kwL_flat (m : List (Nat × Nat)) : ∀ {cs : List (AV κ)}, (∀ c ∈ cs, c.flat = true) → kwL m cs = cs
  | [], _ => rfl
  | c :: cs, h => by rw [kwL, kw_flat m (h c List.mem_cons_self), kwL_flat m fun c hc => h c (List.mem_cons_of_mem _ hc)]
theorem Rep.kw {m : List (Nat × Nat)} (hO : ∀ i, kwO m i = true → SameO φ φ' i) (hP : ∀ i, kwP m i = true → SameP φ φ' i) (hE : E.Ok) {v : AV κ} {u : Value} (h : Rep E F φ v u) : Rep E F φ' (v.kw m) u := by
  induction h with
  | bot u => exact .bot u
  | val v => exact .val v
  | agg cs us hl _ ih =>
    refine .agg _ us (by rw [kwL_length]; exact hl) fun j c u hc hu => ?_
    rw [kwL_get] at hc
    obtain ⟨c', hc', rfl⟩ := Option.map_eq_some_iff.1 hc
    exact ih j c' u hc' hu
  | tup cs us hl _ ih =>
    refine .tup _ us (by rw [kwL_length]; exact hl) fun j c u hc hu => ?_
    rw [kwL_get] at hc
    obtain ⟨c', hc', rfl⟩ := Option.map_eq_some_iff.1 hc
    exact ih j c' u hc' hu
  | ro k xs b off cap us hcap hc _ ih =>
    refine .ro k xs b off cap us hcap hc fun r x j c hx hj => ?_
    have := ih r x j c hx hj
    rwa [kw_flat m (hE.flat k x c (List.mem_of_getElem? hj))] at this
  | roNil k => exact .roNil k
  | roEmp k a cap => exact .roEmp k a cap
  | rop cs b off us hc _ ih =>
    refine .rop _ b off us (fun j hj => hc j (by rwa [kwL_length] at hj)) fun j c hj => ?_
    rw [kwL_get] at hj
    obtain ⟨c', hc', rfl⟩ := Option.map_eq_some_iff.1 hj
    exact ih j c' hc'
  | arr k xs u _ ih =>
    refine .arr k xs u ?_
    have : AV.kw m (.agg (xs.flatMap (E.enc k))) = .agg (xs.flatMap (E.enc k)) := by rw [AV.kw, kwL_flat m (flats hE)]
    rwa [this] at ih
  | tab k xs b hx _ ih =>
    refine .tab k xs b hx ?_
    have : AV.kw m (.rop (xs.flatMap (E.enc k))) = .rop (xs.flatMap (E.enc k)) := by rw [AV.kw, kwL_flat m (flats hE)]
    rwa [this] at ih
  | own k j p g h hg =>
    unfold AV.kw
    split
    · rename_i hj
      obtain ⟨q, h1, h2, h3, h4⟩ := (hO j hj).1 p g h hg
      rw [← h3, ← h4]
      exact .own k j q g h1 h2
    · exact .bot _
  | ownNil k j p h hg =>
    unfold AV.kw
    split
    · rename_i hj
      obtain ⟨q, h1, h2⟩ := (hO j hj).2 p h hg
      exact .ownNil k j q h1 h2
    · exact .bot _
  | sub k j lo p ad cap h h0 hl ha => exact .bot _
  | ptr j off p g h hg =>
    unfold AV.kw
    split
    · rename_i hj
      obtain ⟨q, h1, h2⟩ := hP j hj p g h hg
      exact .ptr j off q g h1 h2
    · exact .bot _
  | ptrE k j row col p g h hg hr =>
    unfold AV.kw
    split
    · rename_i hj
      obtain ⟨q, h1, h2, h3, h4⟩ := (hO j hj).1 p g h hg
      exact .ptrE k j row col q g h1 h2 (by rw [h3]; exact hr)
    · exact .bot _
  | optrN j =>
    unfold AV.kw
    split
    · exact .optrN j
    · exact .bot _
  | optr j p g h hg =>
    unfold AV.kw
    split
    · rename_i hj
      obtain ⟨q, h1, h2⟩ := hP j hj p g h hg
      exact .optr j q g h1 h2
    · exact .bot _
  | mp j p g h hg =>
    unfold AV.kw
    split
    · rename_i hj
      obtain ⟨q, h1, h2⟩ := hP j hj p g h hg
      exact .mp j q g h1 h2
    · exact .bot _
  | fn f cs us hl _ ih =>
    refine .fn f _ us (by rw [kwL_length]; exact hl) fun j c u hc hu => ?_
    rw [kwL_get] at hc
    obtain ⟨c', hc', rfl⟩ := Option.map_eq_some_iff.1 hc
    exact ih j c' u hc' hu

theorem OwnB.kw {m : List (Nat × Nat)} (hO : ∀ i, kwO m i = true → SameO φ φ' i) (hP : ∀ i, kwP m i = true → SameP φ φ' i) (hE : E.Ok) {i : Nat} {b : Blk κ} (hj : φ' i = φ i) (h : OwnB E F φ w i b) : OwnB E F φ' w i (b.kw m) := by
  cases b with
  | dead => exact hj.trans h
  | raw t cs =>
    obtain ⟨p, g, cur, h1, h2, h3, h4, h5⟩ := h
    refine ⟨p, g, cur, hj.trans h1, h2, h3, by rw [kwL_length]; exact h4, fun j c u hc hu => ?_⟩
    rw [kwL_get] at hc
    obtain ⟨c', hc', rfl⟩ := Option.map_eq_some_iff.1 hc
    exact (h5 j c' u hc' hu).kw hO hP hE
  | rows k xs =>
    obtain ⟨p, h1, h2, hh⟩ := h
    refine ⟨p, hj.trans h1, h2, ?_⟩
    rcases hh with hh | ⟨g, cur, h3, h4, h5, h6, h7, h8⟩
    · exact .inl hh
    · refine .inr ⟨g, cur, h3, h4, h5, h6, h7, fun r x j c u hx hc hu => ?_⟩
      exact ((h8 r x j c u hx hc hu).flat hE (hE.flat k x c (List.mem_of_getElem? hc))).1
  | mp k xs =>
    obtain ⟨p, g, es, clock, h1, h2, h3, h4, h5, h6⟩ := h
    exact ⟨p, g, es, clock, hj.trans h1, h2, h3, h4, h5, fun r x e hx he => ⟨(h6 r x e hx he).1, (h6 r x e hx he).2.still hE (hE.still k x)⟩⟩

theorem lookup_none_of {m : List (Nat × Nat)} {i : Nat} (h : m.lookup i = none) : ∀ p ∈ m, p.1 ≠ i := by
  intro p hp
  rw [List.lookup_eq_none_iff] at h
  have := h p hp
  intro e
  simp [e] at this

mutual
/-- How block j is held at the same place of both: 1 by a pointer, 2 by a slice, 0 not. -/
def Pat.keeps (j : Nat) : Pat κ → Pat κ → Nat
  | .ptr i _, q => match q with | .ptr i' _ => if i = j ∧ i' = j then 1 else 0 | _ => 0
  | .mp i, q => match q with | .mp i' => if i = j ∧ i' = j then 1 else 0 | _ => 0
  | .own _ i, q => match q with | .own _ i' => if i = j ∧ i' = j then 2 else 0 | _ => 0
  | .fn _ ps, q => match q with | .fn _ qs => keepsL j ps qs | _ => 0
  | .agg ps, q => match q with | .agg qs => keepsL j ps qs | _ => 0
  | _, _ => 0
def keepsL (j : Nat) : List (Pat κ) → List (Pat κ) → Nat
  | p :: ps, qs => match qs with
    | q :: qs => match p.keeps j q with
      | 0 => keepsL j ps qs
      | n => n
    | [] => 0
  | [], _ => 0
end
/-- How block j is still held by an argument in the end: 1 by a pointer, 2 by a slice, 0 not. -/
def keptOf (ins po : List (Pat κ)) (j : Nat) : List (Nat × Nat) → Nat
  | [] => 0
  | (t, c) :: l => match ins[t]?, po[c]? with
    | some p, some q => match p.keeps j q with
      | 0 => keptOf ins po j l
      | n => n
    | _, _ => keptOf ins po j l
def modes (ins po : List (Pat κ)) (ka l : List Nat) : List (Nat × Nat) := (l.zip (List.range l.length)).map fun p => (p.1, keptOf ins po p.2 (ka.zip ((List.range ka.length).map (· + 1))))

def entW (ins : List (Pat κ)) (bi : List (BPat κ)) (ka : List Nat) (po : List (Pat κ)) (bo : List (BPat κ)) (f : dens ins × densB bi → Option (dens po × densB bo)) : Ent κ := fun args S K =>
  let s : St κ := { env := args, S := S, al := [] }
  let l := ids 0 (List.range args.length) s
  let t := gc 0 (List.range args.length) s
  let ρ : Nat → Option Nat := fun j => if j < l.length then l[j]? else some (j - l.length + S.length)
  if l.all fun i => decide (i < S.length) then
    (gets ins t.env).bind fun x => (getsB bi t.S).bind fun y => (f (x, y)).bind fun r =>
      let bs := (putsB bo r.2).map (Blk.ren ρ)
      let m := modes ins po ka l
      match puts po r.1 with
      | v :: _ => K (v.ren ρ) (setEach (S.map (Blk.kw m)) l (bs.take l.length) ++ bs.drop l.length) m
      | [] => none
  else none

theorem modes_get {ins po : List (Pat κ)} {ka l : List Nat} (hl : l.Nodup) {i : Nat} : (i ∉ l → (modes ins po ka l).lookup i = none) ∧ ∀ j, l[j]? = some i → (modes ins po ka l).lookup i = some (keptOf ins po j (ka.zip ((List.range ka.length).map (· + 1)))) := by
  have gen : ∀ (l : List Nat) (k : Nat) (g : Nat → Nat), l.Nodup → (i ∉ l → ((l.zip (List.range' k l.length)).map fun p => (p.1, g p.2)).lookup i = none) ∧ ∀ j, l[j]? = some i → ((l.zip (List.range' k l.length)).map fun p => (p.1, g p.2)).lookup i = some (g (k + j)) := by
    intro l
    induction l with
    | nil => intro k g _; exact ⟨fun _ => rfl, fun j h => by simp at h⟩
    | cons x l ih =>
      intro k g hn
      rw [List.nodup_cons] at hn
      obtain ⟨h1, h2⟩ := ih (k + 1) g hn.2
      simp only [List.length_cons, List.range'_succ, List.zip_cons_cons, List.map_cons, List.lookup_cons]
      refine ⟨fun hi => ?_, fun j hj => ?_⟩
      · simp only [List.mem_cons, not_or] at hi
        have : (i == x) = false := by simpa using hi.1
        rw [this]
        exact h1 hi.2
      · cases j with
        | zero => simp at hj; subst hj; simp
        | succ j =>
          simp at hj
          have : (i == x) = false := by
            simp only [beq_eq_false_iff_ne, ne_eq]
            intro e
            subst e
            exact hn.1 (List.mem_of_getElem? hj)
          rw [this]
          have := h2 j hj
          rw [this, show k + 1 + j = k + (j + 1) by omega]
  have := gen l 0 (fun j => keptOf ins po j (ka.zip ((List.range ka.length).map (· + 1)))) hl
  unfold modes
  rw [← List.range_eq_range'] at this
  refine ⟨this.1, fun j hj => by have h := this.2 j hj; rwa [Nat.zero_add] at h⟩

theorem puts_get : ∀ {ps : List (Pat κ)} {d : dens ps} {t : Nat} {p : Pat κ}, ps[t]? = some p → ∃ e : p.den, (puts ps d)[t]? = some (p.put e)
  | [], d, t, p, h => by simp at h
  | q :: ps, d, 0, p, h => by simp at h; subst h; exact ⟨d.1, rfl⟩
  | q :: ps, d, t + 1, p, h => by
    simp at h
    obtain ⟨e, he⟩ := puts_get (d := d.2) h
    exact ⟨e, by simpa [puts] using he⟩

/-- What a value shows of a block ahead and behind. -/
def Kept (φ φ' : Nat → Option Pl) (j n : Nat) : Prop := (n = 1 → SameP φ φ' j) ∧ (n = 2 → SameO φ φ' j)
theorem Kept.zero {j : Nat} : Kept φ φ' j 0 := ⟨fun h => (by cases h), fun h => (by cases h)⟩
mutual
theorem keeps_spec {φ φ' : Nat → Option Pl} {j : Nat} : ∀ (p q : Pat κ) (d : p.den) (e : q.den) (u : Value), Rep E F φ (p.put d) u → Rep E F' φ' (q.put e) u → Kept φ φ' j (p.keeps j q)
  | .ptr i o, q, d, e, u, h1, h2 => by
    cases q with
    | ptr i' o' =>
      show Kept φ φ' j (if i = j ∧ i' = j then 1 else 0)
      split
      · rename_i hc
        obtain ⟨rfl, rfl⟩ := hc
        have h1 : Rep E F φ (.ptr i' o) u := h1
        have h2 : Rep E F' φ' (.ptr i' o') u := h2
        cases h1 with
        | ptr _ _ p g hp hg =>
          cases h2 with
          | ptr _ _ q g' hq hg' =>
            refine ⟨fun _ p' g1 k1 k2 => ?_, fun h => by cases h⟩
            obtain rfl := Option.some.inj (hp.symm.trans k1)
            obtain rfl := Option.some.inj (hg.symm.trans k2)
            exact ⟨q, hq, hg'⟩
      · exact .zero
    | _ => exact .zero
  | .mp i, q, d, e, u, h1, h2 => by
    cases q with
    | mp i' =>
      show Kept φ φ' j (if i = j ∧ i' = j then 1 else 0)
      split
      · rename_i hc
        obtain ⟨rfl, rfl⟩ := hc
        have r1 : Rep E F φ (.mp i') u := h1
        have r2 : Rep E F' φ' (.mp i') u := h2
        cases r1 with
        | mp _ p g hp hg =>
          cases r2 with
          | mp _ q g' hq hg' =>
            refine ⟨fun _ p' g1 k1 k2 => ?_, fun h => by cases h⟩
            obtain rfl := Option.some.inj (hp.symm.trans k1)
            obtain rfl := Option.some.inj (hg.symm.trans k2)
            exact ⟨q, hq, hg'⟩
      · exact .zero
    | _ => exact .zero
  | .own k i, q, d, e, u, h1, h2 => by
    cases q with
    | own k' i' =>
      show Kept φ φ' j (if i = j ∧ i' = j then 2 else 0)
      split
      · rename_i hc
        obtain ⟨rfl, rfl⟩ := hc
        have r1 : Rep E F φ (.own k i') u := h1
        have r2 : Rep E F' φ' (.own k' i') u := h2
        refine ⟨fun h => (by cases h), fun _ => ?_⟩
        generalize hu0 : u = u0 at r2
        cases r1 with
        | own _ _ p g hp hg =>
          cases r2 with
          | own _ _ q g' hq hg' =>
            injection hu0 with e3 e4 e5
            injection e3 with e3
            injection e3 with e3
            subst e3
            refine ⟨fun p' g1 k1 k2 => ?_, fun p' k1 k2 => ?_⟩
            · obtain rfl := Option.some.inj (hp.symm.trans k1)
              obtain rfl := Option.some.inj (hg.symm.trans k2)
              exact ⟨q, hq, hg', e4.symm, e5.symm⟩
            · obtain rfl := Option.some.inj (hp.symm.trans k1)
              rw [k2] at hg; cases hg
          | ownNil _ _ q hq hg' => cases hu0
        | ownNil _ _ p hp hg =>
          cases r2 with
          | own _ _ q g' hq hg' => cases hu0
          | ownNil _ _ q hq hg' =>
            refine ⟨fun p' g1 k1 k2 => ?_, fun p' k1 k2 => ?_⟩
            · obtain rfl := Option.some.inj (hp.symm.trans k1)
              rw [k2] at hg; cases hg
            · exact ⟨q, hq, hg'⟩
      · exact .zero
    | _ => exact .zero
  | .fn f ps, q, d, e, u, h1, h2 => by
    cases q with
    | fn g qs =>
      obtain ⟨us, rfl, k1⟩ := fn_inv (show Rep E F φ (.fn f (puts ps d)) u from h1)
      obtain ⟨vs, hv, k2⟩ := fn_inv (show Rep E F' φ' (.fn g (puts qs e)) _ from h2)
      injection hv with _ _ hv
      subst hv
      exact keepsL_spec ps qs d e _ k1 k2
    | _ => exact .zero
  | .agg ps, q, d, e, u, h1, h2 => by
    cases q with
    | agg qs =>
      obtain ⟨us, rfl, k1⟩ := agg_inv (show Rep E F φ (.agg (puts ps d)) u from h1)
      obtain ⟨vs, hv, k2⟩ := agg_inv (show Rep E F' φ' (.agg (puts qs e)) _ from h2)
      injection hv with hv
      subst hv
      exact keepsL_spec ps qs d e _ k1 k2
    | _ => exact .zero
  | .any, _, _, _, _, _, _ => .zero
  | .int _, _, _, _, _, _, _ => .zero
  | .bool, _, _, _, _, _, _ => .zero
  | .str, _, _, _, _, _, _ => .zero
  | .nilS, _, _, _, _, _, _ => .zero
  | .optr _, _, _, _, _, _, _ => .zero
  | .sub _ _, _, _, _, _, _, _ => .zero
  | .nilP, _, _, _, _, _, _ => .zero
  | .ro _, _, _, _, _, _, _ => .zero
  | .tup _, _, _, _, _, _, _ => .zero
  | .rop _, _, _, _, _, _, _ => .zero
  | .arr _, _, _, _, _, _, _ => .zero
  | .tab _, _, _, _, _, _, _ => .zero
theorem keepsL_spec {φ φ' : Nat → Option Pl} {j : Nat} : ∀ (ps qs : List (Pat κ)) (d : dens ps) (e : dens qs) (us : List Value), Reps E F φ (puts ps d) us → Reps E F' φ' (puts qs e) us → Kept φ φ' j (keepsL j ps qs)
  | [], _, _, _, _, _, _ => .zero
  | p :: ps, [], _, _, _, _, _ => .zero
  | p :: ps, q :: qs, d, e, us, h1, h2 => by
    obtain ⟨u, us', rfl, a1, a2⟩ := (show Reps E F φ (p.put d.1 :: puts ps d.2) us from h1).cons_inv
    obtain ⟨u2, us2, e2, b1, b2⟩ := (show Reps E F' φ' (q.put e.1 :: puts qs e.2) _ from h2).cons_inv
    obtain ⟨rfl, rfl⟩ := List.cons.inj e2
    have k1 := keeps_spec (j := j) p q d.1 e.1 u a1 b1
    have k2 := keepsL_spec (j := j) ps qs d.2 e.2 us' a2 b2
    show Kept φ φ' j (match p.keeps j q with | 0 => keepsL j ps qs | n => n)
    split
    · exact k2
    · exact k1
end
/-- What an argument shows of its block ahead and behind. -/
theorem kept_spec {ins po : List (Pat κ)} {x : dens ins} {y : dens po} {us vs : List Value} {l : List (Nat × Nat)} {F F' : Nat → Option Obj} {φ φ' : Nat → Option Pl} (h1 : Reps E F φ (puts ins x) us) (h2 : Reps E F' φ' (puts po y) vs)
    (hl : ∀ p ∈ l, ∃ u, us[p.1]? = some u ∧ vs[p.2]? = some u) {j : Nat} : (keptOf ins po j l = 1 → SameP φ φ' j) ∧ (keptOf ins po j l = 2 → SameO φ φ' j) := by
  induction l with
  | nil => exact Kept.zero
  | cons p l ih =>
    have ih := ih fun p hp => hl p (List.mem_cons_of_mem _ hp)
    obtain ⟨t, c⟩ := p
    simp only [keptOf]
    split
    · rename_i q1 q2 hq1 hq2
      split
      · exact ih
      · obtain ⟨d1, hd1⟩ := puts_get (d := x) hq1
        obtain ⟨d2, hd2⟩ := puts_get (d := y) hq2
        obtain ⟨u, hu, hv⟩ := hl (t, c) List.mem_cons_self
        exact keeps_spec (j := j) _ _ _ _ u (h1.2 t _ u hd1 hu) (h2.2 c _ u hd2 hv)
    · exact ih

theorem join_relW (hE : E.Ok) {S bs' : List (Blk κ)} (hr : Rel E F φ S w) {l : List Nat} (hl : l.Nodup) (hln : ∀ i ∈ l, i < S.length) (hlb : l.length ≤ bs'.length) (hs : Rel E F' φ' bs' w') (hm : Mv w F (selφ φ l S.length) w' F' φ')
    {ρ : Nat → Option Nat} (hρ0 : ρ = fun j => if j < l.length then l[j]? else some (j - l.length + S.length)) (τ : Blk κ → Blk κ) (hτ : ∀ i b, S[i]? = some b → i ∉ l → OwnB E F' φ w' i b → OwnB E F' (postφ φ φ' l S.length) w' i (τ b)) :
    Rel E F' (postφ φ φ' l S.length) (setEach (S.map τ) l ((bs'.map (Blk.ren ρ)).take l.length) ++ (bs'.map (Blk.ren ρ)).drop l.length) w' ∧ Mv w F φ w' F' (postφ φ φ' l S.length) ∧ (∀ i j, ρ i = some j → postφ φ φ' l S.length j = φ' i) := by
  let n := S.length
  have hρ : ∀ i j, ρ i = some j → postφ φ φ' l n j = φ' i := fun i j h => by
    rw [hρ0] at h
    simp only at h
    by_cases hi : i < l.length
    · rw [if_pos hi] at h
      have hm : j ∈ l := List.mem_of_getElem? h
      have hidx : l.idxOf j = i := by
        have h1 : l[l.idxOf j]? = some j := by
          rw [List.getElem?_eq_getElem (List.idxOf_lt_length_iff.2 hm), List.getElem_idxOf]
        exact (List.getElem?_inj (List.idxOf_lt_length_iff.2 hm) hl).1 (h1.trans h.symm)
      simp only [postφ, List.contains_iff_mem.2 hm, if_true, hidx]
    · rw [if_neg hi] at h
      obtain rfl := Option.some.inj h
      have hnm : l.contains (i - l.length + n) = false := by
        rw [Bool.eq_false_iff]
        intro hc
        have := hln _ (List.contains_iff_mem.1 hc)
        omega
      simp only [postφ, n] at hnm ⊢
      rw [hnm]
      simp only [Bool.false_eq_true, if_false]
      rw [if_neg (by omega)]
      congr 1
      omega
  have hkφ : ∀ i, i ∉ l → i < n → postφ φ φ' l n i = φ i := fun i h h' => by
    have hc : l.contains i = false := by rw [Bool.eq_false_iff]; intro hc; exact h (List.contains_iff_mem.1 hc)
    simp only [postφ, hc, Bool.false_eq_true, if_false, if_pos h']
  have inv : ∀ {i : Nat} {p : Pl}, postφ φ φ' l n i = some p → (∃ j, l[j]? = some i ∧ φ' j = some p ∧ j < l.length) ∨ (i ∉ l ∧ i < n ∧ φ i = some p) ∨ (i ∉ l ∧ n ≤ i ∧ φ' (i - n + l.length) = some p) := fun {i p} h => by
    simp only [postφ] at h
    split at h
    · rename_i hc
      have hm := List.contains_iff_mem.1 hc
      exact .inl ⟨l.idxOf i, by rw [List.getElem?_eq_getElem (List.idxOf_lt_length_iff.2 hm), List.getElem_idxOf], h, List.idxOf_lt_length_iff.2 hm⟩
    · rename_i hc
      have hnm : i ∉ l := fun hm => hc (List.contains_iff_mem.2 hm)
      split at h
      · rename_i hi; exact .inr (.inl ⟨hnm, hi, h⟩)
      · rename_i hi; exact .inr (.inr ⟨hnm, by omega, h⟩)
  have sel : ∀ {j i : Nat}, l[j]? = some i → selφ φ l n j = φ i := fun {j i} h => by
    simp only [selφ, h, Option.bind_some]
    rw [if_pos (hln i (List.mem_of_getElem? h))]
  have apartHeld : ∀ {i : Nat} {p : Pl} {g : Nat}, i ∉ l → φ i = some p → p.g = some g → ¬ Held (selφ φ l n) g := fun {i p g} hi h1 h2 => by
    rintro ⟨j, q, h3, h4⟩
    cases hj : l[j]? with
    | none => simp [selφ, hj] at h3
    | some i' =>
      rw [sel hj] at h3
      have := hr.inj i i' p q g h1 h3 h2 h4
      subst this
      exact hi (List.mem_of_getElem? hj)
  have keepHeap : ∀ {i : Nat} {p : Pl} {g : Nat} {ob : Obj}, i ∉ l → φ i = some p → p.g = some g → w.heap[g]? = some ob → w'.heap[g]? = some ob := fun {i p g ob} hi h1 h2 h3 => by
    rw [hm.keep g (hr.lt i p g h1 h2) (apartHeld hi h1 h2)]; exact h3
  have newNe : ∀ {j : Nat} {q : Pl} {i : Nat} {p : Pl} {g : Nat}, φ' j = some q → q.g = some g → i ∉ l → φ i = some p → p.g = some g → False := fun {j q i p g} h1 h2 hi h3 h4 =>
    apartHeld hi h3 h4 (hm.held g ⟨j, q, h1, h2⟩ (hr.lt i p g h3 h4))
  have idx : ∀ {j i : Nat}, l[j]? = some i → postφ φ φ' l n i = φ' j := fun {j i} h => hρ j i (by
    have hj : j < l.length := (List.getElem?_eq_some_iff.1 h).1
    rw [hρ0]; simp only [if_pos hj]; exact h)
  have blkOk : ∀ (i : Nat) (b : Blk κ), (setEach (S.map τ) l ((bs'.map (Blk.ren ρ)).take l.length) ++ (bs'.map (Blk.ren ρ)).drop l.length)[i]? = some b → OwnB E F' (postφ φ φ' l n) w' i b := by
    intro i b hb
    have hn' : (setEach (S.map τ) l ((bs'.map (Blk.ren ρ)).take l.length)).length = n := by rw [setEach_length]; simp [n]
    by_cases hi : i < n
    · rw [List.getElem?_append_left (by rw [hn']; exact hi)] at hb
      rcases setEach_get _ _ _ _ _ (by simp; omega) hb with ⟨j, h1, h2⟩ | ⟨h1, h2⟩
      · rw [List.getElem?_take] at h2
        split at h2
        · rw [List.getElem?_map] at h2
          obtain ⟨b', hb', rfl⟩ := Option.map_eq_some_iff.1 h2
          exact OwnB.ren hE hρ (idx h1) (hs.blk j b' hb')
        · cases h2
      · rw [List.getElem?_map] at h2
        obtain ⟨b', hb', rfl⟩ := Option.map_eq_some_iff.1 h2
        have h0 := (hr.blk i b' hb').mono hm.le
        refine hτ i b' hb' h1 ?_
        cases b' with
        | dead => exact h0
        | raw t cs =>
          obtain ⟨p, g, cur, h3, h4, h5, h6, h7⟩ := h0
          exact ⟨p, g, cur, h3, h4, keepHeap h1 h3 h4 h5, h6, h7⟩
        | rows kk xs =>
          obtain ⟨p, h3, h4, hh⟩ := h0
          refine ⟨p, h3, h4, ?_⟩
          rcases hh with hh | ⟨g, cur, h5, h6, h7⟩
          · exact .inl hh
          · exact .inr ⟨g, cur, h5, keepHeap h1 h3 h5 h6, h7⟩
        | mp kk xs =>
          obtain ⟨p, g, es, clock, h3, h4, h5, h6⟩ := h0
          exact ⟨p, g, es, clock, h3, h4, keepHeap h1 h3 h4 h5, h6⟩
    · rw [List.getElem?_append_right (by rw [hn']; omega), hn', List.getElem?_drop, List.getElem?_map] at hb
      obtain ⟨b', hb', rfl⟩ := Option.map_eq_some_iff.1 hb
      refine OwnB.ren hE hρ ?_ (hs.blk _ b' hb')
      have := hρ (l.length + (i - n)) i (by rw [hρ0]; simp only; rw [if_neg (by omega)]; congr 1; omega)
      exact this
  refine ⟨⟨hs.frz, blkOk, fun i hi => ?_, fun i j p q g h1 h2 h3 h4 => ?_, fun i p g h1 h2 => ?_, fun i p g h1 h2 => ?_⟩, ?_, hρ⟩
  · have hi : n + (bs'.length - l.length) ≤ i := by simpa [setEach_length, n] using hi
    cases hp : postφ φ φ' l n i with
    | none => rfl
    | some p =>
      rcases inv hp with ⟨j, h1, _, _⟩ | ⟨_, h1, _⟩ | ⟨_, h1, h2⟩
      · have := hln i (List.mem_of_getElem? h1); simp only [n] at hi; omega
      · omega
      · rw [hs.out _ (by omega)] at h2; cases h2
  · rcases inv h1 with ⟨i', a1, a2, a3⟩ | ⟨a1, a2, a3⟩ | ⟨a1, a2, a3⟩
    · rcases inv h2 with ⟨j', b1, b2, b3⟩ | ⟨b1, b2, b3⟩ | ⟨b1, b2, b3⟩
      · have := hs.inj i' j' p q g a2 b2 h3 h4
        subst this
        exact Option.some.inj (a1.symm.trans b1)
      · exact (newNe a2 h3 b1 b3 h4).elim
      · have := hs.inj i' _ p q g a2 b3 h3 h4; omega
    · rcases inv h2 with ⟨j', b1, b2, b3⟩ | ⟨b1, b2, b3⟩ | ⟨b1, b2, b3⟩
      · exact (newNe b2 h4 a1 a3 h3).elim
      · exact hr.inj i j p q g a3 b3 h3 h4
      · exact (newNe b3 h4 a1 a3 h3).elim
    · rcases inv h2 with ⟨j', b1, b2, b3⟩ | ⟨b1, b2, b3⟩ | ⟨b1, b2, b3⟩
      · have := hs.inj _ j' p q g a3 b2 h3 h4; omega
      · exact (newNe a3 h3 b1 b3 h4).elim
      · have := hs.inj _ _ p q g a3 b3 h3 h4; omega
  · rcases inv h1 with ⟨i', a1, a2, a3⟩ | ⟨a1, a2, a3⟩ | ⟨a1, a2, a3⟩
    · exact hs.apart i' p g a2 h2
    · cases hF : F' g with
      | none => rfl
      | some o =>
        rcases hm.new g o hF (hr.apart i p g a3 h2) with h5 | h5
        · have := hr.lt i p g a3 h2; omega
        · exact (apartHeld a1 a3 h2 h5).elim
    · exact hs.apart _ p g a3 h2
  · rcases inv h1 with ⟨i', a1, a2, a3⟩ | ⟨a1, a2, a3⟩ | ⟨a1, a2, a3⟩
    · exact hs.lt i' p g a2 h2
    · have := hr.lt i p g a3 h2; have := hm.size; omega
    · exact hs.lt _ p g a3 h2
  · refine ⟨hm.os, hm.tape, hm.output, hm.size, fun b hb hnh => hm.keep b hb fun ⟨j, q, h1, h2⟩ => hnh ?_, fun b hb hlt => ?_, hm.le, fun b o h1 h2 => ?_⟩
    · cases hj : l[j]? with
      | none => simp [selφ, hj] at h1
      | some i => rw [sel hj] at h1; exact ⟨i, q, h1, h2⟩
    · obtain ⟨i, p, h1, h2⟩ := hb
      have up : Held (selφ φ l n) b → Held φ b := fun ⟨j, q, h3, h4⟩ => by
        cases hj : l[j]? with
        | none => simp [selφ, hj] at h3
        | some i => rw [sel hj] at h3; exact ⟨i, q, h3, h4⟩
      rcases inv h1 with ⟨j, _, h3, _⟩ | ⟨_, _, h3⟩ | ⟨_, _, h3⟩
      · exact up (hm.held b ⟨j, p, h3, h2⟩ hlt)
      · exact ⟨i, p, h3, h2⟩
      · exact up (hm.held b ⟨_, p, h3, h2⟩ hlt)
    · rcases hm.new b o h1 h2 with h3 | ⟨j, q, h3, h4⟩
      · exact .inl h3
      · cases hj : l[j]? with
        | none => simp [selφ, hj] at h3
        | some i => rw [sel hj] at h3; exact .inr ⟨i, q, h3, h4⟩

theorem getsB_len : ∀ {bi : List (BPat κ)} {bs : List (Blk κ)} {y : densB bi}, getsB bi bs = some y → bi.length = bs.length
  | [], bs, y, h => by
    simp only [getsB] at h
    split at h
    · rfl
    · cases h
  | p :: ps, bs, y, h => by
    simp only [getsB] at h
    split at h
    · split at h
      · rename_i _ _ _ hy
        simp [getsB_len hy]
      · cases h
    · cases h

theorem ent_okW (hE : E.Ok) {G : Nat → AV κ} {fid : FuncId} {ins : List (Pat κ)} {bi : List (BPat κ)} {ka : List Nat} {po : List (Pat κ)} {bo : List (BPat κ)} {f : dens ins × densB bi → Option (dens po × densB bo)}
    (henter : ∀ (us : Array Value) (w : World), (callFunc fid us).run P w = .ok (.enter fid us) w) (hlb : bi.length ≤ bo.length) (hka : (ka.all fun t => decide (t < ins.length)) = true) (h : CallW P E G fid ins bi ka po bo f) : EntOk P E G fid (entW ins bi ka po bo f) := by
  intro β args S K r hK
  refine ⟨henter, ?_⟩
  unfold entW at hK
  simp only at hK
  split at hK
  · rename_i hall
    have hln : ∀ i ∈ ids 0 (List.range args.length) ({ env := args, S := S, al := [] } : St κ), i < S.length := fun i hi => by simpa using List.all_eq_true.1 hall i hi
    obtain ⟨x, hx, hK⟩ := Option.bind_eq_some_iff.1 hK
    obtain ⟨y, hy, hK⟩ := Option.bind_eq_some_iff.1 hK
    obtain ⟨q, hq, hK⟩ := Option.bind_eq_some_iff.1 hK
    split at hK
    · rename_i v vs hv
      refine ⟨_, _, _, hK, fun w F φ us hr hg hargs => ?_⟩
      have hnd : (ids 0 (List.range args.length) ({ env := args, S := S, al := [] } : St κ)).Nodup := nub_nodup _
      obtain ⟨h1, h2⟩ := gc_seen hE (s := { env := args, S := S, al := [] }) (m := 0) (live := List.range args.length) (us := us.toList) hr (by rw [range_get]; exact hargs)
      obtain ⟨h3, h4⟩ := ext_seen (sh := ⟨0, List.range args.length, ins, bi⟩) (d := (x, y)) (s := gc 0 (List.range args.length) { env := args, S := S, al := [] }) (by unfold ext; rw [hx, hy]) h1
      have hbl : (ids 0 (List.range args.length) ({ env := args, S := S, al := [] } : St κ)).length = bi.length := by
        have := getsB_len hy
        rw [this]; simp [gc, sels]
      have hGlob : GlobOk E G F := hg
      refine (h (x, y) q hq w F _ us h4 hGlob h3).mono ?_
      rintro e w' ⟨u, F', φ', rfl, h5, h6, h7⟩
      simp only at h5 h6 h7
      have hisz : ins.length = us.size := by
        have := h3.1
        rw [puts_len] at this
        simpa using this
      -- the places behind the call
      have hsel : ∀ {j i : Nat}, (ids 0 (List.range args.length) ({ env := args, S := S, al := [] } : St κ))[j]? = some i → selφ φ (ids 0 (List.range args.length) ({ env := args, S := S, al := [] } : St κ)) S.length j = φ i := fun {j i} hj => by
        simp only [selφ, hj, Option.bind_some]
        rw [if_pos (hln i (List.mem_of_getElem? hj))]
      generalize hl : ids 0 (List.range args.length) ({ env := args, S := S, al := [] } : St κ) = l at *
      have hpos : ∀ {j i : Nat}, l[j]? = some i → postφ φ φ' l S.length i = φ' j := fun {j i} hj => by
        have hm : i ∈ l := List.mem_of_getElem? hj
        have hidx : l.idxOf i = j := by
          have h1 : l[l.idxOf i]? = some i := by
            rw [List.getElem?_eq_getElem (List.idxOf_lt_length_iff.2 hm), List.getElem_idxOf]
          exact (List.getElem?_inj (List.idxOf_lt_length_iff.2 hm) hnd).1 (h1.trans hj.symm)
        simp only [postφ, List.contains_iff_mem.2 hm, if_true, hidx]
      have hout : ∀ {i : Nat}, i ∉ l → (∀ p, φ i = some p → postφ φ φ' l S.length i = some p) := fun {i} hi p hp => by
        have hc : l.contains i = false := by rw [Bool.eq_false_iff]; intro hc; exact hi (List.contains_iff_mem.1 hc)
        have hlt : i < S.length := by
          rcases Nat.lt_or_ge i S.length with hlt | hge
          · exact hlt
          · rw [hr.out i hge] at hp; cases hp
        simp only [postφ, hc, Bool.false_eq_true, if_false, if_pos hlt]
        exact hp
      have hzip : ∀ p ∈ ka.zip ((List.range ka.length).map (· + 1)), ∃ u', us.toList[p.1]? = some u' ∧ (u :: ka.map fun t => us.getD t undef)[p.2]? = some u' := by
        intro p hp
        obtain ⟨j, hj⟩ := List.mem_iff_getElem?.1 hp
        rw [List.getElem?_zip_eq_some] at hj
        obtain ⟨hj1, hj2⟩ := hj
        rw [List.getElem?_map] at hj2
        obtain ⟨j', hj', e⟩ := Option.map_eq_some_iff.1 hj2
        have : j' = j := by
          rw [List.getElem?_eq_some_iff] at hj'
          obtain ⟨_, h⟩ := hj'
          simpa using h.symm
        subst this
        have hlt := List.all_eq_true.1 hka p.1 (List.mem_of_getElem? hj1)
        have hlt : p.1 < us.size := by rw [← hisz]; simpa using hlt
        refine ⟨us[p.1], by simp [hlt], ?_⟩
        rw [← e]
        simp [hj1, hlt]
      have hks := fun j => kept_spec (ins := ins) (po := po) (x := x) (y := q.1) (j := j) h3 h6 hzip
      have hO : ∀ i, kwO (modes ins po ka l) i = true → SameO φ (postφ φ φ' l S.length) i := fun i hi => by
        by_cases hm : i ∈ l
        · obtain ⟨j, hj⟩ := List.mem_iff_getElem?.1 hm
          simp only [kwO, (modes_get hnd).2 j hj] at hi
          have := (hks j).2 (by simpa using hi)
          unfold SameO at this ⊢
          rw [hsel hj] at this
          rw [hpos hj]
          exact this
        · exact ⟨fun p g h1 h2 => ⟨p, hout hm p h1, h2, rfl, rfl⟩, fun p h1 h2 => ⟨p, hout hm p h1, h2⟩⟩
      have hP : ∀ i, kwP (modes ins po ka l) i = true → SameP φ (postφ φ φ' l S.length) i := fun i hi => by
        by_cases hm : i ∈ l
        · obtain ⟨j, hj⟩ := List.mem_iff_getElem?.1 hm
          simp only [kwP, (modes_get hnd).2 j hj] at hi
          have := (hks j).1 (by simpa using hi)
          unfold SameP at this ⊢
          rw [hsel hj] at this
          rw [hpos hj]
          exact this
        · exact fun p g h1 h2 => ⟨p, hout hm p h1, h2⟩
      obtain ⟨k1, k2, k3⟩ := join_relW hE hr hnd hln (by rw [putsB_length, hbl]; exact hlb) h5 h7 rfl (Blk.kw (modes ins po ka l)) (fun i b hb hi ho => ho.kw hO hP hE (by
        have hlt : i < S.length := (List.getElem?_eq_some_iff.1 hb).1
        have hc : l.contains i = false := by rw [Bool.eq_false_iff]; intro hc; exact hi (List.contains_iff_mem.1 hc)
        simp only [postφ, hc, Bool.false_eq_true, if_false, if_pos hlt]))
      refine ⟨u, F', _, rfl, k1, ?_, k2, fun es vs he => ?_⟩
      · have h8 := h6.2 0 v u (by rw [hv]; rfl) rfl
        exact h8.ren k3 hE
      · have he' := he
        cases hmm : modes ins po ka l with
        | nil =>
          have hO' : ∀ i, kwO ([] : List (Nat × Nat)) i = true → SameO φ (postφ φ φ' l S.length) i := by rw [← hmm]; exact hO
          have hP' : ∀ i, kwP ([] : List (Nat × Nat)) i = true → SameP φ (postφ φ φ' l S.length) i := by rw [← hmm]; exact hP
          have hl0 : l = [] := by
            have : (modes ins po ka l).length = 0 := by rw [hmm]; rfl
            simp [modes] at this
            exact this
          refine ⟨he.1, fun j c u hc hu => ((he.2 j c u hc hu).mono k2.le).place fun i p hp => hout (by rw [hl0]; simp) p hp⟩
        | cons m0 m1 =>
          show Reps E F' _ (kwL (m0 :: m1) es) vs
          rw [← hmm]
          refine ⟨by rw [kwL_length]; exact he.1, fun j c u hc hu => ?_⟩
          rw [kwL_get] at hc
          obtain ⟨c', hc', rfl⟩ := Option.map_eq_some_iff.1 hc
          exact ((he.2 j c' u hc' hu).mono k2.le).kw hO hP hE
    · cases hK
  · cases hK
end
end Go.Am
end

section
namespace Go.Am
noncomputable section
open Go.RowKit
variable {κ : Kinds} {E : Encs κ} {F F' : Nat → Option Obj} {φ φ' : Nat → Option Pl} {P : Program} {C : Ctx κ} {a : Act} {w w' : World} {s s' : St κ} {kindOf : TypeId → Option κ.Kc}

mutual
def AV.froz (i : Nat) (k : κ.Kc) (xs : List (κ.ty k)) : AV κ → AV κ
  | .own k' j => if j = i then (if k' = k then .ro k xs else .bot) else .own k' j
  | .sub k' j lo => if j = i then .bot else .sub k' j lo
  | .ptr j o => if j = i then .bot else .ptr j o
  | .ptrE k' j r c => if j = i then .bot else .ptrE k' j r c
  | .optr j => if j = i then .bot else .optr j
  | .mp j => if j = i then .bot else .mp j
  | .agg cs => .agg (frozL i k xs cs)
  | .tup cs => .tup (frozL i k xs cs)
  | .fn f cs => .fn f (frozL i k xs cs)
  | .rop cs => .rop (frozL i k xs cs)
  | v => v
def frozL (i : Nat) (k : κ.Kc) (xs : List (κ.ty k)) : List (AV κ) → List (AV κ)
  | [] => []
  | c :: cs => c.froz i k xs :: frozL i k xs cs
end
theorem frozL_get (i : Nat) (k : κ.Kc) (xs : List (κ.ty k)) : ∀ (cs : List (AV κ)) (j : Nat), (frozL i k xs cs)[j]? = (cs[j]?).map (AV.froz i k xs)
  | [], j => by simp [frozL]
  | c :: cs, 0 => by simp [frozL]
  | c :: cs, j + 1 => by simp [frozL, frozL_get i k xs cs j]
theorem frozL_length (i : Nat) (k : κ.Kc) (xs : List (κ.ty k)) : ∀ (cs : List (AV κ)), (frozL i k xs cs).length = cs.length
  | [] => rfl
  | c :: cs => by simp [frozL, frozL_length i k xs cs]
theorem froz_flat (i : Nat) (k : κ.Kc) (xs : List (κ.ty k)) {c : AV κ} (h : c.flat = true) : c.froz i k xs = c := by
  cases c <;> simp [AV.flat] at h <;> simp [AV.froz]
theorem frozL_flat (i : Nat) (k : κ.Kc) (xs : List (κ.ty k)) : ∀ {cs : List (AV κ)}, (∀ c ∈ cs, c.flat = true) → frozL i k xs cs = cs
  | [], _ => rfl
  | c :: cs, h => by rw [frozL, froz_flat i k xs (h c List.mem_cons_self), frozL_flat i k xs fun c hc => h c (List.mem_cons_of_mem _ hc)]
theorem Rep.froz {i : Nat} {k : κ.Kc} {xs : List (κ.ty k)} (hφ : ∀ j, j ≠ i → φ' j = φ j) (hF : Le F F') (hro : ∀ u, Rep E F φ (.own k i) u → Rep E F' φ' (.ro k xs) u) (hE : E.Ok) {v : AV κ} {u : Value} (h : Rep E F φ v u) : Rep E F' φ' (v.froz i k xs) u := by
  induction h with
  | bot u => exact .bot u
  | val v => exact .val v
  | agg cs us hl _ ih =>
    refine .agg _ us (by rw [frozL_length]; exact hl) fun j c u hc hu => ?_
    rw [frozL_get] at hc
    obtain ⟨c', hc', rfl⟩ := Option.map_eq_some_iff.1 hc
    exact ih j c' u hc' hu
  | tup cs us hl _ ih =>
    refine .tup _ us (by rw [frozL_length]; exact hl) fun j c u hc hu => ?_
    rw [frozL_get] at hc
    obtain ⟨c', hc', rfl⟩ := Option.map_eq_some_iff.1 hc
    exact ih j c' u hc' hu
  | ro k' ys b off cap us hcap hc _ ih =>
    refine .ro k' ys b off cap us hcap (fun r j h1 h2 => FCell.mono hF (hc r j h1 h2)) fun r x j c hx hj => ?_
    have := ih r x j c hx hj
    rwa [froz_flat i k xs (hE.flat k' x c (List.mem_of_getElem? hj))] at this
  | roNil k => exact .roNil k
  | roEmp k a cap => exact .roEmp k a cap
  | rop cs b off us hc _ ih =>
    refine .rop _ b off us (fun j hj => FCell.mono hF (hc j (by rwa [frozL_length] at hj))) fun j c hj => ?_
    rw [frozL_get] at hj
    obtain ⟨c', hc', rfl⟩ := Option.map_eq_some_iff.1 hj
    exact ih j c' hc'
  | arr k' ys u _ ih =>
    refine .arr k' ys u ?_
    have : AV.froz i k xs (.agg (ys.flatMap (E.enc k'))) = .agg (ys.flatMap (E.enc k')) := by rw [AV.froz, frozL_flat i k xs (flats hE)]
    rwa [this] at ih
  | tab k' ys b hx _ ih =>
    refine .tab k' ys b (by obtain ⟨c, ty, fr, h1, h2⟩ := hx; exact ⟨c, ty, fr, hF _ _ h1, h2⟩) ?_
    have : AV.froz i k xs (.rop (ys.flatMap (E.enc k'))) = .rop (ys.flatMap (E.enc k')) := by rw [AV.froz, frozL_flat i k xs (flats hE)]
    rwa [this] at ih
  | own k' j p g h hg =>
    unfold AV.froz
    split
    · rename_i hj
      subst hj
      split
      · rename_i hk
        subst hk
        exact hro _ (.own k' j p g h hg)
      · exact .bot _
    · rename_i hne; exact .own k' j p g (by rw [hφ j hne]; exact h) hg
  | ownNil k' j p h hg =>
    unfold AV.froz
    split
    · rename_i hj
      subst hj
      split
      · rename_i hk
        subst hk
        exact hro _ (.ownNil k' j p h hg)
      · exact .bot _
    · rename_i hne; exact .ownNil k' j p (by rw [hφ j hne]; exact h) hg
  | sub k' j lo p ad cap h h0 hl ha =>
    unfold AV.froz
    split
    · exact .bot _
    · rename_i hne; exact .sub k' j lo p ad cap (by rw [hφ j hne]; exact h) h0 hl ha
  | ptr j off p g h hg =>
    unfold AV.froz
    split
    · exact .bot _
    · rename_i hne; exact .ptr j off p g (by rw [hφ j hne]; exact h) hg
  | ptrE k' j row col p g h hg hr =>
    unfold AV.froz
    split
    · exact .bot _
    · rename_i hne; exact .ptrE k' j row col p g (by rw [hφ j hne]; exact h) hg hr
  | optrN j =>
    unfold AV.froz
    split
    · exact .bot _
    · exact .optrN j
  | optr j p g h hg =>
    unfold AV.froz
    split
    · exact .bot _
    · rename_i hne; exact .optr j p g (by rw [hφ j hne]; exact h) hg
  | mp j p g h hg =>
    unfold AV.froz
    split
    · exact .bot _
    · rename_i hne; exact .mp j p g (by rw [hφ j hne]; exact h) hg
  | fn f cs us hl _ ih =>
    refine .fn f _ us (by rw [frozL_length]; exact hl) fun j c u hc hu => ?_
    rw [frozL_get] at hc
    obtain ⟨c', hc', rfl⟩ := Option.map_eq_some_iff.1 hc
    exact ih j c' u hc' hu

theorem froz_one (hE : C.E.Ok) (hg : Good C.E C.glob a w s F φ) {i : Nat} {k : κ.Kc} {xs : List (κ.ty k)} (hS : s.S[i]? = some (.rows k xs)) :
    ∃ F' φ', Good C.E C.glob a w (s.turn i .dead) F' φ' ∧ Mv w F φ w F' φ' ∧ Le F F' ∧ (∀ j, j ≠ i → φ' j = φ j) ∧ ∀ u, Rep C.E F φ (.own k i) u → Rep C.E F' φ' (.ro k xs) u := by
  obtain ⟨p, h1, h4, hh⟩ := hg.rel.blk i _ hS
  rcases hh with ⟨hpg, hx⟩ | ⟨g, cur, hpg, h5, h6, h7, h8, h9⟩
  · have := turn_good hE hg hS (w' := w) (row := none) ⟨rfl, rfl, rfl, Nat.le_refl _, fun _ _ _ => rfl⟩ (fun k h => by cases h) none (b' := .dead) (F' := F) (fun p g h => by cases h) (Le.refl F) hg.rel.frz (fun j q g' h3 h4 => by
      by_cases hj : j = i
      · subst hj; rw [at_self] at h3; cases h3
      · rw [at_ne _ _ hj] at h3; exact hg.rel.apart j q g' h3 h4) (fun x o' h1 h2 => by rw [h2] at h1; cases h1) (at_self _ _ _)
    refine ⟨F, _, this.1, this.2, Le.refl F, fun j hj => at_ne _ _ hj, fun u hu => ?_⟩
    subst hx
    cases hu with
    | own _ _ p' g hp hpg' =>
      obtain rfl := Option.some.inj (h1.symm.trans hp)
      rw [hpg] at hpg'; cases hpg'
    | ownNil _ _ _ _ _ => exact .roNil k
  · have hle : Le F (fun x => if x = g then some (.cells cur (κ.elem k) (0, 0)) else F x) := fun x o' hx => by
      have hne : x ≠ g := fun e => by subst e; rw [hg.rel.apart i p x h1 hpg] at hx; cases hx
      show (if x = g then _ else F x) = some o'
      rw [if_neg hne]; exact hx
    have := turn_good hE hg hS (w' := w) (row := none) ⟨rfl, rfl, rfl, Nat.le_refl _, fun _ _ _ => rfl⟩ (fun k h => by cases h) none (b' := .dead) (F' := fun x => if x = g then some (.cells cur (κ.elem k) (0, 0)) else F x) (fun p g h => by cases h) hle (fun x o' hx => by
        split at hx
        · rename_i e
          subst e
          obtain rfl := Option.some.inj hx
          exact h5
        · exact hg.rel.frz x o' hx) (fun j q g' h3 h4 => by
        by_cases hj : j = i
        · subst hj; rw [at_self] at h3; cases h3
        · rw [at_ne _ _ hj] at h3
          have hne : g' ≠ g := fun e => by subst e; exact hj (hg.rel.inj j i q p g' h3 h1 h4 hpg)
          show (if g' = g then _ else F g') = none
          rw [if_neg hne]
          exact hg.rel.apart j q g' h3 h4) (fun x o' h3 h4 => by
        split at h3
        · rename_i e
          subst e
          exact .inr ⟨i, p, h1, hpg⟩
        · rw [h4] at h3; cases h3) (at_self _ _ _)
    refine ⟨_, _, this.1, this.2, hle, fun j hj => at_ne _ _ hj, fun u hu => ?_⟩
    cases hu with
    | ownNil _ _ p' hp hpg' =>
      obtain rfl := Option.some.inj (h1.symm.trans hp)
      rw [hpg] at hpg'; cases hpg'
    | own _ _ p' g' hp hpg' =>
      obtain rfl := Option.some.inj (h1.symm.trans hp)
      obtain rfl := Option.some.inj (hpg.symm.trans hpg')
      rw [h4]
      refine .ro k xs g 0 p.cap (fun r j => cur.getD (r * κ.sz k + j) undef) h7 (fun r j hr hj => ?_) (fun r x j c hx hc => ?_)
      · have h10 : (r + 1) * κ.sz k ≤ p.cap * κ.sz k := Nat.mul_le_mul_right _ (by omega)
        rw [Nat.add_mul, Nat.one_mul] at h10
        have : r * κ.sz k + j < cur.size := by omega
        simp [FCell, this]
      · have hj : j < κ.sz k := by rw [← hE.len k x]; exact (List.getElem?_eq_some_iff.1 hc).1
        have hrl : r < xs.length := (List.getElem?_eq_some_iff.1 hx).1
        have h10 : (r + 1) * κ.sz k ≤ p.cap * κ.sz k := Nat.mul_le_mul_right _ (by omega)
        rw [Nat.add_mul, Nat.one_mul] at h10
        have hlt : r * κ.sz k + j < cur.size := by omega
        have := h9 r x j c _ hx hc (show cur[r * κ.sz k + j]? = some (cur.getD (r * κ.sz k + j) undef) by simp [hlt])
        exact ((this.flat hE (hE.flat k x c (List.mem_of_getElem? hc))).1).mono hle

/-- All slices of its own that a value names are frozen. -/
def shutAll {β : Type} : List Nat → AV κ → St κ → (AV κ → St κ → Option β) → Option β
  | [], v, s, K => K v s
  | i :: l, v, s, K => match s.S[i]? with
    | some (.rows k xs) => shutAll l (v.froz i k xs) (s.turn i .dead) K
    | _ => none
theorem shutAll_sound {β : Type} (hE : C.E.Ok) {r : β} : ∀ {l : List Nat} {v : AV κ} {s : St κ} {K : AV κ → St κ → Option β}, shutAll l v s K = some r → ∃ v' s', K v' s' = some r ∧
    ∀ (a : Act) (w : World) (F : Nat → Option Obj) (φ : Nat → Option Pl) (u : Value), Good C.E C.glob a w s F φ → Rep C.E F φ v u → ∃ F' φ', Good C.E C.glob a w s' F' φ' ∧ Rep C.E F' φ' v' u ∧ Mv w F φ w F' φ'
  | [], v, s, K, h => ⟨v, s, h, fun a w F φ u hg hr => ⟨F, φ, hg, hr, Mv.refl _ _ _⟩⟩
  | i :: l, v, s, K, h => by
    unfold shutAll at h
    split at h
    · rename_i k xs hS
      obtain ⟨v', s', h1, h2⟩ := shutAll_sound hE h
      refine ⟨v', s', h1, fun a w F φ u hg hr => ?_⟩
      obtain ⟨F1, φ1, k1, k2, k3, k4, k5⟩ := froz_one hE hg hS
      obtain ⟨F2, φ2, m1, m2, m3⟩ := h2 a w F1 φ1 u k1 (hr.froz k4 k3 k5 hE)
      exact ⟨F2, φ2, m1, m2, k2.trans m3⟩
    · cases h

def KfnZ (C : Ctx κ) (rs : List ResultVar) (p : Pat κ) (bs : List (BPat κ)) : Ex → St κ → Option (p.den × densB bs)
  | .exit _, _ => none
  | _, s => match resL C s rs with
    | some vs => shutAll (nub (resV vs).refs) (resV vs) s fun v s' => let t := gc 0 [0] { env := [v], S := s'.S, al := [] }
      match gets [p] t.env, getsB bs t.S with
      | some x, some y => some (x.1, y)
      | _, _ => none
    | none => none

theorem fn_okZ (hC : C.Ok) {fid : FuncId} {fn : Func} {c : Code} {n : Note} {ins : List (Pat κ)} {p : Pat κ} {bs : List (BPat κ)} {f : dens ins → Option (p.den × densB bs)}
    (hfn : C.P.funcs[fid]? = some fn) (hb : fn.body = some c) (hfit : Fits C c n)
    (hf : ∀ d, f d = exec C kindOf c n { env := puts ins d ++ List.replicate (fn.ntmps - ins.length) .bot, S := [], al := [] } (KfnZ C fn.results.toList p bs)) : CallV C.P C.E C.glob fid ins p bs f := by
  intro d r hd w F us hrel hglob hargs
  rw [hf] at hd
  obtain ⟨x, s', h1, h2⟩ := exec_sound hC hfit hd
  have pl : (puts ins d).length = ins.length := puts_len ins d
  have hsz : us.size = ins.length := by rw [← pl, hargs.1]; simp
  have hgood : Good C.E C.glob { tmps := us ++ Array.replicate (fn.ntmps - us.size) undef, defers := [] } w { env := puts ins d ++ List.replicate (fn.ntmps - ins.length) .bot, S := [], al := [] } F noPl := by
    refine ⟨hrel, fun t v hv => ?_, by simp [pl, hsz], rfl, fun q hq => by simp at hq, hglob⟩
    simp only at hv ⊢
    by_cases ht : t < ins.length
    · rw [List.getElem?_append_left (by rw [pl]; exact ht)] at hv
      have hlt : t < us.size := by omega
      have : (us ++ Array.replicate (fn.ntmps - us.size) undef).getD t undef = us[t] := by
        simp [Array.getD_eq_getD_getElem?, Array.getElem?_append_left hlt, hlt]
      rw [this]
      exact hargs.2 t v _ hv (by simp [hlt])
    · rw [List.getElem?_append_right (by rw [pl]; omega), List.getElem?_replicate] at hv
      split at hv
      · obtain rfl := Option.some.inj hv; exact .bot _
      · cases hv
  have hpost : ∀ (a' : Act) (w' : World) (F' : Nat → Option Obj) (φ' : Nat → Option Pl), Good C.E C.glob a' w' s' F' φ' → Mv w F noPl w' F' φ' → (∀ i, x ≠ .exit i) → a'.defers = [] ∧ ∃ v, (results fn a'.tmps).run C.P w' = .ok v w' ∧
      ∃ u F' φ', Ending.returned v = .returned u ∧ Rel C.E F' φ' (putsB bs r.2) w' ∧ Rep C.E F' φ' (p.put r.1) u ∧ Mv w F noPl w' F' φ' := by
    intro a' w' F' φ' k1 k2 hx
    have hk : (match resL C s' fn.results.toList with
      | some vs => shutAll (nub (resV vs).refs) (resV vs) s' fun v s' => let t := gc 0 [0] { env := [v], S := s'.S, al := [] }
        match gets [p] t.env, getsB bs t.S with
        | some x, some y => some (x.1, y)
        | _, _ => none
      | none => none) = some r := by
      cases x with
      | exit i => exact absurd rfl (hx i)
      | normal => exact h1
      | ret => exact h1
    split at hk
    · rename_i vs hvs
      obtain ⟨u, h3, h4⟩ := results_sound hC.enc k1 hvs
      obtain ⟨v', s2, hk, hsh⟩ := shutAll_sound hC.enc hk
      obtain ⟨F2, φ2, g1, g2, g3⟩ := hsh a' w' F' φ' u k1 h3
      simp only at hk
      obtain ⟨h5, h6⟩ := gc_seen hC.enc (s := { env := [v'], S := s2.S, al := [] }) (m := 0) (live := [0]) (us := [u]) g1.rel (Reps.cons (by simpa [St.get] using g2) Reps.nil)
      split at hk
      · rename_i x y hx' hy'
        obtain rfl := Option.some.inj hk
        obtain ⟨h7, h8⟩ := ext_seen (sh := ⟨0, [0], [p], bs⟩) (d := (x, y)) (by unfold ext; rw [hx', hy']) h5
        obtain ⟨u', us', h9, h10, _⟩ := (show Reps C.E F2 _ (p.put x.1 :: puts [] x.2) [u] from h7).cons_inv
        obtain ⟨rfl, _⟩ := List.cons.inj h9
        exact ⟨k1.defers, u, h4, u, F2, _, rfl, h8, h10, k2.trans (g3.trans h6)⟩
      · cases hk
    · cases hk
  refine calls_of_wp hfn hb (h2 _ w F noPl hgood _ fun a' w' F' φ' k1 k2 _ => ?_)
  cases x with
  | exit i => exact absurd h1 (by simp [KfnZ])
  | normal => exact hpost a' w' F' φ' k1 k2 (fun i h => by cases h)
  | ret => exact hpost a' w' F' φ' k1 k2 (fun i h => by cases h)
end
end Go.Am
end

section
namespace Go.Am
noncomputable section
open Go.RowKit
variable {κ : Kinds} {E : Encs κ} {F F' : Nat → Option Obj} {φ φ' : Nat → Option Pl} {P : Program} {C : Ctx κ} {a : Act} {w w' : World} {s s' : St κ} {o : Oper} {kindOf : TypeId → Option κ.Kc}

/-- One operation that yields its value in every world in which what is frozen stands. -/
def stepF {β : Type} (C : Ctx κ) (o : Oper) (s : St κ) (K : AV κ → St κ → Option β) : Option β :=
  match o.op with
  | .pick c a b => match ev C s c with
    | .val (.bool x) => match c with
      | .tmp t => if x = true then K (ev C (s.refine t true) a) (s.refine t true) else K (ev C (s.refine t false) b) (s.refine t false)
      | _ => if x = true then K (ev C s a) s else K (ev C s b) s
    | _ => none
  | _ => if ownLoad C o s = false then quiet? C o s fun v => K v s else none

def StepFOk (C : Ctx κ) (o : Oper) (s : St κ) (v : AV κ) (s' : St κ) : Prop :=
  ∀ (a : Act) (w : World) (F : Nat → Option Obj) (φ : Nat → Option Pl), Good C.E C.glob a w s F φ → ∃ u, Rep C.E F φ v u ∧ Good C.E C.glob a w s' F φ ∧ (∀ t, o.op = .move (.tmp t) → u = a.tmps.getD t undef) ∧ ∀ w', Fr F w' → (execOp a.eval o).run C.P w' = .ok (.value u) w'

theorem stepF_sound {β : Type} (hC : C.Ok) {K : AV κ → St κ → Option β} {r : β} (h : stepF C o s K = some r) : ∃ v s', K v s' = some r ∧ StepFOk C o s v s' := by
  unfold stepF at h
  split at h
  · rename_i c x y ho
    have hnm : ∀ z, o.op ≠ .move z := fun z hz => by rw [ho] at hz; cases hz
    split at h
    · rename_i b hc
      split at h
      · rename_i t
        have hbool : ∀ {a : Act} {w : World} {F : Nat → Option Obj} {φ : Nat → Option Pl}, Good C.E C.glob a w s F φ → a.tmps.getD t undef = .bool b := fun hg => val_inv (hc ▸ ev_rep hg (.tmp t))
        split at h
        · rename_i hb
          subst hb
          refine ⟨_, _, h, fun a w F φ hg => ?_⟩
          have h1 := refine_good hg (hbool hg)
          exact ⟨a.eval x, ev_rep h1 x, h1, fun t ht => absurd ht (hnm _), fun w' _ => by have := pick_run (P := C.P) (w := w') ho (hbool hg); simpa using this⟩
        · rename_i hb
          have hb' : b = false := by simpa using hb
          subst hb'
          refine ⟨_, _, h, fun a w F φ hg => ?_⟩
          have h1 := refine_good hg (hbool hg)
          exact ⟨a.eval y, ev_rep h1 y, h1, fun t ht => absurd ht (hnm _), fun w' _ => by have := pick_run (P := C.P) (w := w') ho (hbool hg); simpa using this⟩
      · have hbool : ∀ {a : Act} {w : World} {F : Nat → Option Obj} {φ : Nat → Option Pl}, Good C.E C.glob a w s F φ → a.eval c = .bool b := fun hg => val_inv (hc ▸ ev_rep hg c)
        split at h
        · rename_i hb
          subst hb
          exact ⟨_, _, h, fun a w F φ hg => ⟨a.eval x, ev_rep hg x, hg, fun t ht => absurd ht (hnm _), fun w' _ => by have := pick_run (P := C.P) (w := w') ho (hbool hg); simpa using this⟩⟩
        · rename_i hb
          have hb' : b = false := by simpa using hb
          subst hb'
          exact ⟨_, _, h, fun a w F φ hg => ⟨a.eval y, ev_rep hg y, hg, fun t ht => absurd ht (hnm _), fun w' _ => by have := pick_run (P := C.P) (w := w') ho (hbool hg); simpa using this⟩⟩
    · cases h
  · split at h
    · rename_i hol
      obtain ⟨v, h1, h2⟩ := quiet_sound hC.enc h
      refine ⟨v, s, h1, fun a w F φ hg => ?_⟩
      obtain ⟨u, k1, k2, _, k4⟩ := h2 a w F φ hg
      exact ⟨u, k1, hg, k2, k4 hol⟩
    · cases h

mutual
inductive Sched where
  | done
  | take (i : Nat) (t : Sched)
  | all (l : Scheds)
inductive Scheds where
  | nil
  | cons (i : Nat) (t : Sched) (l : Scheds)
end
def holds : Option Prop → Prop
  | some p => p
  | none => False
def guardP (ops : Array Oper) (o : Oper) (s : St κ) (yes no : St κ → Prop) : Prop := match o.guard with
  | none => yes s
  | some (j, want) => match (ops[j]?).bind (·.dst) with
    | none => False
    | some t => match s.get t with
      | .val (.bool c) => if c = want then yes (s.refine t want) else no (s.refine t (!want))
      | .val (.tuple _) => no s
      | _ => False
mutual
/-- However the operations come, what is asked holds in the end. -/
def runs (C : Ctx κ) (kindOf : TypeId → Option κ.Kc) (ops : Array Oper) : Sched → St κ → (St κ → Prop) → Prop
  | .done, s, Q => Q s
  | .take i t, s, Q => match ops[i]? with
    | some o => guardP ops o s (fun s1 => holds (stepF C o s1 fun v s' => some (runs C kindOf ops t (s'.put o v) Q))) (fun s1 => runs C kindOf ops t (s1.put o (.val undef)) Q)
    | none => False
  | .all l, s, Q => runsL C kindOf ops l s Q
def runsL (C : Ctx κ) (kindOf : TypeId → Option κ.Kc) (ops : Array Oper) : Scheds → St κ → (St κ → Prop) → Prop
  | .nil, _, _ => True
  | .cons i t l, s, Q => (match ops[i]? with
    | some o => guardP ops o s (fun s1 => holds (step C kindOf o s1 fun v s' => some (runs C kindOf ops t (s'.put o v) Q))) (fun s1 => runs C kindOf ops t (s1.put o (.val undef)) Q)
    | none => False) ∧ runsL C kindOf ops l s Q
end
def Scheds.idx : Scheds → List Nat
  | .nil => []
  | .cons i _ l => i :: l.idx
mutual
def validT (ops : Array Oper) : Sched → Array Bool → Nat → Bool
  | .done, listed, _ => (Region.ready .any ops listed).isEmpty
  | .take i t, listed, n => match n with
    | 0 => false
    | n + 1 => (Region.ready .any ops listed).contains i && Region.free .any ops listed i && validT ops t (listed.setIfInBounds i true) n
  | .all l, listed, n => match n with
    | 0 => false
    | n + 1 => decide (Region.ready .any ops listed = l.idx) && !l.idx.isEmpty && validL ops l listed n
def validL (ops : Array Oper) : Scheds → Array Bool → Nat → Bool
  | .nil, _, _ => true
  | .cons i t l, listed, n => validT ops t (listed.setIfInBounds i true) n && validL ops l listed n
end

theorem guardP_sound {ops : Array Oper} {yes no : St κ → Prop} (h : guardP ops o s yes no) (hg : Good C.E C.glob a w s F φ) :
    (Region.wanted o (yielded ops a.tmps) = true ∧ ∃ s1, yes s1 ∧ Good C.E C.glob a w s1 F φ) ∨ (Region.wanted o (yielded ops a.tmps) = false ∧ ∃ s1, no s1 ∧ Good C.E C.glob a w s1 F φ) := by
  unfold guardP at h
  split at h
  · rename_i hgd
    exact .inl ⟨by simp [Region.wanted, hgd], s, h, hg⟩
  · rename_i j want hgd
    split at h
    · exact h.elim
    · rename_i t ht
      split at h
      · rename_i c hc
        have hy : Region.wanted o (yielded ops a.tmps) = (c == want) := by simp [Region.wanted, hgd, yielded, ht, (get_bool hg hc).1]
        split at h
        · rename_i hcw
          subst hcw
          exact .inl ⟨by rw [hy]; simp, _, h, refine_good hg (get_bool hg hc).2⟩
        · rename_i hcw
          have hcb : c = !want := by cases c <;> cases want <;> simp_all
          exact .inr ⟨by rw [hy]; simpa using hcw, _, h, refine_good hg (by rw [← hcb]; exact (get_bool hg hc).2)⟩
      · rename_i us hc
        exact .inr ⟨wanted_tup hg hgd ht hc, s, h, hg⟩
      · exact h.elim

theorem held_weak {ops : Array Oper} {md : Region.Mode} {Q : Exit → Act → World → Prop} {S S' : World → Prop} (hS : ∀ w, S' w → S w) : ∀ (n : Nat) (listed : Array Bool) (a : Act) (w : World), wpAnyH P md ops Q S' n listed a w → wpAnyH P md ops Q S n listed a w
  | 0, _, _, _, h => h
  | n + 1, _, _, _, h => ⟨h.1, fun i hi => wpOp_mono (fun a' w' h' => ⟨hS _ h'.1, held_weak hS n _ a' w' h'.2⟩) (h.2 i hi)⟩
theorem keep_all {ops : Array Oper} {a : Act} {i : Nat} {u : Value} (hi : ops[i]? = some o) : KeepT (dsts ops.toList) a (a.put o.dst u) := fun t ht => by
  unfold Act.put
  cases hd : o.dst with
  | none => rfl
  | some d =>
    have : d ≠ t := fun e => ht (by unfold dsts; rw [List.mem_filterMap]; exact ⟨o, by rw [Array.mem_toList_iff]; exact Array.mem_of_getElem? hi, by rw [hd, e]⟩)
    simp [Array.getD_eq_getD_getElem?, Array.getElem?_setIfInBounds, this]
theorem put_undef' {o : Oper} (hg : Good C.E C.glob a w s F φ) : Good C.E C.glob (a.put o.dst undef) w (s.put o (.val undef)) F φ := put_undef hg

mutual
theorem runs_sound (hC : C.Ok) {ops : Array Oper} (hs : Region.noSelect ops = true) {Qx : Exit → Act → World → Prop} (hQp : ∀ c a w, ¬ Qx (.panic c) a w) :
    ∀ (t : Sched) (n : Nat) (listed : Array Bool) (s : St κ) (Q : St κ → Prop) (a : Act) (w : World) (F : Nat → Option Obj) (φ : Nat → Option Pl), runs C kindOf ops t s Q → validT ops t listed n = true → Good C.E C.glob a w s F φ →
      (∀ a' w' F' φ' s', Q s' → Good C.E C.glob a' w' s' F' φ' → Mv w F φ w' F' φ' → KeepT (dsts ops.toList) a a' → Qx .normal a' w') → wpAnyH C.P .any ops Qx (Fr F) n listed a w
  | .done, n, listed, s, Q, a, w, F, φ, h, hv, hg, hQ => by
    have hr : Region.ready .any ops listed = [] := by simpa [validT] using hv
    exact wpAnyH_done hr (hQ a w F φ s h hg (Mv.refl _ _ _) (KeepT.refl _ _)) n
  | .take i t, 0, listed, s, Q, a, w, F, φ, h, hv, hg, hQ => by simp [validT] at hv
  | .take i t, n + 1, listed, s, Q, a, w, F, φ, h, hv, hg, hQ => by
    simp only [validT, Bool.and_eq_true] at hv
    obtain ⟨⟨hv1, hv2⟩, hv3⟩ := hv
    simp only [runs] at h
    split at h
    · rename_i o hi
      rcases guardP_sound h hg with ⟨hw, s1, h1, hg1⟩ | ⟨hw, s1, h1, hg1⟩
      · cases hst : (stepF C o s1 fun v s' => some (runs C kindOf ops t (s'.put o v) Q)) with
        | none => rw [hst] at h1; exact h1.elim
        | some p =>
          rw [hst] at h1
          obtain ⟨v, s2, hK, hok⟩ := stepF_sound hC hst
          have hp : runs C kindOf ops t (s2.put o v) Q := by
            have := Option.some.inj hK
            rw [this]; exact h1
          obtain ⟨u, k1, k2, k3, k4⟩ := hok a w F φ hg1
          refine wpAnyH_take (v := u) hi hs hv2 hv1 (fun c a w hq => (hQp _ _ _ hq).elim) (.inl ⟨hw, k4⟩) hg.rel.frz ?_
          exact runs_sound hC hs hQp t n _ _ Q _ w F φ hp hv3 (put_good k2 k1 k3) fun a' w' F' φ' s' m1 m2 m3 m4 => hQ a' w' F' φ' s' m1 m2 m3 ((keep_all hi).trans m4)
      · refine wpAnyH_take (v := undef) hi hs hv2 hv1 (fun c a w hq => (hQp _ _ _ hq).elim) (.inr ⟨hw, rfl⟩) hg.rel.frz ?_
        exact runs_sound hC hs hQp t n _ _ Q _ w F φ h1 hv3 (put_undef hg1) fun a' w' F' φ' s' m1 m2 m3 m4 => hQ a' w' F' φ' s' m1 m2 m3 ((keep_all hi).trans m4)
    · exact h.elim
  | .all l, 0, listed, s, Q, a, w, F, φ, h, hv, hg, hQ => by simp [validT] at hv
  | .all l, n + 1, listed, s, Q, a, w, F, φ, h, hv, hg, hQ => by
    simp only [validT, Bool.and_eq_true, decide_eq_true_eq] at hv
    obtain ⟨⟨hv1, hv2⟩, hv3⟩ := hv
    refine wpAnyH_all hv1 (fun e => by rw [e] at hv2; simp at hv2) ?_
    simp only [runs] at h
    exact runsL_sound hC hs hQp l n listed s Q a w F φ h hv3 hg hQ
theorem runsL_sound (hC : C.Ok) {ops : Array Oper} (hs : Region.noSelect ops = true) {Qx : Exit → Act → World → Prop} (hQp : ∀ c a w, ¬ Qx (.panic c) a w) :
    ∀ (l : Scheds) (n : Nat) (listed : Array Bool) (s : St κ) (Q : St κ → Prop) (a : Act) (w : World) (F : Nat → Option Obj) (φ : Nat → Option Pl), runsL C kindOf ops l s Q → validL ops l listed n = true → Good C.E C.glob a w s F φ →
      (∀ a' w' F' φ' s', Q s' → Good C.E C.glob a' w' s' F' φ' → Mv w F φ w' F' φ' → KeepT (dsts ops.toList) a a' → Qx .normal a' w') →
      ∀ i ∈ l.idx, wpOp C.P ops Qx i (fun a' w' => Fr F w' ∧ wpAnyH C.P .any ops Qx (Fr F) n (listed.setIfInBounds i true) a' w') a w
  | .nil, n, listed, s, Q, a, w, F, φ, h, hv, hg, hQ => fun i hi => by cases hi
  | .cons i t l, n, listed, s, Q, a, w, F, φ, h, hv, hg, hQ => by
    simp only [validL, Bool.and_eq_true] at hv
    simp only [runsL] at h
    intro j hj
    rcases List.mem_cons.1 (show j ∈ i :: l.idx from hj) with rfl | hj
    · have h := h.1
      split at h
      · rename_i o hi
        unfold wpOp
        simp only [hi]
        rcases guardP_sound h hg with ⟨hw, s1, h1, hg1⟩ | ⟨hw, s1, h1, hg1⟩
        · rw [if_pos hw]
          left
          cases hst : (step C kindOf o s1 fun v s' => some (runs C kindOf ops t (s'.put o v) Q)) with
          | none => rw [hst] at h1; exact h1.elim
          | some p =>
            rw [hst] at h1
            obtain ⟨v, s2, hK, hok⟩ := step_sound hC hst
            have hp : runs C kindOf ops t (s2.put o v) Q := by
              have := Option.some.inj hK
              rw [this]; exact h1
            refine hok a w F φ hg1 _ _ fun u w1 F1 φ1 k1 k2 k3 k4 => ?_
            have g2 := put_good k1 k2 k4
            refine ⟨fun b o hb => k1.rel.frz b o (k3.le b o hb), ?_⟩
            refine held_weak (S' := Fr F1) (fun w hw b o hb => hw b o (k3.le b o hb)) n _ _ _ ?_
            exact runs_sound hC hs hQp t n _ _ Q _ w1 F1 φ1 hp hv.1 g2 fun a' w' F' φ' s' m1 m2 m3 m4 => hQ a' w' F' φ' s' m1 m2 (k3.trans m3) ((keep_all hi).trans m4)
        · rw [if_neg (by rw [hw]; simp)]
          refine ⟨hg.rel.frz, ?_⟩
          exact runs_sound hC hs hQp t n _ _ Q _ w F φ h1 hv.1 (put_undef hg1) fun a' w' F' φ' s' m1 m2 m3 m4 => hQ a' w' F' φ' s' m1 m2 m3 ((keep_all hi).trans m4)
      · exact h.elim
    · exact runsL_sound hC hs hQp l n listed s Q a w F φ h.2 hv.2 hg hQ j hj
end

theorem tree_ok (hC : C.Ok) {rid : Nat} {ops : Array Oper} {N : Nat} {wr : List Nat} {ins : Sh κ} {outs : List (Ex × Sh κ)} {L : ins.den → Option (OutT outs)} {tr : Sched} (hwr : ((writes (.region rid ops true)).all fun t => wr.contains t) = true) (hrw : (wr.all fun t => (writes (.region rid ops true)).contains t) = true)
    (hs : Region.noSelect ops = true) (hv : validT ops tr (Array.replicate ops.size false) ops.size = true) (hL : ∀ d o, L d = some o → runs C kindOf ops tr (can N ins d) (fun s' => Kout N outs .normal s' = some o)) : LamOk C (lamK N wr ins outs L) (.region rid ops true) :=
  lamK_sound hC.enc hwr hrw fun d o ho => by
    intro a w F φ hN hsh Q hQ
    refine Code.wp_mono (Q := fun x a' w' => x = .normal ∧ Q .normal a' w') (fun x a' w' h => by obtain ⟨rfl, h⟩ := h; exact h) ?_
    have hgw : Grow w { w with drawn := w.drawn + 1 } := ⟨rfl, rfl, rfl, Nat.le_refl _, fun _ _ => rfl⟩
    refine wp_region_held (S := Fr F) hC.mix ?_
    refine runs_sound hC hs (fun c a w h => (by cases h.1)) tr _ _ _ _ a _ F φ (hL d o ho) hv ((hsh.good hN).grow hgw) fun a' w' F' φ' s' k0 k1 k2 k3 => ⟨rfl, ?_⟩
    obtain ⟨h3, h5, h4⟩ := Kout_sound hC.enc outs .normal s' o k0
    obtain ⟨φ2, k4, k5⟩ := h4 a' w' F' φ' k1
    have := hQ a' w' F' φ2 k4 ((hgw.mv.trans k2).trans k5) (k3.mono fun t ht => by simpa using List.all_eq_true.1 hwr t ht) (by rw [k1.size]; exact h5)
    rwa [h3] at this
end
end Go.Am
end

section
namespace Go.Am
noncomputable section
open Go.RowKit
variable {κ : Kinds} {E : Encs κ} {P : Program} {C : Ctx κ}

theorem tab_any {F : Nat → Option Obj} {φ φ' : Nat → Option Pl} {k : κ.Kc} {xs : List (κ.ty k)} {u : Value} (hE : E.Ok) (h : Rep E F φ (.tab k xs) u) : Rep E F φ' (.tab k xs) u := refs_free hE h rfl
structure EntS (κ : Kinds) where
  fid : FuncId
  key : List Nat
  run : Ent κ
structure QEntS (κ : Kinds) where
  fid : FuncId
  run : QEnt κ
structure LamS (κ : Kinds) where
  run : Lam κ
/-- The functions among some arguments. -/
def fnsOf : List (AV κ) → List Nat
  | [] => []
  | .fn f _ :: cs => f :: fnsOf cs
  | _ :: cs => fnsOf cs
def lookE (l : List (EntS κ)) (fid : FuncId) : Ent κ := fun args S K => match l.find? fun e => e.fid == fid && e.key == fnsOf args with
  | some e => e.run args S K
  | none => none
def lookQ (l : List (QEntS κ)) (fid : FuncId) : QEnt κ := fun args S K => match l.find? fun e => e.fid == fid with
  | some e => e.run args S K
  | none => none
def lookL (l : List (LamS κ)) (i : Nat) : Lam κ := fun s K => match l[i]? with
  | some e => e.run s K
  | none => none

def AllE (P : Program) (E : Encs κ) (G : Nat → AV κ) : List (EntS κ) → Prop
  | [] => True
  | e :: l => EntOk P E G e.fid e.run ∧ AllE P E G l
def AllQ (P : Program) (E : Encs κ) (G : Nat → AV κ) : List (QEntS κ) → Prop
  | [] => True
  | e :: l => QEntOk P E G e.fid e.run ∧ AllQ P E G l
theorem AllE.mem {G : Nat → AV κ} : ∀ {l : List (EntS κ)}, AllE P E G l → ∀ e ∈ l, EntOk P E G e.fid e.run
  | [], _, e, h => by simp at h
  | x :: l, ⟨h1, h2⟩, e, h => by
    rcases List.mem_cons.1 h with rfl | h
    · exact h1
    · exact AllE.mem h2 e h
theorem AllQ.mem {G : Nat → AV κ} : ∀ {l : List (QEntS κ)}, AllQ P E G l → ∀ e ∈ l, QEntOk P E G e.fid e.run
  | [], _, e, h => by simp at h
  | x :: l, ⟨h1, h2⟩, e, h => by
    rcases List.mem_cons.1 h with rfl | h
    · exact h1
    · exact AllQ.mem h2 e h
theorem lookE_ok {G : Nat → AV κ} {l : List (EntS κ)} (h : AllE P E G l) (fid : FuncId) : EntOk P E G fid (lookE l fid) := by
  intro β args S K r hr
  simp only [lookE] at hr
  split at hr
  · rename_i e he
    have hf : e.fid = fid := by have := List.find?_some he; simp at this; exact this.1
    subst hf
    exact AllE.mem h e (List.mem_of_find?_eq_some he) β args S K r hr
  · cases hr
theorem lookQ_ok {G : Nat → AV κ} {l : List (QEntS κ)} (h : AllQ P E G l) (fid : FuncId) : QEntOk P E G fid (lookQ l fid) := by
  intro β args S K r hr
  simp only [lookQ] at hr
  split at hr
  · rename_i e he
    have hf : e.fid = fid := by simpa using List.find?_some he
    subst hf
    exact AllQ.mem h e (List.mem_of_find?_eq_some he) β args S K r hr
  · cases hr

/-- A piece of code by its path. -/
def sub : List Nat → Code → Code
  | [], c => c
  | 0 :: p, .seq a _ => sub p a
  | _ :: p, .seq _ b => sub p b
  | 0 :: p, .cond _ a _ => sub p a
  | _ :: p, .cond _ _ b => sub p b
  | _ :: p, .block _ c => sub p c
  | _ :: p, .loop c => sub p c
  | _, c => c

/-- The pieces that the notes name, by their numbers. -/
def obl : Code → Note → List (Nat × Code)
  | .seq a b, n => match n with | .cut id => [(id, .seq a b)] | n => obl a n.l ++ obl b n.r
  | .cond c a b, n => match n with | .cut id => [(id, .cond c a b)] | n => obl a n.l ++ obl b n.r
  | .block id c, n => match n with | .cut i => [(i, .block id c)] | n => obl c n.l
  | c, n => match n with | .cut id => [(id, c)] | _ => []
def AllL (C : Ctx κ) : List (Nat × Code) → Prop
  | [] => True
  | p :: l => LamOk C (C.Λ p.1) p.2 ∧ AllL C l
theorem AllL.append : ∀ {l m : List (Nat × Code)}, AllL C (l ++ m) → AllL C l ∧ AllL C m
  | [], _, h => ⟨trivial, h⟩
  | _ :: _, _, ⟨h1, h2⟩ => ⟨⟨h1, (AllL.append h2).1⟩, (AllL.append h2).2⟩
theorem fits_of {c : Code} {n : Note} {l : List (Nat × Code)} (h : obl c n = l) (hl : AllL C l) : Fits C c n := by
  subst h
  induction c generalizing n with
  | seq a b iha ihb =>
    cases n with
    | cut id => exact hl.1
    | _ => exact ⟨iha (AllL.append hl).1, ihb (AllL.append hl).2⟩
  | cond c a b iha ihb =>
    cases n with
    | cut id => exact hl.1
    | _ => exact ⟨iha (AllL.append hl).1, ihb (AllL.append hl).2⟩
  | block id c ih =>
    cases n with
    | cut i => exact hl.1
    | _ => exact ih hl
  | _ => cases n <;> first | exact hl.1 | trivial

/-! ### Kinds of elements by their patterns -/
def Pat.isFlat : Pat κ → Bool
  | .int _ | .bool | .str | .ro _ | .nilP => true
  | _ => false
structure KindData (κ : Kinds) where
  pats : κ.Kc → List (Pat κ)
  to : (k : κ.Kc) → dens (pats k) → κ.ty k
  of : (k : κ.Kc) → κ.ty k → dens (pats k)
  dflt : (k : κ.Kc) → κ.ty k
  byte : (k : κ.Kc) → Option (κ.ty k → Int)
  key : (k : κ.Kc) → κ.ty k → MKey := fun _ _ => .no
  mval : (k : κ.Kc) → κ.ty k → AV κ := fun _ _ => .val undef
  mmk : (k : κ.Kc) → MKey → AV κ → Option (κ.ty k) := fun _ _ _ => none
def KindData.encs (D : KindData κ) : Encs κ where
  enc k x := puts (D.pats k) (D.of k x)
  dec k cs := match gets (D.pats k) cs with
    | some d => some (D.to k d)
    | none => none
  dflt := D.dflt
  byte := D.byte
  key := D.key
  mval := D.mval
  mmk := D.mmk
theorem ro_eq {k k' : κ.Kc} {xs : List (κ.ty k')} {d : List (κ.ty k)} (h : (if h : k' = k then some (h ▸ xs) else none : Option (List (κ.ty k))) = some d) : AV.ro k d = AV.ro k' xs := by
  split at h
  · rename_i hk
    subst hk
    obtain rfl := Option.some.inj h
    rfl
  · cases h
theorem get_put {p : Pat κ} {v : AV κ} {d : p.den} (hp : p.isFlat = true) (h : p.get v = some d) : p.put d = v := by
  cases p with
  | int k =>
    unfold Pat.get at h
    split at h
    · obtain ⟨rfl, h⟩ := ite_some h
      obtain rfl := Option.some.inj h
      rfl
    · cases h
  | bool =>
    unfold Pat.get at h
    split at h
    · obtain rfl := Option.some.inj h; rfl
    · cases h
  | str =>
    unfold Pat.get at h
    split at h
    · obtain rfl := Option.some.inj h; rfl
    · cases h
  | ro k =>
    unfold Pat.get at h
    split at h
    · exact ro_eq h
    · cases h
  | nilP =>
    unfold Pat.get at h
    split at h
    · rfl
    · cases h
  | _ => cases hp
theorem gets_puts : ∀ {ps : List (Pat κ)} {cs : List (AV κ)} {d : dens ps}, ps.all Pat.isFlat = true → gets ps cs = some d → puts ps d = cs
  | [], cs, d, _, h => by
    unfold gets at h
    split at h
    · rfl
    · cases h
  | p :: ps, cs, d, hp, h => by
    simp only [List.all_cons, Bool.and_eq_true] at hp
    unfold gets at h
    split at h
    · split at h
      · rename_i x y hx hy
        obtain rfl := Option.some.inj h
        show p.put x :: puts ps y = _
        rw [get_put hp.1 hx, gets_puts hp.2 hy]
      · cases h
    · cases h
theorem puts_length : ∀ (ps : List (Pat κ)) (d : dens ps), (puts ps d).length = ps.length
  | [], _ => rfl
  | p :: ps, d => by show (puts ps d.2).length + 1 = _; rw [puts_length ps d.2]; rfl
theorem put_flat {p : Pat κ} (d : p.den) (hp : p.isFlat = true) : (p.put d).flat = true := by
  cases p <;> first | rfl | cases hp
theorem puts_flat : ∀ {ps : List (Pat κ)} {d : dens ps}, ps.all Pat.isFlat = true → ∀ c ∈ puts ps d, c.flat = true
  | [], _, _, c, h => by cases h
  | p :: ps, d, hp, c, h => by
    simp only [List.all_cons, Bool.and_eq_true] at hp
    rcases List.mem_cons.1 (show c ∈ p.put d.1 :: puts ps d.2 from h) with rfl | h
    · exact put_flat d.1 hp.1
    · exact puts_flat hp.2 c h
theorem KindData.ok (D : KindData κ) (h1 : ∀ k d, D.of k (D.to k d) = d) (h2 : ∀ k, (D.pats k).length = κ.sz k) (h3 : ∀ k, (D.pats k).all Pat.isFlat = true) (h4 : ∀ k, 0 < κ.sz k) (h5 : ∀ k f x, D.byte k = some f → puts (D.pats k) (D.of k x) = [.val (.int .u8 (f x))])
    (h6 : ∀ k m v x, D.mmk k m v = some x → D.key k x = m ∧ D.mval k x = v) (h7 : ∀ k x, (D.mval k x).still = true) (h8 : ∀ k x y, (D.key k x).like (D.key k y) = (D.key k x).like (D.key k x)) : D.encs.Ok where
  len k x := by show (puts _ _).length = _; rw [puts_length, h2]
  put k cs x h := by
    show puts _ _ = _
    simp only [KindData.encs] at h
    split at h
    · rename_i d hd
      obtain rfl := Option.some.inj h
      rw [h1]
      exact gets_puts (h3 k) hd
    · cases h
  flat k x c hc := puts_flat (h3 k) c hc
  pos := h4
  byte := h5
  mmk := h6
  still := h7
  like := h8
theorem mmk_one {ps : List (Pat κ)} {v : AV κ} {d : dens ps} (hp : ps.all Pat.isFlat = true) (h : gets ps [v] = some d) : puts ps d = [v] := gets_puts hp h
def mcells : AV κ → List (AV κ)
  | .agg cs => cs
  | _ => []
theorem mmk_agg {ps : List (Pat κ)} {v : AV κ} {d : dens ps} (hp : ps.all Pat.isFlat = true) (h : (match v with | .agg cs => gets ps cs | _ => none) = some d) : .agg (puts ps d) = v := by
  split at h
  · rw [gets_puts hp h]
  · cases h
theorem fit_of {k : κ.Kc} (h : (match P.info? (κ.elem k) with
    | some i => i.size == κ.sz k && i.bytes == κ.bytes k && (match i.zero with | some z => z.cells.size == κ.sz k | none => false) && decide (0 < κ.sz k) && decide (0 < κ.bytes k)
    | none => false) = true) : Fit P k := by
  split at h
  · rename_i i hi
    simp only [Bool.and_eq_true, beq_iff_eq, decide_eq_true_eq] at h
    obtain ⟨⟨⟨⟨h1, h2⟩, h3⟩, h4⟩, h5⟩ := h
    split at h3
    · rename_i z hz
      exact ⟨i, z, hi, h1, h2, hz, by simpa using h3, h4, h5⟩
    · cases h3
  · cases h

theorem callable_of {fid : FuncId} {fn : Func} (h : P.funcs[fid]? = some fn) (hn : (fn.name == "runtime.NumGoroutine") = false) (hb : fn.body.isNone = false) (us : Array Value) (w : World) : (callFunc fid us).run P w = .ok (.enter fid us) w := by
  unfold callFunc
  simp only [Sem.run_bind, run_program, Result.andThen_ok, h, hn, hb]
  rfl
def AllB (E : Encs κ) : List (BPat κ) → Prop
  | [] => True
  | b :: bs => b.NoRo E ∧ AllB E bs
theorem AllB.mem : ∀ {bs : List (BPat κ)}, AllB E bs → ∀ b ∈ bs, b.NoRo E
  | [], _, b, h => by simp at h
  | x :: bs, ⟨h1, h2⟩, b, h => by
    rcases List.mem_cons.1 h with rfl | h
    · exact h1
    · exact AllB.mem h2 b h
theorem noRo_puts : ∀ {ps : List (Pat κ)} {d : dens ps} {c : AV κ}, ps.all Pat.noRo = true → c ∈ puts ps d → c.noRo = true
  | [], d, c, _, h => by cases h
  | p :: ps, d, c, hp, h => by
    simp only [List.all_cons, Bool.and_eq_true] at hp
    rcases List.mem_cons.1 (show c ∈ p.put d.1 :: puts ps d.2 from h) with rfl | h
    · exact put_noRo p d.1 hp.1
    · exact noRo_puts hp.2 h
theorem KindData.plain (D : KindData κ) {k : κ.Kc} (h : (D.pats k).all Pat.noRo = true) : Plain D.encs k := fun x _ hc => noRo_puts h hc
theorem ent_free (hE : E.Ok) {G : Nat → AV κ} {fid : FuncId} {ins : List (Pat κ)} {p : Pat κ} {bs : List (BPat κ)} {f : dens ins → Option (p.den × densB bs)}
    (henter : ∀ (us : Array Value) (w : World), (callFunc fid us).run P w = .ok (.enter fid us) w) (hp : p.noRo = true) (hb : AllB E bs) (h : CallV P E G fid ins p bs f) : EntOk P E G fid (entOf ins p bs true f E) :=
  ent_ok hE henter (fun _ => ⟨hp, hb.mem⟩) h
theorem ent_bound (hE : E.Ok) {G : Nat → AV κ} {fid : FuncId} {ins : List (Pat κ)} {p : Pat κ} {bs : List (BPat κ)} {f : dens ins → Option (p.den × densB bs)}
    (henter : ∀ (us : Array Value) (w : World), (callFunc fid us).run P w = .ok (.enter fid us) w) (h : CallV P E G fid ins p bs f) : EntOk P E G fid (entOf ins p bs false f E) :=
  ent_ok hE henter (fun h => by cases h) h
end
end Go.Am
end
