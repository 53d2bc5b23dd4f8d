/- Contracts that were proved otherwise, taken over; tables of the library as they are asked there. -/
import Derived.Test.YtdgempbldhdihaaDoorVAm18
import Derived.Lib.LaidTab
import Derived.OpenShut
import Derived.ChangeArms
namespace Go.Am
noncomputable section
open Go.RowKit
variable {κ : Kinds} {E : Encs κ} {F F' : Nat → Option Obj} {φ φ' : Nat → Option Pl} {P : Program} {w w' : World}

theorem callV_below {G : Nat → AV κ} {fid : FuncId} {ins : List (Pat κ)} {p : Pat κ} {f : dens ins → Option (p.den × densB ([] : List (BPat κ)))}
    (h : ∀ (d : dens ins) (r : p.den × densB ([] : List (BPat κ))), f d = some r → ∀ (w : World) (F : Nat → Option Obj) (us : Array Value), GlobOk E G F → Fr F w → Reps E F noPl (puts ins d) us.toList →
      ∃ u, (p.put r.1).toVal? = some u ∧ Calls P fid us w fun e w' => e = .returned u ∧ Below w.heap.size w w') : CallV P E G fid ins p [] f := by
  intro d r hd w F us hrel hglob hargs
  obtain ⟨u, hu, hc⟩ := h d r hd w F us hglob hrel.frz hargs
  refine hc.mono ?_
  rintro e w' ⟨rfl, hb⟩
  refine ⟨u, F, noPl, rfl, ⟨fun b o ho => ?_, fun i b hb => by simp [putsB] at hb, fun _ _ => rfl, fun _ _ _ _ _ h => (by cases h), fun _ _ _ h => (by cases h), fun _ _ _ h => (by cases h)⟩, (toVal_rep hu).1 F noPl, ⟨hb.os, hb.tape, hb.output, hb.size, fun b hlt _ => hb.block b hlt, fun b hb' _ => hb', Le.refl F, fun b o h1 h2 => by rw [h2] at h1; cases h1⟩⟩
  have := hrel.frz b o ho
  rw [hb.block b (Array.getElem?_eq_some_iff.1 this).1]; exact this

theorem tabIs_of {G : Nat → AV κ} {n : String} {g : Nat} {k : κ.Kc} {xs : List (κ.ty k)} {q : IntKind} {zs : List Int} (hn : P.globalNamed n = some g) (hG : G g = .tab k xs) (hz : xs.flatMap (E.enc k) = zs.map fun z => .val (.int q z)) (hlen : zs.length = xs.length * κ.sz k)
    (hg : GlobOk E G F) (hf : Fr F w) : Lib.TabIs P w n q zs := by
  have h := hg g noPl
  rw [hG] at h
  generalize hp : (Value.pointer (some ⟨g, 0, none⟩)) = pv at h
  cases h with
  | tab _ _ b hx h =>
    injection hp with hp
    injection hp with hp
    injection hp with hp
    subst hp
    obtain ⟨c, t, fr, hc, hs⟩ := hx
    rw [hz] at h
    generalize hcs : (zs.map fun z => (AV.val (.int q z) : AV κ)) = cs at h
    cases h with
    | rop _ _ _ us h1 h2 =>
      have hcl : cs.length = zs.length := by rw [← hcs]; simp
      unfold Lib.TabIs World.var?
      simp only [hn, Option.bind_some, hf g _ hc, Option.some.injEq]
      apply Array.ext
      · simp [hs, hlen]
      · intro i h3 h4
        have hi : i < zs.length := by simpa using h4
        have h5 := h1 i (by omega)
        simp only [FCell, hc, Nat.zero_add] at h5
        rw [Array.getElem?_eq_getElem h3] at h5
        have h6 := h2 i (.val (.int q zs[i])) (by rw [← hcs]; simp [hi])
        rw [Option.some.inj h5, val_inv h6]
        simp

/-! ### Tables that a row lays -/
/-- What one scalar of a laid table is. -/
def litV : Lit → Option Value
  | .int k n => some (.int k n)
  | .bool b => some (.bool b)
  | .string l => some (.string ⟨l.toArray⟩)
  | _ => none
mutual
def cellsOfD : DataW Unit → Option (List Value)
  | .lit l => match litV l with
    | some v => some [v]
    | none => none
  | .agg ds => cellsOfDs ds
  | _ => none
def cellsOfDs : List (DataW Unit) → Option (List Value)
  | [] => some []
  | d :: ds => match cellsOfD d, cellsOfDs ds with
    | some a, some b => some (a ++ b)
    | _, _ => none
end
/-- Scalars, and arrays of them: told by what they read as. -/
inductive Scal (P : Program) : TypeId → Prop
  | int {t : TypeId} {k : IntKind} (h : P.underlying t = some (.int k)) : Scal P t
  | bool {t : TypeId} (h : P.underlying t = some .bool) : Scal P t
  | string {t : TypeId} (h : P.underlying t = some .string) : Scal P t
  | array {t e : TypeId} {n : Nat} (h : P.underlying t = some (.array n e)) (hc : P.cellsOf t = n * P.cellsOf e) (he : Scal P e) : Scal P t

theorem scal_cells {t : TypeId} (hs : Scal P t) : ∀ {base : Nat} {sp : Nat → Bool} {held : Bool} {fuel : Nat} {cs : List Value} {d : DataW Unit} {pl : List MemPlace} {vs : List Value},
    DataW.trod (fun _ => ()) P w base sp held fuel t cs = some (d, pl) → cellsOfD d = some vs → cs = vs := by
  induction hs with
  | int h =>
    intro base sp held fuel cs d pl vs hd hv
    obtain ⟨n, rfl, hx, _⟩ := DataW.trod_int h hd
    obtain ⟨rfl, _⟩ := Prod.mk.inj hx
    simp [cellsOfD, litV] at hv
    exact hv
  | bool h =>
    intro base sp held fuel cs d pl vs hd hv
    obtain ⟨n, rfl, hx⟩ := DataW.trod_bool h hd
    obtain ⟨rfl, _⟩ := Prod.mk.inj hx
    simp [cellsOfD, litV] at hv
    exact hv
  | string h =>
    intro base sp held fuel cs d pl vs hd hv
    obtain ⟨s, rfl, hx, _⟩ := DataW.trod_string h hd
    obtain ⟨rfl, _⟩ := Prod.mk.inj hx
    simp [cellsOfD, litV] at hv
    rw [← hv]
  | array h hc he ih =>
    intro base sp held fuel cs d pl vs hd hv
    rename_i t e n
    obtain ⟨xs, m, rfl, hx, hlen, hn, hel⟩ := DataW.trod_array h hd
    obtain ⟨rfl, _⟩ := Prod.mk.inj hx
    simp only [cellsOfD] at hv
    have key : ∀ (j : Nat) (ys : List (DataW Unit × List MemPlace)) (cs' : List Value) (vs : List Value), cs'.length = ys.length * P.cellsOf e → (∀ i, i < ys.length → DataW.trod (fun _ => ()) P w base sp held m e ((cs'.drop (i * P.cellsOf e)).take (P.cellsOf e)) = ys[i]?) → cellsOfDs (ys.map (·.1)) = some vs → cs' = vs := by
      intro _ ys
      induction ys with
      | nil =>
        intro cs' vs hl _ hv
        simp [cellsOfDs] at hv
        subst hv
        simpa using hl
      | cons y ys ihy =>
        intro cs' vs hl hel hv
        simp only [List.map_cons, cellsOfDs] at hv
        split at hv
        · rename_i a b ha hb
          obtain rfl := Option.some.inj hv
          have h0 := hel 0 (by simp)
          simp only [Nat.zero_mul, List.drop_zero, List.getElem?_cons_zero] at h0
          have e1 := ih (d := y.1) (pl := y.2) h0 ha
          have e2 := ihy (cs'.drop (P.cellsOf e)) b (by simp only [List.length_drop, hl, List.length_cons, Nat.add_mul, Nat.one_mul]; omega) (fun i hi => by
            have := hel (i + 1) (by simpa using hi)
            rw [List.drop_drop]
            rw [List.getElem?_cons_succ] at this
            rw [← this]
            congr 3
            rw [Nat.add_mul, Nat.one_mul]; omega) hb
          rw [← List.take_append_drop (P.cellsOf e) cs', e1, e2]
        · cases hv
    exact key 0 xs cs vs (by rw [hlen, hc, hn]) (fun i hi => hel i (by omega)) hv

theorem tab_laid {n : String} {g : Nat} {t : TypeId} {cs : Array Value} {d : DataW Unit} {p : List MemPlace} {fuel : Nat} {k : κ.Kc} {xs : List (κ.ty k)} {vs : List Value}
    (hn : P.globalNamed n = some g) (hv : w.var? P n = some cs) (hs : Scal P t) (hd : DataW.trod (fun _ => ()) P w 0 (fun _ => true) false fuel t cs.toList = some (d, p)) (hvs : cellsOfD d = some vs)
    (hx : xs.flatMap (E.enc k) = vs.map AV.val) (hl : vs.length = xs.length * κ.sz k) : Rep E (allOf w) noPl (.tab k xs) (.pointer (some ⟨g, 0, none⟩)) := by
  have hcs := scal_cells hs hd hvs
  simp only [World.var?, hn, Option.bind_some] at hv
  split at hv
  · rename_i c ty fr hb
    obtain rfl := Option.some.inj hv
    refine .tab k xs g ⟨c, ty, fr, hb, by rw [← hl, ← hcs]; simp⟩ ?_
    rw [hx]
    refine .rop _ g 0 (fun j => vs.getD j undef) (fun j hj => ?_) (fun j c' hj => ?_)
    · simp only [List.length_map] at hj
      simp only [FCell, allOf, hb, Nat.zero_add]
      rw [← Array.getElem?_toList, hcs, List.getD_eq_getElem?_getD, List.getElem?_eq_getElem hj]
      rfl
    · rw [List.getElem?_map] at hj
      obtain ⟨v, hv, rfl⟩ := Option.map_eq_some_iff.1 hj
      rw [List.getD_eq_getElem?_getD, hv]
      exact .val v
  · cases hv
end
end Go.Am
