/- A callee's contract as the reckoner takes it. -/
import Derived.Test.YtebbipofemjnmaaDoorTAm15
namespace Go.Am
noncomputable section
open Go.RowKit
variable {κ : Kinds} {E : Encs κ} {F F' : Nat → Option Obj} {φ φ' : Nat → Option Pl} {P : Program} {C : Ctx κ} {a : Act} {w w' : World} {s s' : St κ}

mutual
def AV.noRo : AV κ → Bool
  | .ro _ _ | .rop _ | .arr _ _ | .tab _ _ => false
  | .agg cs | .tup cs | .fn _ cs => noRoL cs
  | _ => true
def noRoL : List (AV κ) → Bool
  | [] => true
  | c :: cs => c.noRo && noRoL cs
end
theorem noRoL_get : ∀ {cs : List (AV κ)} {j : Nat} {c : AV κ}, noRoL cs = true → cs[j]? = some c → c.noRo = true
  | [], j, c, _, h => by simp at h
  | x :: cs, 0, c, h, hj => by simp [noRoL] at h hj; subst hj; exact h.1
  | x :: cs, j + 1, c, h, hj => by simp [noRoL] at h hj; exact noRoL_get h.2 hj
theorem Rep.noRo {F2 : Nat → Option Obj} {v : AV κ} {u : Value} (h : Rep E F φ v u) (hn : v.noRo = true) : Rep E F2 φ v u := by
  induction h with
  | bot u => exact .bot u
  | val v => exact .val v
  | agg cs us hl _ ih => exact .agg cs us hl fun j c u hc hu => ih j c u hc hu (noRoL_get (by simpa [AV.noRo] using hn) hc)
  | tup cs us hl _ ih => exact .tup cs us hl fun j c u hc hu => ih j c u hc hu (noRoL_get (by simpa [AV.noRo] using hn) hc)
  | fn f cs us hl _ ih => exact .fn f cs us hl fun j c u hc hu => ih j c u hc hu (noRoL_get (by simpa [AV.noRo] using hn) hc)
  | ro => simp [AV.noRo] at hn
  | roNil => simp [AV.noRo] at hn
  | roEmp => simp [AV.noRo] at hn
  | rop => simp [AV.noRo] at hn
  | arr => simp [AV.noRo] at hn
  | tab => simp [AV.noRo] at hn
  | own k i p g h hg => exact .own k i p g h hg
  | ownNil k i p h hg => exact .ownNil k i p h hg
  | ptr i off p g h hg => exact .ptr i off p g h hg
  | ptrE k i row col p g h hg hr => exact .ptrE k i row col p g h hg hr
  | optrN i => exact .optrN i
  | optr i p g h hg => exact .optr i p g h hg

mutual
def Pat.noRo : Pat κ → Bool
  | .ro _ | .rop _ | .arr _ | .tab _ => false
  | .agg ps | .tup ps | .fn _ ps => noRoP ps
  | _ => true
def noRoP : List (Pat κ) → Bool
  | [] => true
  | p :: ps => p.noRo && noRoP ps
end
mutual
theorem put_noRo : ∀ (p : Pat κ) (d : p.den), p.noRo = true → (p.put d).noRo = true
  | .any, _, _ => rfl
  | .int _, _, _ => rfl
  | .bool, _, _ => rfl
  | .str, _, _ => rfl
  | .nilS, _, _ => rfl
  | .ro _, _, h => by cases h
  | .own _ _, _, _ => rfl
  | .ptr _ _, _, _ => rfl
  | .optr _, _, _ => rfl
  | .nilP, _, _ => rfl
  | .fn _ ps, d, h => puts_noRo ps d h
  | .agg ps, d, h => puts_noRo ps d h
  | .tup ps, d, h => puts_noRo ps d h
  | .rop _, _, h => by cases h
  | .arr _, _, h => by cases h
  | .tab _, _, h => by cases h
theorem puts_noRo : ∀ (ps : List (Pat κ)) (d : dens ps), noRoP ps = true → noRoL (puts ps d) = true
  | [], _, _ => rfl
  | p :: ps, d, h => by
    have h' : p.noRo = true ∧ noRoP ps = true := by simpa [noRoP] using h
    show ((p.put d.1).noRo && noRoL (puts ps d.2)) = true
    rw [put_noRo p d.1 h'.1, puts_noRo ps d.2 h'.2]; rfl
end

def Plain (E : Encs κ) (k : κ.Kc) : Prop := ∀ x c, c ∈ E.enc k x → c.noRo = true
def BPat.NoRo (E : Encs κ) : BPat κ → Prop
  | .dead => True
  | .raw _ ps => noRoP ps = true
  | .rows k => Plain E k

def entOf (ins : List (Pat κ)) (p : Pat κ) (bs : List (BPat κ)) (free : Bool) (f : dens ins → Option (p.den × densB bs)) (E : Encs κ) : Ent κ := fun args S K =>
  if (refsL args).isEmpty then (gets ins args).bind fun d => (f d).bind fun r => K ((p.put r.1).ren fun i => some (i + S.length)) (S ++ (putsB bs r.2).map (Blk.ren fun i => some (i + S.length))) []
  else if free then (gets ins (args.map (view E S))).bind fun d => (f d).bind fun r => K ((p.put r.1).ren fun i => some (i + S.length)) (S ++ (putsB bs r.2).map (Blk.ren fun i => some (i + S.length))) []
  else none

theorem putsB_get : ∀ (bs : List (BPat κ)) (d : densB bs) (i : Nat) (b : Blk κ), (putsB bs d)[i]? = some b → ∃ (q : BPat κ) (e : q.den), q ∈ bs ∧ b = q.put e
  | [], _, _, _, h => by simp [putsB] at h
  | q :: bs, d, 0, b, h => by simp [putsB] at h; exact ⟨q, d.1, List.mem_cons_self, h.symm⟩
  | q :: bs, d, i + 1, b, h => by
    simp [putsB] at h
    obtain ⟨q', e, h1, h2⟩ := putsB_get bs d.2 i b h
    exact ⟨q', e, List.mem_cons_of_mem _ h1, h2⟩

theorem refs_free (hE : E.Ok) : ∀ {v : AV κ} {u : Value}, Rep E F φ v u → v.refs = [] → Rep E F φ' v u := by
  intro v u h
  have key : ∀ {cs : List (AV κ)} {j : Nat} {c : AV κ}, refsL cs = [] → cs[j]? = some c → c.refs = [] := by
    intro cs
    induction cs with
    | nil => intro j c _ h; simp at h
    | cons x cs ih =>
      intro j c h hj
      simp only [refsL, List.append_eq_nil_iff] at h
      cases j with
      | zero => simp at hj; subst hj; exact h.1
      | succ j => simp at hj; exact ih h.2 hj
  induction h with
  | bot u => exact fun _ => .bot u
  | val v => exact fun _ => .val v
  | agg cs us hl _ ih => exact fun hn => .agg cs us hl fun j c u hc hu => ih j c u hc hu (key (by simpa [AV.refs] using hn) hc)
  | tup cs us hl _ ih => exact fun hn => .tup cs us hl fun j c u hc hu => ih j c u hc hu (key (by simpa [AV.refs] using hn) hc)
  | fn f cs us hl _ ih => exact fun hn => .fn f cs us hl fun j c u hc hu => ih j c u hc hu (key (by simpa [AV.refs] using hn) hc)
  | ro k xs b off cap us hcap hc hr ih => exact fun _ => .ro k xs b off cap us hcap hc fun r x j c hx hj => ih r x j c hx hj (by
      have := hE.flat k x c (List.mem_of_getElem? hj)
      cases c <;> first | rfl | simp [AV.flat] at this)
  | roNil k => exact fun _ => .roNil k
  | roEmp k a cap => exact fun _ => .roEmp k a cap
  | rop cs b off us hc _ ih => exact fun hn => .rop cs b off us hc fun j c hj => ih j c hj (key (by simpa [AV.refs] using hn) hj)
  | arr k xs u _ ih => exact fun _ => .arr k xs u (ih (by
      have : ∀ {cs : List (AV κ)}, (∀ c ∈ cs, c.flat = true) → refsL cs = [] := by
        intro cs
        induction cs with
        | nil => intro _; rfl
        | cons c cs ih =>
          intro h
          have := h c List.mem_cons_self
          rw [refsL, ih fun c hc => h c (List.mem_cons_of_mem _ hc)]
          cases c <;> first | rfl | simp [AV.flat] at this
      show refsL _ = []
      exact this (flats hE)))
  | tab k xs b hx _ ih => exact fun _ => .tab k xs b hx (ih (by
      have : ∀ {cs : List (AV κ)}, (∀ c ∈ cs, c.flat = true) → refsL cs = [] := by
        intro cs
        induction cs with
        | nil => intro _; rfl
        | cons c cs ih =>
          intro h
          have := h c List.mem_cons_self
          rw [refsL, ih fun c hc => h c (List.mem_cons_of_mem _ hc)]
          cases c <;> first | rfl | simp [AV.flat] at this
      show refsL _ = []
      exact this (flats hE)))
  | _ => exact fun hn => by simp [AV.refs] at hn

/-- A callee's new memory joins the caller's. -/
theorem join_rel (hE : E.Ok) {S S' : List (Blk κ)} {F2 : Nat → Option Obj} (hr : Rel E F φ S w) (hm : Mv w F' noPl w' F2 φ') (h' : Rel E F2 φ' S' w') {G2 : Nat → Option Obj} (hF : Le F G2) (hGw : ∀ b o, G2 b = some o → w'.heap[b]? = some o)
    (hGa : ∀ i p g, φ i = some p → p.g = some g → G2 g = none) (hGb : ∀ i p g, φ' i = some p → p.g = some g → G2 g = none) (hblk : ∀ i b, S'[i]? = some b → OwnB E G2 φ' w' i b) :
    Rel E G2 (fun j => if j < S.length then φ j else φ' (j - S.length)) (S ++ S'.map (Blk.ren fun i => some (i + S.length))) w' ∧ (∀ j p, φ j = some p → (if j < S.length then φ j else φ' (j - S.length)) = some p) ∧
    (∀ i j, (some (i + S.length) : Option Nat) = some j → (if j < S.length then φ j else φ' (j - S.length)) = φ' i) := by
  have hφ1 : ∀ j p, φ j = some p → (if j < S.length then φ j else φ' (j - S.length)) = some p := fun j p h => by
    by_cases hj : j < S.length
    · rw [if_pos hj]; exact h
    · rw [hr.out j (by omega)] at h; cases h
  have hφ2 : ∀ i j, (some (i + S.length) : Option Nat) = some j → (if j < S.length then φ j else φ' (j - S.length)) = φ' i := fun i j h => by
    obtain rfl := Option.some.inj h
    rw [if_neg (by omega), Nat.add_sub_cancel]
  have keep : ∀ b, b < w.heap.size → w'.heap[b]? = w.heap[b]? := fun b hb => hm.keep b hb fun ⟨i, p, h, _⟩ => by cases h
  have fresh : ∀ i p g, φ' i = some p → p.g = some g → w.heap.size ≤ g := fun i p g h1 h2 => by
    rcases Nat.lt_or_ge g w.heap.size with hlt | hge
    · obtain ⟨_, _, h3, _⟩ := hm.held g ⟨i, p, h1, h2⟩ hlt
      cases h3
    · exact hge
  refine ⟨⟨hGw, fun i b hb => ?_, fun i hi => ?_, fun i j p q g h1 h2 h3 h4 => ?_, fun i p g h1 h2 => ?_, fun i p g h1 h2 => ?_⟩, hφ1, hφ2⟩
  · by_cases hi : i < S.length
    · rw [List.getElem?_append_left hi] at hb
      refine ((hr.blk i b hb).mono hF).keep (by simp only [if_pos hi]) hφ1 fun p g ob h1 h2 h3 => ?_
      rw [keep g (hr.lt i p g h1 h2)]; exact h3
    · rw [List.getElem?_append_right (by omega), List.getElem?_map] at hb
      obtain ⟨b', hb', rfl⟩ := Option.map_eq_some_iff.1 hb
      exact OwnB.ren hE hφ2 (by simp only [if_neg hi]) (hblk _ b' hb')
  · simp only [List.length_append, List.length_map] at hi
    rw [if_neg (by omega)]
    exact h'.out _ (by omega)
  · by_cases hi : i < S.length
    · rw [if_pos hi] at h1
      by_cases hj : j < S.length
      · rw [if_pos hj] at h2
        exact hr.inj i j p q g h1 h2 h3 h4
      · rw [if_neg hj] at h2
        have := fresh _ q g h2 h4
        have := hr.lt i p g h1 h3
        omega
    · rw [if_neg hi] at h1
      by_cases hj : j < S.length
      · rw [if_pos hj] at h2
        have := fresh _ p g h1 h3
        have := hr.lt j q g h2 h4
        omega
      · rw [if_neg hj] at h2
        have := h'.inj _ _ p q g h1 h2 h3 h4
        omega
  · by_cases hi : i < S.length
    · rw [if_pos hi] at h1; exact hGa i p g h1 h2
    · rw [if_neg hi] at h1; exact hGb _ p g h1 h2
  · by_cases hi : i < S.length
    · rw [if_pos hi] at h1
      have := hr.lt i p g h1 h2
      have := hm.size
      omega
    · rw [if_neg hi] at h1; exact h'.lt _ p g h1 h2

theorem join_mv {S : List (Blk κ)} {F2 G2 : Nat → Option Obj} (hm : Mv w F' noPl w' F2 φ') (hF : Le F G2) (hG : ∀ b o, G2 b = some o → F b = none → w.heap.size ≤ b) : Mv w F φ w' G2 (fun j => if j < S.length then φ j else φ' (j - S.length)) := by
  refine ⟨hm.os, hm.tape, hm.output, hm.size, fun b hb _ => hm.keep b hb (fun ⟨i, p, h, _⟩ => (by cases h)), fun b hb hlt => ?_, hF, fun b o h1 h2 => .inl (hG b o h1 h2)⟩
  obtain ⟨i, p, h1, h2⟩ := hb
  simp only at h1
  split at h1
  · exact ⟨i, p, h1, h2⟩
  · obtain ⟨_, _, h3, _⟩ := hm.held b ⟨_, p, h1, h2⟩ hlt
    cases h3

theorem ent_ok (hE : E.Ok) {G : Nat → AV κ} {fid : FuncId} {ins : List (Pat κ)} {p : Pat κ} {bs : List (BPat κ)} {free : Bool} {f : dens ins → Option (p.den × densB bs)}
    (henter : ∀ (us : Array Value) (w : World), (callFunc fid us).run P w = .ok (.enter fid us) w) (hfree : free = true → p.noRo = true ∧ ∀ b ∈ bs, b.NoRo E) (h : CallV P E G fid ins p bs f) : EntOk P E G fid (entOf ins p bs free f E) := by
  intro β args S K r hK
  refine ⟨henter, ?_⟩
  unfold entOf at hK
  dsimp only at hK
  split at hK
  · rename_i hempty
    obtain ⟨d, h1, hK⟩ := Option.bind_eq_some_iff.1 hK
    obtain ⟨q, h2, hK⟩ := Option.bind_eq_some_iff.1 hK
    refine ⟨_, _, [], hK, fun w F φ us hr hg hargs => ?_⟩
    have hargs0 : Reps E F noPl args us.toList := ⟨hargs.1, fun j c u hc hu => refs_free hE (hargs.2 j c u hc hu) (by
      have hall : refsL args = [] := by simpa using hempty
      have : ∀ (cs : List (AV κ)) (j : Nat) (c : AV κ), refsL cs = [] → cs[j]? = some c → c.refs = [] := by
        intro cs
        induction cs with
        | nil => intro j c _ h; simp at h
        | cons x cs ih =>
          intro j c h hj
          simp only [refsL, List.append_eq_nil_iff] at h
          cases j with
          | zero => simp at hj; subst hj; exact h.1
          | succ j => simp at hj; exact ih j c h.2 hj
      exact this args j c hall hc)⟩
    have hrel0 : Rel E F noPl [] w := ⟨hr.frz, fun i b hb => (by simp at hb), fun _ _ => rfl, fun _ _ _ _ _ h => (by cases h), fun _ _ _ h => (by cases h), fun _ _ _ h => (by cases h)⟩
    refine (h d q h2 w F us hrel0 hg (gets_rep _ _ _ _ h1 hargs0)).mono ?_
    rintro e w' ⟨u, F', φ', rfl, h3, h4, h5⟩
    have hGa : ∀ i p g, φ i = some p → p.g = some g → F' g = none := fun i p g h6 h7 => by
      cases hF' : F' g with
      | none => rfl
      | some o =>
        rcases h5.new g o hF' (hr.apart i p g h6 h7) with h8 | ⟨_, _, h8, _⟩
        · have := hr.lt i p g h6 h7; omega
        · cases h8
    obtain ⟨k1, k2, k3⟩ := join_rel hE hr h5 h3 (G2 := F') h5.le h3.frz hGa h3.apart h3.blk
    refine ⟨u, F', _, rfl, k1, h4.ren k3 hE, join_mv h5 h5.le fun b o h6 h7 => ?_, fun es vs he => ⟨he.1, fun j c u hc hu => ((he.2 j c u hc hu).mono h5.le).place k2⟩⟩
    rcases h5.new b o h6 h7 with h8 | ⟨_, _, h8, _⟩
    · exact h8
    · cases h8
  · split at hK
    · rename_i hfr
      obtain ⟨hp, hbs⟩ := hfree hfr
      obtain ⟨d, h1, hK⟩ := Option.bind_eq_some_iff.1 hK
      obtain ⟨q, h2, hK⟩ := Option.bind_eq_some_iff.1 hK
      refine ⟨_, _, [], hK, fun w F φ us hr hg hargs => ?_⟩
      have hle : Le F (allOf w) := fun b o hb => hr.frz b o hb
      have hargs0 : Reps E (allOf w) noPl (args.map (view E S)) us.toList := by
        refine ⟨by simpa using hargs.1, fun j c u hc hu => ?_⟩
        rw [List.getElem?_map] at hc
        obtain ⟨c', hc', rfl⟩ := Option.map_eq_some_iff.1 hc
        exact view_rep hE hr noPl (hargs.2 j c' u hc' hu)
      have hrel0 : Rel E (allOf w) noPl [] w := ⟨fun b o hb => hb, fun i b hb => (by simp at hb), fun _ _ => rfl, fun _ _ _ _ _ h => (by cases h), fun _ _ _ h => (by cases h), fun _ _ _ h => (by cases h)⟩
      refine (h d q h2 w (allOf w) us hrel0 (fun g ψ => (hg g ψ).mono hle) (gets_rep _ _ _ _ h1 hargs0)).mono ?_
      rintro e w' ⟨u, F', φ', rfl, h3, h4, h5⟩
      have hfrz : ∀ b o, F b = some o → w'.heap[b]? = some o := fun b o hb => by
        have := hr.frz b o hb
        rw [h5.keep b (Array.getElem?_eq_some_iff.1 this).1 fun ⟨i, p, h, _⟩ => by cases h]; exact this
      obtain ⟨k1, k2, k3⟩ := join_rel hE hr h5 h3 (G2 := F) (Le.refl F) hfrz hr.apart (fun i p g h6 h7 => by
          cases hF : F g with
          | none => rfl
          | some o =>
            have hlt := (Array.getElem?_eq_some_iff.1 (hr.frz g o hF)).1
            obtain ⟨_, _, h8, _⟩ := h5.held g ⟨i, p, h6, h7⟩ hlt
            cases h8) (fun i b hb => by
          have ho := h3.blk i b hb
          obtain ⟨q', e', hq, rfl⟩ := putsB_get _ _ _ _ hb
          have hno := hbs q' hq
          cases q' with
          | dead => exact ho
          | raw t ps =>
            obtain ⟨p, g, cur, h1, h2, h3, h4, h5⟩ := ho
            exact ⟨p, g, cur, h1, h2, h3, h4, fun j c u hc hu => (h5 j c u hc hu).noRo (noRoL_get (puts_noRo ps e' hno) hc)⟩
          | rows k =>
            obtain ⟨p, h1, h2, hh⟩ := ho
            refine ⟨p, h1, h2, ?_⟩
            rcases hh with hh | ⟨g, cur, h3, h4, h5, h6, h7, h8⟩
            · exact .inl hh
            · exact .inr ⟨g, cur, h3, h4, h5, h6, h7, fun r x j c u hx hc hu => (h8 r x j c u hx hc hu).noRo (hno x c (List.mem_of_getElem? hc))⟩)
      exact ⟨u, F, _, rfl, k1, (h4.noRo (put_noRo _ _ hp)).ren k3 hE, join_mv h5 (Le.refl F) fun b o h6 h7 => (by rw [h7] at h6; cases h6), fun es vs he => ⟨he.1, fun j c u hc hu => (he.2 j c u hc hu).place k2⟩⟩
    · cases hK

/-- Values that are told whole by themselves. -/
def valsOf : List (AV κ) → Option (List Value)
  | [] => some []
  | .val v :: cs => match valsOf cs with
    | some vs => some (v :: vs)
    | none => none
  | _ :: _ => none
def AV.toVal? : AV κ → Option Value
  | .val v => some v
  | .agg cs => match valsOf cs with
    | some vs => some (.agg vs.toArray)
    | none => none
  | .tup cs => match valsOf cs with
    | some vs => some (.tuple vs.toArray)
    | none => none
  | _ => none
theorem mapM_vals : ∀ {cs : List (AV κ)} {vs : List Value}, valsOf cs = some vs → cs = vs.map AV.val
  | [], vs, h => by obtain rfl := Option.some.inj h; rfl
  | c :: cs, vs, h => by
    cases c with
    | val v =>
      simp only [valsOf] at h
      split at h
      · rename_i vs' hvs
        obtain rfl := Option.some.inj h
        rw [mapM_vals hvs]; rfl
      · cases h
    | _ => simp [valsOf] at h
theorem toVal_rep {v : AV κ} {u : Value} (h : v.toVal? = some u) : (∀ F φ, Rep E F φ v u) ∧ ∀ F φ u', Rep E F φ v u' → u' = u := by
  cases v with
  | val x => obtain rfl := Option.some.inj h; exact ⟨fun F φ => .val _, fun F φ u' hr => val_inv hr⟩
  | agg cs =>
    simp only [AV.toVal?] at h
    split at h
    · rename_i vs hvs
      obtain rfl := Option.some.inj h
      have e := mapM_vals hvs
      subst e
      refine ⟨fun F φ => agg_mk (us := vs.toArray) (by simpa using Reps.vals vs), fun F φ u' hr => ?_⟩
      obtain ⟨us, rfl, hus⟩ := agg_inv hr
      congr 1
      rw [← Array.toList_inj]
      apply List.ext_getElem?
      intro j
      have hl := hus.1
      simp only [List.length_map] at hl
      by_cases hj : j < vs.length
      · have h1 : us.toList[j]? = some (us.toList[j]'(by omega)) := List.getElem?_eq_getElem _
        have := val_inv (hus.2 j (.val vs[j]) _ (by simp [hj]) h1)
        rw [h1, this]; simp [hj]
      · rw [List.getElem?_eq_none (by omega), List.getElem?_eq_none (by simp; omega)]
    · cases h
  | tup cs =>
    simp only [AV.toVal?] at h
    split at h
    · rename_i vs hvs
      obtain rfl := Option.some.inj h
      have e := mapM_vals hvs
      subst e
      refine ⟨fun F φ => tup_mk (us := vs.toArray) (by simpa using Reps.vals vs), fun F φ u' hr => ?_⟩
      obtain ⟨us, rfl, hus⟩ := tup_inv hr
      congr 1
      rw [← Array.toList_inj]
      apply List.ext_getElem?
      intro j
      have hl := hus.1
      simp only [List.length_map] at hl
      by_cases hj : j < vs.length
      · have h1 : us.toList[j]? = some (us.toList[j]'(by omega)) := List.getElem?_eq_getElem _
        have := val_inv (hus.2 j (.val vs[j]) _ (by simp [hj]) h1)
        rw [h1, this]; simp [hj]
      · rw [List.getElem?_eq_none (by omega), List.getElem?_eq_none (by simp; omega)]
    · cases h
  | _ => simp [AV.toVal?] at h

def qentOf (ins : List (Pat κ)) (p : Pat κ) (f : dens ins → Option (p.den × densB ([] : List (BPat κ)))) (E : Encs κ) : QEnt κ := fun args S K =>
  (gets ins (args.map (view E S))).bind fun d => (f d).bind fun r => if (p.put r.1).toVal?.isSome then K (p.put r.1) else none

theorem qent_ok (hE : E.Ok) {G : Nat → AV κ} {fid : FuncId} {ins : List (Pat κ)} {p : Pat κ} {f : dens ins → Option (p.den × densB ([] : List (BPat κ)))}
    (henter : ∀ (us : Array Value) (w : World), (callFunc fid us).run P w = .ok (.enter fid us) w) (h : CallV P E G fid ins p [] f) : QEntOk P E G fid (qentOf ins p f E) := by
  intro β args S K r hK
  refine ⟨henter, ?_⟩
  unfold qentOf at hK
  dsimp only at hK
  obtain ⟨d, h1, hK⟩ := Option.bind_eq_some_iff.1 hK
  obtain ⟨q, h2, hK⟩ := Option.bind_eq_some_iff.1 hK
  obtain ⟨hv, hK⟩ := ite_some hK
  obtain ⟨u, hu⟩ := Option.isSome_iff_exists.1 hv
  obtain ⟨hr1, hr2⟩ := toVal_rep (E := E) hu
  refine ⟨_, u, hK, hr1, fun w F φ us hr hg hargs => ?_⟩
  have hle : Le F (allOf w) := fun b o hb => hr.frz b o hb
  have hargs0 : Reps E (allOf w) noPl (args.map (view E S)) us.toList := by
    refine ⟨by simpa using hargs.1, fun j c u hc hu => ?_⟩
    rw [List.getElem?_map] at hc
    obtain ⟨c', hc', rfl⟩ := Option.map_eq_some_iff.1 hc
    exact view_rep hE hr noPl (hargs.2 j c' u hc' hu)
  have hrel0 : Rel E (allOf w) noPl [] w := ⟨fun b o hb => hb, fun i b hb => (by simp at hb), fun _ _ => rfl, fun _ _ _ _ _ h => (by cases h), fun _ _ _ h => (by cases h), fun _ _ _ h => (by cases h)⟩
  refine (h d q h2 w (allOf w) us hrel0 (fun g ψ => (hg g ψ).mono hle) (gets_rep _ _ _ _ h1 hargs0)).mono ?_
  rintro e w' ⟨u', F', φ', rfl, h3, h4, h5⟩
  exact ⟨by rw [hr2 _ _ _ h4], h5.os, h5.tape, h5.output, h5.size, fun b hb => h5.keep b hb fun ⟨i, p, h, _⟩ => (by cases h)⟩
end
end Go.Am
