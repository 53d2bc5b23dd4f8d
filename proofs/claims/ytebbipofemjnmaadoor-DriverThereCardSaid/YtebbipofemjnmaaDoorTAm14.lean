/- Pieces of code with a summary over plain data: what goes in and what comes out. -/
import Derived.Test.YtebbipofemjnmaaDoorTAm13
namespace Go.Am
noncomputable section
open Go.RowKit
variable {κ : Kinds} {E : Encs κ} {F F' : Nat → Option Obj} {φ φ' : Nat → Option Pl} {P : Program} {C : Ctx κ} {a : Act} {w w' : World} {s s' : St κ} {kindOf : TypeId → Option κ.Kc}

inductive Pat (κ : Kinds) where
  | any
  | int (k : IntKind)
  | bool
  | str
  | nilS
  | ro (k : κ.Kc)
  | own (k : κ.Kc) (i : Nat)
  | ptr (i off : Nat)
  | optr (i : Nat)
  | nilP
  | fn (f : FuncId) (ps : List (Pat κ))
  | agg (ps : List (Pat κ))
  | tup (ps : List (Pat κ))
  | rop (ps : List (Pat κ))
  | arr (k : κ.Kc)
  | tab (k : κ.Kc)

mutual
def Pat.den : Pat κ → Type
  | .int _ => Int
  | .bool => Bool
  | .str => ByteArray
  | .ro k => List (κ.ty k)
  | .fn _ ps => dens ps
  | .agg ps => dens ps
  | .tup ps => dens ps
  | .rop ps => dens ps
  | .arr k => List (κ.ty k)
  | .tab k => List (κ.ty k)
  | _ => Unit
def dens : List (Pat κ) → Type
  | [] => Unit
  | p :: ps => p.den × dens ps
end

mutual
def Pat.get : (p : Pat κ) → AV κ → Option p.den
  | .any, _ => some ()
  | .int k, v => match v with | .val (.int k' n) => if k' = k then some n else none | _ => none
  | .bool, v => match v with | .val (.bool b) => some b | _ => none
  | .str, v => match v with | .val (.string b) => some b | _ => none
  | .nilS, v => match v with | .val (.slice none 0 0) => some () | _ => none
  | .ro k, v => match v with | .ro k' xs => if h : k' = k then some (h ▸ xs) else none | _ => none
  | .own k i, v => match v with | .own k' i' => if k' = k ∧ i' = i then some () else none | _ => none
  | .ptr i off, v => match v with | .ptr i' off' => if i' = i ∧ off' = off then some () else none | _ => none
  | .nilP, v => match v with | .val (.pointer none) => some () | _ => none
  | .optr i, v => match v with | .ptr i' 0 => if i' = i then some () else none | .val (.pointer none) => some () | .optr i' => if i' = i then some () else none | _ => none
  | .fn f ps, v => match v with | .fn g cs => if g = f then gets ps cs else none | _ => none
  | .agg ps, v => match v with | .agg cs => gets ps cs | _ => none
  | .tup ps, v => match v with | .tup cs => gets ps cs | _ => none
  | .rop ps, v => match v with | .rop cs => gets ps cs | _ => none
  | .arr k, v => match v with | .arr k' xs => if h : k' = k then some (h ▸ xs) else none | _ => none
  | .tab k, v => match v with | .tab k' xs => if h : k' = k then some (h ▸ xs) else none | _ => none
def gets : (ps : List (Pat κ)) → List (AV κ) → Option (dens ps)
  | [], cs => match cs with | [] => some () | _ => none
  | p :: ps, cs => match cs with
    | c :: cs => match p.get c, gets ps cs with
      | some x, some y => some (x, y)
      | _, _ => none
    | [] => none
end

mutual
def Pat.put : (p : Pat κ) → p.den → AV κ
  | .any, _ => .bot
  | .int k, n => .val (.int k n)
  | .bool, b => .val (.bool b)
  | .str, b => .val (.string b)
  | .nilS, _ => .val (.slice none 0 0)
  | .ro k, xs => .ro k xs
  | .own k i, _ => .own k i
  | .ptr i off, _ => .ptr i off
  | .optr i, _ => .optr i
  | .nilP, _ => .val (.pointer none)
  | .fn f ps, d => .fn f (puts ps d)
  | .agg ps, d => .agg (puts ps d)
  | .tup ps, d => .tup (puts ps d)
  | .rop ps, d => .rop (puts ps d)
  | .arr k, xs => .arr k xs
  | .tab k, xs => .tab k xs
def puts : (ps : List (Pat κ)) → dens ps → List (AV κ)
  | [], _ => []
  | p :: ps, d => p.put d.1 :: puts ps d.2
end

theorem ite_some {α : Type} {c : Prop} [Decidable c] {x : Option α} {d : α} (h : (if c then x else none) = some d) : c ∧ x = some d := by
  split at h
  · exact ⟨‹_›, h⟩
  · cases h
theorem fn_inv {f : FuncId} {cs : List (AV κ)} {u : Value} (h : Rep E F φ (.fn f cs) u) : ∃ us, u = .func (.func f) #[] us ∧ Reps E F φ cs us.toList := by
  cases h with
  | fn _ _ us hl hr => exact ⟨us, rfl, by simpa using hl, fun j c u hc hu => hr j c u hc (by simpa using hu)⟩
theorem agg_inv {cs : List (AV κ)} {u : Value} (h : Rep E F φ (.agg cs) u) : ∃ us, u = .agg us ∧ Reps E F φ cs us.toList := by
  cases h with
  | agg _ us hl hr => exact ⟨us, rfl, by simpa using hl, fun j c u hc hu => hr j c u hc (by simpa using hu)⟩
theorem tup_inv {cs : List (AV κ)} {u : Value} (h : Rep E F φ (.tup cs) u) : ∃ us, u = .tuple us ∧ Reps E F φ cs us.toList := by
  cases h with
  | tup _ us hl hr => exact ⟨us, rfl, by simpa using hl, fun j c u hc hu => hr j c u hc (by simpa using hu)⟩
theorem rop_inv {cs : List (AV κ)} {u : Value} (h : Rep E F φ (.rop cs) u) : ∃ (b off : Nat) (us : List Value), u = .pointer (some ⟨b, off, none⟩) ∧ Reps E F φ cs us ∧ ∀ (j : Nat) (v : Value), us[j]? = some v → FCell F b (off + j) = some v := by
  cases h with
  | rop _ b off us hc hr =>
    refine ⟨b, off, (List.range cs.length).map us, rfl, ⟨by simp, fun j c u hj hu => ?_⟩, fun j v hj => ?_⟩
    · have hlt := (List.getElem?_eq_some_iff.1 hj).1
      rw [List.getElem?_map, List.getElem?_range hlt] at hu
      obtain rfl := Option.some.inj hu
      exact hr j c hj
    · rw [List.getElem?_map] at hj
      obtain ⟨i, hi, rfl⟩ := Option.map_eq_some_iff.1 hj
      have hlt : j < cs.length := by have := (List.getElem?_eq_some_iff.1 hi).1; simpa using this
      rw [List.getElem?_range hlt] at hi
      obtain rfl := Option.some.inj hi
      exact hc j hlt
theorem fn_mk {f : FuncId} {cs : List (AV κ)} {us : Array Value} (h : Reps E F φ cs us.toList) : Rep E F φ (.fn f cs) (.func (.func f) #[] us) :=
  .fn _ _ us (by simpa using h.1) fun j c u hc hu => h.2 j c u hc (by simpa using hu)
theorem agg_mk {cs : List (AV κ)} {us : Array Value} (h : Reps E F φ cs us.toList) : Rep E F φ (.agg cs) (.agg us) :=
  .agg _ us (by simpa using h.1) fun j c u hc hu => h.2 j c u hc (by simpa using hu)
theorem tup_mk {cs : List (AV κ)} {us : Array Value} (h : Reps E F φ cs us.toList) : Rep E F φ (.tup cs) (.tuple us) :=
  .tup _ us (by simpa using h.1) fun j c u hc hu => h.2 j c u hc (by simpa using hu)
theorem rop_mk {cs : List (AV κ)} {b off : Nat} {us : List Value} (h : Reps E F φ cs us) (hc : ∀ (j : Nat) (v : Value), us[j]? = some v → FCell F b (off + j) = some v) : Rep E F φ (.rop cs) (.pointer (some ⟨b, off, none⟩)) :=
  .rop _ b off (fun j => us.getD j undef) (fun j hj => by
    have hlt : j < us.length := by rw [← h.1]; exact hj
    refine hc j _ ?_
    rw [List.getD_eq_getElem?_getD, List.getElem?_eq_getElem hlt]; rfl) fun j c hj => by
    have hlt : j < us.length := by rw [← h.1]; exact (List.getElem?_eq_some_iff.1 hj).1
    refine h.2 j c _ hj ?_
    rw [List.getD_eq_getElem?_getD, List.getElem?_eq_getElem hlt]; rfl
theorem ro_mk {k k' : κ.Kc} {xs : List (κ.ty k')} {d : List (κ.ty k)} {u : Value} (h : (if h : k' = k then some (h ▸ xs) else none : Option (List (κ.ty k))) = some d) (hr : Rep E F φ (.ro k' xs) u) : Rep E F φ (.ro k d) u := by
  split at h
  · rename_i hk
    subst hk
    obtain rfl := Option.some.inj h
    exact hr
  · cases h
theorem arr_mk {k k' : κ.Kc} {xs : List (κ.ty k')} {d : List (κ.ty k)} {u : Value} (h : (if h : k' = k then some (h ▸ xs) else none : Option (List (κ.ty k))) = some d) (hr : Rep E F φ (.arr k' xs) u) : Rep E F φ (.arr k d) u := by
  split at h
  · rename_i hk
    subst hk
    obtain rfl := Option.some.inj h
    exact hr
  · cases h
theorem tab_mk {k k' : κ.Kc} {xs : List (κ.ty k')} {d : List (κ.ty k)} {u : Value} (h : (if h : k' = k then some (h ▸ xs) else none : Option (List (κ.ty k))) = some d) (hr : Rep E F φ (.tab k' xs) u) : Rep E F φ (.tab k d) u := by
  split at h
  · rename_i hk
    subst hk
    obtain rfl := Option.some.inj h
    exact hr
  · cases h
theorem rows_mk {k k' : κ.Kc} {xs : List (κ.ty k')} {d : List (κ.ty k)} {i : Nat} (h : (if h : k' = k then some (h ▸ xs) else none : Option (List (κ.ty k))) = some d) (hr : OwnB E F φ w i (.rows k' xs)) : OwnB E F φ w i (.rows k d) := by
  split at h
  · rename_i hk
    subst hk
    obtain rfl := Option.some.inj h
    exact hr
  · cases h
theorem Reps.nil : Reps E F φ ([] : List (AV κ)) [] := ⟨rfl, fun j c u hc => by simp at hc⟩
theorem Reps.cons {c : AV κ} {cs : List (AV κ)} {u : Value} {us : List Value} (h : Rep E F φ c u) (k : Reps E F φ cs us) : Reps E F φ (c :: cs) (u :: us) := by
  refine ⟨by simp [k.1], fun j c' u' hc hu => ?_⟩
  cases j with
  | zero => simp at hc hu; subst hc; subst hu; exact h
  | succ j => simp at hc hu; exact k.2 j c' u' hc hu
theorem Reps.cons_inv {c : AV κ} {cs : List (AV κ)} {us : List Value} (h : Reps E F φ (c :: cs) us) : ∃ u us', us = u :: us' ∧ Rep E F φ c u ∧ Reps E F φ cs us' := by
  cases us with
  | nil => have := h.1; simp at this
  | cons u us => exact ⟨u, us, rfl, h.2 0 c u rfl rfl, by simpa using h.1, fun j c u hc hu => h.2 (j + 1) c u (by simpa using hc) (by simpa using hu)⟩
theorem Reps.nil_inv {us : List Value} (h : Reps E F φ ([] : List (AV κ)) us) : us = [] := by
  have := h.1
  simp at this
  exact List.eq_nil_of_length_eq_zero this.symm

set_option maxHeartbeats 1000000 in
mutual
theorem get_rep : ∀ (p : Pat κ) (v : AV κ) (d : p.den) (u : Value), p.get v = some d → Rep E F φ v u → Rep E F φ (p.put d) u
  | .any, _, _, u, _, _ => Rep.bot u
  | .int k, v, d, u, h, hr => by
    unfold Pat.get at h
    split at h
    · obtain ⟨rfl, h⟩ := ite_some h
      obtain rfl := Option.some.inj h
      exact hr
    · cases h
  | .bool, v, d, u, h, hr => by
    unfold Pat.get at h
    split at h
    · obtain rfl := Option.some.inj h; exact hr
    · cases h
  | .str, v, d, u, h, hr => by
    unfold Pat.get at h
    split at h
    · obtain rfl := Option.some.inj h; exact hr
    · cases h
  | .nilS, v, d, u, h, hr => by
    unfold Pat.get at h
    split at h
    · exact hr
    · cases h
  | .ro k, v, d, u, h, hr => by
    unfold Pat.get at h
    split at h
    · exact ro_mk h hr
    · cases h
  | .own k i, v, d, u, h, hr => by
    unfold Pat.get at h
    split at h
    · obtain ⟨⟨rfl, rfl⟩, h⟩ := ite_some h
      exact hr
    · cases h
  | .ptr i off, v, d, u, h, hr => by
    unfold Pat.get at h
    split at h
    · obtain ⟨⟨rfl, rfl⟩, h⟩ := ite_some h
      exact hr
    · cases h
  | .nilP, v, d, u, h, hr => by
    unfold Pat.get at h
    split at h
    · exact hr
    · cases h
  | .optr i, v, d, u, h, hr => by
    unfold Pat.get at h
    split at h
    · obtain ⟨rfl, h⟩ := ite_some h
      cases hr with
      | ptr _ _ p g h1 h2 => exact .optr _ p g h1 h2
    · cases hr; exact .optrN i
    · obtain ⟨rfl, h⟩ := ite_some h
      exact hr
    · cases h
  | .fn f ps, v, d, u, h, hr => by
    unfold Pat.get at h
    split at h
    · obtain ⟨rfl, h⟩ := ite_some h
      obtain ⟨us, rfl, hus⟩ := fn_inv hr
      exact fn_mk (gets_rep ps _ d _ h hus)
    · cases h
  | .agg ps, v, d, u, h, hr => by
    cases v with
    | agg cs =>
      obtain ⟨us, rfl, hus⟩ := agg_inv hr
      exact agg_mk (gets_rep ps _ d _ h hus)
    | _ => cases (show (none : Option (dens ps)) = some d from h)
  | .tup ps, v, d, u, h, hr => by
    cases v with
    | tup cs =>
      obtain ⟨us, rfl, hus⟩ := tup_inv hr
      exact tup_mk (gets_rep ps _ d _ h hus)
    | _ => cases (show (none : Option (dens ps)) = some d from h)
  | .rop ps, v, d, u, h, hr => by
    cases v with
    | rop cs =>
      obtain ⟨b, off, us, rfl, hus, hc⟩ := rop_inv hr
      exact rop_mk (gets_rep ps _ d _ h hus) hc
    | _ => cases (show (none : Option (dens ps)) = some d from h)
  | .arr k, v, d, u, h, hr => by
    unfold Pat.get at h
    split at h
    · exact arr_mk h hr
    · cases h
  | .tab k, v, d, u, h, hr => by
    unfold Pat.get at h
    split at h
    · exact tab_mk h hr
    · cases h
theorem gets_rep : ∀ (ps : List (Pat κ)) (cs : List (AV κ)) (d : dens ps) (us : List Value), gets ps cs = some d → Reps E F φ cs us → Reps E F φ (puts ps d) us
  | [], cs, d, us, h, hr => by
    unfold gets at h
    split at h
    · exact hr
    · cases h
  | p :: ps, cs, d, us, h, hr => by
    unfold gets at h
    split at h
    · split at h
      · rename_i x y hx hy
        obtain rfl := Option.some.inj h
        obtain ⟨u, us', rfl, h1, h2⟩ := hr.cons_inv
        exact Reps.cons (get_rep p _ x u hx h1) (gets_rep ps _ y us' hy h2)
      · cases h
    · cases h
end

inductive BPat (κ : Kinds) where
  | dead
  | raw (t : TypeId) (ps : List (Pat κ))
  | rows (k : κ.Kc)
def BPat.den : BPat κ → Type
  | .dead => Unit
  | .raw _ ps => dens ps
  | .rows k => List (κ.ty k)
def BPat.get : (p : BPat κ) → Blk κ → Option p.den
  | .dead, b => match b with | .dead => some () | _ => none
  | .raw t ps, b => match b with | .raw t' cs => if t' = t then gets ps cs else none | _ => none
  | .rows k, b => match b with | .rows k' xs => if h : k' = k then some (h ▸ xs) else none | _ => none
def BPat.put : (p : BPat κ) → p.den → Blk κ
  | .dead, _ => .dead
  | .raw t ps, d => .raw t (puts ps d)
  | .rows k, xs => .rows k xs
theorem getB_own : ∀ (p : BPat κ) (b : Blk κ) (d : p.den) (i : Nat), p.get b = some d → OwnB E F φ w i b → OwnB E F φ w i (p.put d)
  | .dead, b, d, i, h, ho => by
    cases b with
    | dead => exact ho
    | _ => cases (show (none : Option Unit) = some d from h)
  | .raw t ps, b, d, i, h, ho => by
    cases b with
    | raw t' cs =>
      obtain ⟨rfl, h⟩ := ite_some (show (if t' = t then gets ps cs else none) = some d from h)
      obtain ⟨p, g, cur, h1, h2, h3, h4, h5⟩ := ho
      obtain ⟨h6, h7⟩ := gets_rep ps _ d cur.toList h ⟨by simpa using h4.symm, fun j c u hc hu => h5 j c u hc (by simpa using hu)⟩
      exact ⟨p, g, cur, h1, h2, h3, by simpa using h6.symm, fun j c u hc hu => h7 j c u hc (by simpa using hu)⟩
    | _ => cases (show (none : Option (dens ps)) = some d from h)
  | .rows k, b, d, i, h, ho => by
    cases b with
    | rows k' xs => exact rows_mk (d := d) h ho
    | _ => cases (show (none : Option (List (κ.ty k))) = some d from h)
def densB : List (BPat κ) → Type
  | [] => Unit
  | p :: ps => p.den × densB ps
def getsB : (ps : List (BPat κ)) → List (Blk κ) → Option (densB ps)
  | [], bs => match bs with | [] => some () | _ => none
  | p :: ps, bs => match bs with
    | b :: bs => match p.get b, getsB ps bs with
      | some x, some y => some (x, y)
      | _, _ => none
    | [] => none
def putsB : (ps : List (BPat κ)) → densB ps → List (Blk κ)
  | [], _ => []
  | p :: ps, d => p.put d.1 :: putsB ps d.2
theorem getsB_own : ∀ (ps : List (BPat κ)) (bs : List (Blk κ)) (d : densB ps), getsB ps bs = some d → (putsB ps d).length = bs.length ∧ ∀ (n : Nat), (∀ i b, bs[i]? = some b → OwnB E F φ w (n + i) b) → ∀ i b, (putsB ps d)[i]? = some b → OwnB E F φ w (n + i) b
  | [], bs, d, h => by
    simp only [getsB] at h
    split at h
    · exact ⟨rfl, fun n _ i b hb => by simp [putsB] at hb⟩
    · cases h
  | p :: ps, bs, d, h => by
    simp only [getsB] at h
    split at h
    · rename_i b bs
      split at h
      · rename_i x y hx hy
        obtain rfl := Option.some.inj h
        obtain ⟨h1, h2⟩ := getsB_own ps bs y hy
        refine ⟨by simp [putsB, h1], fun n hn i b' hb => ?_⟩
        cases i with
        | zero => simp [putsB] at hb; subst hb; exact getB_own p b x n hx (hn 0 b rfl)
        | succ i =>
          simp [putsB] at hb
          have := h2 (n + 1) (fun i b hb => by have := hn (i + 1) b (by simpa using hb); rwa [show n + 1 + i = n + (i + 1) by omega]) i b' hb
          rwa [show n + 1 + i = n + (i + 1) by omega] at this
      · cases h
    · cases h

structure Sh (κ : Kinds) where
  keep : Nat
  live : List Nat
  env : List (Pat κ)
  blks : List (BPat κ)
abbrev Sh.den (sh : Sh κ) : Type := dens sh.env × densB sh.blks
def ext (sh : Sh κ) (s : St κ) : Option sh.den :=
  match gets sh.env s.env, getsB sh.blks s.S with
  | some x, some y => some (x, y)
  | _, _ => none
def setEach {α : Type} : List α → List Nat → List α → List α
  | e, t :: ts, v :: vs => setEach (e.set t v) ts vs
  | e, _, _ => e
def can (N : Nat) (sh : Sh κ) (d : sh.den) : St κ :=
  { env := setEach (List.replicate N .bot) sh.live (puts sh.env d.1), S := putsB sh.blks d.2, al := [] }

theorem setEach_length {α : Type} : ∀ (ts : List Nat) (e vs : List α), (setEach e ts vs).length = e.length
  | [], e, vs => by cases vs <;> simp [setEach]
  | t :: ts, e, [] => by simp [setEach]
  | t :: ts, e, v :: vs => by simp [setEach, setEach_length ts]
theorem setEach_get {α : Type} : ∀ (ts : List Nat) (e vs : List α) (t : Nat) (v : α), ts.length ≤ vs.length → (setEach e ts vs)[t]? = some v → (∃ j : Nat, ts[j]? = some t ∧ vs[j]? = some v) ∨ (t ∉ ts ∧ e[t]? = some v)
  | [], e, vs, t, v, _, h => by cases vs <;> exact .inr ⟨by simp, by simpa [setEach] using h⟩
  | x :: ts, e, [], t, v, hl, h => by simp at hl
  | x :: ts, e, z :: vs, t, v, hl, h => by
    simp only [setEach] at h
    rcases setEach_get ts (e.set x z) vs t v (by simpa using hl) h with ⟨j, h1, h2⟩ | ⟨h0, h1⟩
    · exact .inl ⟨j + 1, by simpa using h1, by simpa using h2⟩
    · rw [List.getElem?_set] at h1
      split at h1
      · rename_i hx
        subst hx
        split at h1
        · obtain rfl := Option.some.inj h1
          exact .inl ⟨0, rfl, rfl⟩
        · cases h1
      · rename_i hx
        exact .inr ⟨by simp [h0, Ne.symm hx], h1⟩

theorem ext_seen {sh : Sh κ} {d : sh.den} {us : List Value} (h : ext sh s = some d) (hs : Seen E s.env us w s.S F φ) : Reps E F φ (puts sh.env d.1) us ∧ Rel E F φ (putsB sh.blks d.2) w := by
  unfold ext at h
  split at h
  · rename_i x y hx hy
    obtain rfl := Option.some.inj h
    refine ⟨gets_rep _ _ _ _ hx hs.reps, ?_⟩
    obtain ⟨h1, h2⟩ := getsB_own (E := E) (F := F) (φ := φ) (w := w) _ _ _ hy
    exact ⟨hs.rel.frz, fun i b hb => by have := h2 0 (fun i b hb => by rw [Nat.zero_add]; exact hs.rel.blk i b hb) i b hb; rwa [Nat.zero_add] at this, fun i hi => hs.rel.out i (by rw [← h1]; exact hi), hs.rel.inj, hs.rel.apart, hs.rel.lt⟩
  · cases h

/-- What a shape shows of a state. -/
structure Shown (C : Ctx κ) (a : Act) (w : World) (sh : Sh κ) (d : sh.den) (F : Nat → Option Obj) (φ : Nat → Option Pl) : Prop where
  rel : Rel C.E F φ (putsB sh.blks d.2) w
  reps : Reps C.E F φ (puts sh.env d.1) (sh.live.map fun t => a.tmps.getD t undef)
  defers : a.defers = []
  glob : ∀ (g : Nat) (ψ : Nat → Option Pl), Rep C.E F ψ (C.glob g) (.pointer (some ⟨g, 0, none⟩))

theorem shown_of (hE : C.E.Ok) (hg : Good C.E C.glob a w s F φ) {sh : Sh κ} {d : sh.den} (h : ext sh (gc sh.keep sh.live s) = some d) : Shown C a w sh d F (selφ φ (ids sh.keep sh.live s) s.S.length) ∧ Mv w F φ w F (selφ φ (ids sh.keep sh.live s) s.S.length) := by
  obtain ⟨h1, h2⟩ := gc_seen hE hg.rel (m := sh.keep) (live := sh.live) (us := sh.live.map fun t => a.tmps.getD t undef) ⟨by simp, fun j c u hc hu => by
    rw [List.getElem?_map] at hc hu
    cases hj : sh.live[j]? with
    | none => rw [hj] at hc; cases hc
    | some t =>
      rw [hj] at hc hu
      obtain rfl := Option.some.inj hc
      obtain rfl := Option.some.inj hu
      exact env_rep hg t⟩
  obtain ⟨h3, h4⟩ := ext_seen h h1
  exact ⟨⟨h4, h3, hg.defers, hg.glob⟩, h2⟩

theorem Shown.good {sh : Sh κ} {d : sh.den} {N : Nat} (h : Shown C a w sh d F φ) (hN : a.tmps.size = N) : Good C.E C.glob a w (can N sh d) F φ := by
  refine ⟨h.rel, fun t v hv => ?_, ?_, h.defers, fun p hp => by simp [can] at hp, h.glob⟩
  · simp only [can] at hv
    rcases setEach_get _ _ _ _ _ (by rw [h.reps.1]; simp) hv with ⟨j, h5, h6⟩ | ⟨_, h5⟩
    · exact h.reps.2 j v _ h6 (by rw [List.getElem?_map, h5]; rfl)
    · rw [List.getElem?_replicate] at h5
      split at h5
      · obtain rfl := Option.some.inj h5; exact .bot _
      · cases h5
  · simp only [can, setEach_length, List.length_replicate, hN]

/-- The state behind a piece: temporaries that it writes are as its shape shows, all others as they were; blocks that it was given are as it left them, all others as they were. -/
def post (s : St κ) (l : List Nat) (wr : List Nat) (sh : Sh κ) (d : sh.den) : St κ :=
  let n := s.S.length
  let ρ : Nat → Option Nat := fun j => if j < l.length then l[j]? else some (j - l.length + n)
  let bs := (putsB sh.blks d.2).map (Blk.ren ρ)
  if l.isEmpty then { env := setEach (setAll .bot wr s.env) sh.live (renL ρ (puts sh.env d.1)), S := s.S ++ bs, al := [] }
  else
    let k : Nat → Option Nat := fun i => if i < n ∧ l.contains i = false then some i else none
    { env := setEach (setAll .bot wr (renL k s.env)) sh.live (renL ρ (puts sh.env d.1)), S := setEach (s.S.map (Blk.ren k)) l (bs.take l.length) ++ bs.drop l.length, al := [] }

def postφ (φ φ' : Nat → Option Pl) (l : List Nat) (n : Nat) : Nat → Option Pl := fun i =>
  if l.contains i then φ' (l.idxOf i) else if i < n then φ i else φ' (i - n + l.length)

theorem post_good (hE : C.E.Ok) {a' : Act} (hg : Good C.E C.glob a w s F φ) {l wr : List Nat} {sh : Sh κ} {d : sh.den} (hl : l.Nodup) (hln : ∀ i ∈ l, i < s.S.length) (hlb : l.length ≤ sh.blks.length)
    (hs : Shown C a' w' sh d F' φ') (hm : Mv w F (selφ φ l s.S.length) w' F' φ') (hk : KeepT wr a a') (hN : a'.tmps.size = a.tmps.size) : Good C.E C.glob a' w' (post s l wr sh d) F' (postφ φ φ' l s.S.length) ∧ Mv w F φ w' F' (postφ φ φ' l s.S.length) := by
  -- numbers
  let n := s.S.length
  let ρ : Nat → Option Nat := fun j => if j < l.length then l[j]? else some (j - l.length + n)
  let k : Nat → Option Nat := fun i => if i < n ∧ l.contains i = false then some i else none
  have hρ : ∀ i j, ρ i = some j → postφ φ φ' l n j = φ' i := fun i j h => by
    simp only [ρ] at h
    by_cases hi : i < l.length
    · rw [if_pos hi] at h
      have hm : j ∈ l := List.mem_of_getElem? h
      have hidx : l.idxOf j = i := by
        have h1 : l[l.idxOf j]? = some j := by
          rw [List.getElem?_eq_getElem (List.idxOf_lt_length_iff.2 hm), List.getElem_idxOf]
        exact (List.getElem?_inj (List.idxOf_lt_length_iff.2 hm) hl).1 (h1.trans h.symm)
      simp only [postφ, List.contains_iff_mem.2 hm, if_true, hidx]
    · rw [if_neg hi] at h
      obtain rfl := Option.some.inj h
      have hnm : l.contains (i - l.length + n) = false := by
        rw [Bool.eq_false_iff]
        intro hc
        have := hln _ (List.contains_iff_mem.1 hc)
        omega
      simp only [postφ, hnm, Bool.false_eq_true, if_false]
      rw [if_neg (by omega)]
      congr 1
      omega
  have hkφ : ∀ i j, k i = some j → postφ φ φ' l n j = φ i := fun i j h => by
    simp only [k] at h
    split at h
    · rename_i hc
      obtain rfl := Option.some.inj h
      simp only [postφ, hc.2, Bool.false_eq_true, if_false, if_pos hc.1]
    · cases h
  have inv : ∀ {i : Nat} {p : Pl}, postφ φ φ' l n i = some p → (∃ j, l[j]? = some i ∧ φ' j = some p ∧ j < l.length) ∨ (i ∉ l ∧ i < n ∧ φ i = some p) ∨ (i ∉ l ∧ n ≤ i ∧ φ' (i - n + l.length) = some p) := fun {i p} h => by
    simp only [postφ] at h
    split at h
    · rename_i hc
      have hm := List.contains_iff_mem.1 hc
      exact .inl ⟨l.idxOf i, by rw [List.getElem?_eq_getElem (List.idxOf_lt_length_iff.2 hm), List.getElem_idxOf], h, List.idxOf_lt_length_iff.2 hm⟩
    · rename_i hc
      have hnm : i ∉ l := fun hm => hc (List.contains_iff_mem.2 hm)
      split at h
      · rename_i hi; exact .inr (.inl ⟨hnm, hi, h⟩)
      · rename_i hi; exact .inr (.inr ⟨hnm, by omega, h⟩)
  have sel : ∀ {j i : Nat}, l[j]? = some i → selφ φ l n j = φ i := fun {j i} h => by
    simp only [selφ, h, Option.bind_some]
    rw [if_pos (hln i (List.mem_of_getElem? h))]
  -- what is not given stays
  have apartHeld : ∀ {i : Nat} {p : Pl} {g : Nat}, i ∉ l → φ i = some p → p.g = some g → ¬ Held (selφ φ l n) g := fun {i p g} hi h1 h2 => by
    rintro ⟨j, q, h3, h4⟩
    cases hj : l[j]? with
    | none => simp [selφ, hj] at h3
    | some i' =>
      rw [sel hj] at h3
      have := hg.rel.inj i i' p q g h1 h3 h2 h4
      subst this
      exact hi (List.mem_of_getElem? hj)
  have keepHeap : ∀ {i : Nat} {p : Pl} {g : Nat} {ob : Obj}, i ∉ l → φ i = some p → p.g = some g → w.heap[g]? = some ob → w'.heap[g]? = some ob := fun {i p g ob} hi h1 h2 h3 => by
    rw [hm.keep g (hg.rel.lt i p g h1 h2) (apartHeld hi h1 h2)]; exact h3
  -- a new block is none of the kept
  have newNe : ∀ {j : Nat} {q : Pl} {i : Nat} {p : Pl} {g : Nat}, φ' j = some q → q.g = some g → i ∉ l → φ i = some p → p.g = some g → False := fun {j q i p g} h1 h2 hi h3 h4 =>
    apartHeld hi h3 h4 (hm.held g ⟨j, q, h1, h2⟩ (hg.rel.lt i p g h3 h4))
  have hlen : (putsB sh.blks d.2).length = sh.blks.length := by
    have : ∀ (ps : List (BPat κ)) (d : densB ps), (putsB ps d).length = ps.length := by
      intro ps
      induction ps with
      | nil => intro d; rfl
      | cons p ps ih => intro d; simp only [putsB, List.length_cons]; rw [ih d.2]
    exact this _ _
  have idx : ∀ {j i : Nat}, l[j]? = some i → postφ φ φ' l n i = φ' j := fun {j i} h => hρ j i (by
    have hj : j < l.length := (List.getElem?_eq_some_iff.1 h).1
    simp only [ρ, if_pos hj]; exact h)
  -- the blocks, told once for both forms
  have blkOk : ∀ (i : Nat) (b : Blk κ), (setEach (s.S.map (Blk.ren k)) l (((putsB sh.blks d.2).map (Blk.ren ρ)).take l.length) ++ ((putsB sh.blks d.2).map (Blk.ren ρ)).drop l.length)[i]? = some b → OwnB C.E F' (postφ φ φ' l n) w' i b := by
    intro i b hb
    have hn' : (setEach (s.S.map (Blk.ren k)) l (((putsB sh.blks d.2).map (Blk.ren ρ)).take l.length)).length = n := by rw [setEach_length]; simp [n]
    by_cases hi : i < n
    · rw [List.getElem?_append_left (by rw [hn']; exact hi)] at hb
      rcases setEach_get _ _ _ _ _ (by simp [hlen]; omega) hb with ⟨j, h1, h2⟩ | ⟨h1, h2⟩
      · rw [List.getElem?_take] at h2
        split at h2
        · rw [List.getElem?_map] at h2
          obtain ⟨b', hb', rfl⟩ := Option.map_eq_some_iff.1 h2
          exact OwnB.ren hE hρ (idx h1) (hs.rel.blk j b' hb')
        · cases h2
      · rw [List.getElem?_map] at h2
        obtain ⟨b', hb', rfl⟩ := Option.map_eq_some_iff.1 h2
        have hc : l.contains i = false := by
          rw [Bool.eq_false_iff]; intro hc; exact h1 (List.contains_iff_mem.1 hc)
        have e : postφ φ φ' l n i = φ i := hkφ i i (by simp only [k]; rw [if_pos ⟨hi, hc⟩])
        have h0 := (hg.rel.blk i b' hb').mono hm.le
        -- the cells are as they were
        have h0' : OwnB C.E F' φ w' i b' := by
          cases b' with
          | dead => exact h0
          | raw t cs =>
            obtain ⟨p, g, cur, h3, h4, h5, h6, h7⟩ := h0
            exact ⟨p, g, cur, h3, h4, keepHeap h1 h3 h4 h5, h6, h7⟩
          | rows kk xs =>
            obtain ⟨p, h3, h4, hh⟩ := h0
            refine ⟨p, h3, h4, ?_⟩
            rcases hh with hh | ⟨g, cur, h5, h6, h7⟩
            · exact .inl hh
            · exact .inr ⟨g, cur, h5, keepHeap h1 h3 h5 h6, h7⟩
        exact OwnB.ren hE hkφ e h0'
    · rw [List.getElem?_append_right (by rw [hn']; omega), hn', List.getElem?_drop, List.getElem?_map] at hb
      obtain ⟨b', hb', rfl⟩ := Option.map_eq_some_iff.1 hb
      refine OwnB.ren hE hρ ?_ (hs.rel.blk _ b' hb')
      have := hρ (l.length + (i - n)) i (by simp only [ρ]; rw [if_neg (by omega)]; congr 1; omega)
      exact this
  have relOk : ∀ S', S'.length = n + (sh.blks.length - l.length) → (∀ (i : Nat) (b : Blk κ), S'[i]? = some b → OwnB C.E F' (postφ φ φ' l n) w' i b) → Rel C.E F' (postφ φ φ' l n) S' w' := by
    intro S' hS' hb
    refine ⟨hs.rel.frz, hb, fun i hi => ?_, fun i j p q g h1 h2 h3 h4 => ?_, fun i p g h1 h2 => ?_, fun i p g h1 h2 => ?_⟩
    · cases hp : postφ φ φ' l n i with
      | none => rfl
      | some p =>
        rcases inv hp with ⟨j, h1, _, _⟩ | ⟨_, h1, _⟩ | ⟨_, h1, h2⟩
        · have := hln i (List.mem_of_getElem? h1); omega
        · omega
        · rw [hs.rel.out _ (by rw [hlen]; omega)] at h2; cases h2
    · rcases inv h1 with ⟨i', a1, a2, a3⟩ | ⟨a1, a2, a3⟩ | ⟨a1, a2, a3⟩
      · rcases inv h2 with ⟨j', b1, b2, b3⟩ | ⟨b1, b2, b3⟩ | ⟨b1, b2, b3⟩
        · have := hs.rel.inj i' j' p q g a2 b2 h3 h4
          subst this
          exact Option.some.inj (a1.symm.trans b1)
        · exact (newNe a2 h3 b1 b3 h4).elim
        · have := hs.rel.inj i' _ p q g a2 b3 h3 h4; omega
      · rcases inv h2 with ⟨j', b1, b2, b3⟩ | ⟨b1, b2, b3⟩ | ⟨b1, b2, b3⟩
        · exact (newNe b2 h4 a1 a3 h3).elim
        · exact hg.rel.inj i j p q g a3 b3 h3 h4
        · exact (newNe b3 h4 a1 a3 h3).elim
      · rcases inv h2 with ⟨j', b1, b2, b3⟩ | ⟨b1, b2, b3⟩ | ⟨b1, b2, b3⟩
        · have := hs.rel.inj _ j' p q g a3 b2 h3 h4; omega
        · exact (newNe a3 h3 b1 b3 h4).elim
        · have := hs.rel.inj _ _ p q g a3 b3 h3 h4; omega
    · rcases inv h1 with ⟨i', a1, a2, a3⟩ | ⟨a1, a2, a3⟩ | ⟨a1, a2, a3⟩
      · exact hs.rel.apart i' p g a2 h2
      · cases hF : F' g with
        | none => rfl
        | some o =>
          rcases hm.new g o hF (hg.rel.apart i p g a3 h2) with h5 | h5
          · have := hg.rel.lt i p g a3 h2; omega
          · exact (apartHeld a1 a3 h2 h5).elim
      · exact hs.rel.apart _ p g a3 h2
    · rcases inv h1 with ⟨i', a1, a2, a3⟩ | ⟨a1, a2, a3⟩ | ⟨a1, a2, a3⟩
      · exact hs.rel.lt i' p g a2 h2
      · have := hg.rel.lt i p g a3 h2; have := hm.size; omega
      · exact hs.rel.lt _ p g a3 h2
  have renLen : (renL ρ (puts sh.env d.1)).length = sh.live.length := by rw [renL_length, hs.reps.1]; simp
  have envOk : ∀ (e : List (AV κ)), (∀ t v, e[t]? = some v → Rep C.E F' (postφ φ φ' l n) v (a.tmps.getD t undef)) → ∀ (t : Nat) (v : AV κ), (setEach (setAll .bot wr e) sh.live (renL ρ (puts sh.env d.1)))[t]? = some v → Rep C.E F' (postφ φ φ' l n) v (a'.tmps.getD t undef) := by
    intro e he t v hv
    rcases setEach_get _ _ _ _ _ (by rw [renLen]; omega) hv with ⟨j, h1, h2⟩ | ⟨h1, h2⟩
    · rw [renL_get] at h2
      obtain ⟨v0, hv0, rfl⟩ := Option.map_eq_some_iff.1 h2
      exact (hs.reps.2 j v0 _ hv0 (by rw [List.getElem?_map, h1]; rfl)).ren hρ hE
    · by_cases hw : t ∈ wr
      · have : ∀ (l : List Nat) (e : List (AV κ)), t ∈ l → (setAll .bot l e)[t]? = some v → v = .bot := by
          intro l
          induction l with
          | nil => intro e h; simp at h
          | cons x l ih =>
            intro e hx h
            simp only [setAll] at h
            by_cases hxl : t ∈ l
            · exact ih _ hxl h
            · rcases setAll_get l _ t v h with ⟨h3, _⟩ | h3
              · exact absurd h3 hxl
              · have : x = t := by rcases List.mem_cons.1 hx with rfl | h4; rfl; exact absurd h4 hxl
                subst this
                rw [List.getElem?_set] at h3
                simp at h3
                exact h3.2.symm
        rw [this wr e hw h2]; exact .bot _
      · rcases setAll_get wr e t v h2 with ⟨h3, _⟩ | h3
        · exact absurd h3 hw
        · rw [hk t hw]; exact he t v h3
  have mvOk : Mv w F φ w' F' (postφ φ φ' l n) := by
    refine ⟨hm.os, hm.tape, hm.output, hm.size, fun b hb hnh => hm.keep b hb fun ⟨j, q, h1, h2⟩ => hnh ?_, fun b hb hlt => ?_, hm.le, fun b o h1 h2 => ?_⟩
    · cases hj : l[j]? with
      | none => simp [selφ, hj] at h1
      | some i => rw [sel hj] at h1; exact ⟨i, q, h1, h2⟩
    · obtain ⟨i, p, h1, h2⟩ := hb
      have up : Held (selφ φ l n) b → Held φ b := fun ⟨j, q, h3, h4⟩ => by
        cases hj : l[j]? with
        | none => simp [selφ, hj] at h3
        | some i => rw [sel hj] at h3; exact ⟨i, q, h3, h4⟩
      rcases inv h1 with ⟨j, _, h3, _⟩ | ⟨_, _, h3⟩ | ⟨_, _, h3⟩
      · exact up (hm.held b ⟨j, p, h3, h2⟩ hlt)
      · exact ⟨i, p, h3, h2⟩
      · exact up (hm.held b ⟨_, p, h3, h2⟩ hlt)
    · rcases hm.new b o h1 h2 with h3 | ⟨j, q, h3, h4⟩
      · exact .inl h3
      · cases hj : l[j]? with
        | none => simp [selφ, hj] at h3
        | some i => rw [sel hj] at h3; exact .inr ⟨i, q, h3, h4⟩
  refine ⟨?_, mvOk⟩
  unfold post
  simp only
  split
  · rename_i he
    have hl0 : l = [] := by simpa using he
    subst hl0
    refine ⟨relOk _ (by simp [hlen, n]) fun i b hb => ?_, envOk s.env fun t v hv => ?_, by simp [setEach_length, setAll_length, hN, hg.size], hs.defers, fun p hp => by simp at hp, hs.glob⟩
    · by_cases hi : i < n
      · rw [List.getElem?_append_left hi] at hb
        have h0 := (hg.rel.blk i b hb).mono hm.le
        refine h0.keep (by simp [postφ, hi, n]) (fun j p h => ?_) fun p g ob h1 h2 h3 => keepHeap (by simp) h1 h2 h3
        by_cases hj : j < n
        · simp only [postφ, List.contains_nil, Bool.false_eq_true, if_false, if_pos hj]; exact h
        · rw [hg.rel.out j (by omega)] at h; cases h
      · rw [List.getElem?_append_right (by omega), List.getElem?_map] at hb
        obtain ⟨b', hb', rfl⟩ := Option.map_eq_some_iff.1 hb
        refine OwnB.ren hE hρ ?_ (hs.rel.blk _ b' hb')
        simp only [postφ, List.contains_nil, Bool.false_eq_true, if_false, if_neg hi, List.length_nil, Nat.add_zero]
        rfl
    · refine ((hg.env t v hv).mono hm.le).place fun j p h => ?_
      by_cases hj : j < n
      · simp only [postφ, List.contains_nil, Bool.false_eq_true, if_false, if_pos hj]; exact h
      · rw [hg.rel.out j (by omega)] at h; cases h
  · refine ⟨relOk _ (by simp [setEach_length, hlen, n]) blkOk, envOk (renL k s.env) fun t v hv => ?_, by simp [setEach_length, setAll_length, renL_length, hN, hg.size], hs.defers, fun p hp => by simp at hp, hs.glob⟩
    rw [renL_get] at hv
    obtain ⟨v0, hv0, rfl⟩ := Option.map_eq_some_iff.1 hv
    exact ((hg.env t v0 hv0).mono hm.le).ren hkφ hE

def OutT : List (Ex × Sh κ) → Type
  | [] => Empty
  | [x] => x.2.den
  | x :: y :: l => x.2.den ⊕ OutT (y :: l)
/-- Which of two. -/
def onSum {α β γ : Type} (o : α ⊕ β) (f : α → γ) (g : β → γ) : γ := match o with
  | .inl a => f a
  | .inr b => g b
def elimK {β : Type} (s : St κ) (l wr : List Nat) : (outs : List (Ex × Sh κ)) → OutT outs → (Ex → St κ → Option β) → Option β
  | [], o, _ => nomatch o
  | [x], o, K => K x.1 (post s l wr x.2 o)
  | x :: y :: ys, o, K => onSum o (fun d => K x.1 (post s l wr x.2 d)) (fun o => elimK s l wr (y :: ys) o K)
def outAt : (outs : List (Ex × Sh κ)) → OutT outs → Ex × ((sh : Sh κ) × sh.den)
  | [], o => nomatch o
  | [x], o => (x.1, ⟨x.2, o⟩)
  | x :: y :: l, o => match o with
    | .inl d => (x.1, ⟨x.2, d⟩)
    | .inr o => outAt (y :: l) o
def Kout (N : Nat) : (outs : List (Ex × Sh κ)) → Ex → St κ → Option (OutT outs)
  | [], _, _ => none
  | [y], x, s => if x = y.1 ∧ s.env.length = N then ext y.2 (gc y.2.keep y.2.live s) else none
  | y :: z :: l, x, s => if x = y.1 ∧ s.env.length = N then (match ext y.2 (gc y.2.keep y.2.live s) with | some d => some (.inl d) | none => none) else (match Kout N (z :: l) x s with | some o => some (.inr o) | none => none)
theorem elimK_eq {β : Type} {l wr : List Nat} : ∀ (outs : List (Ex × Sh κ)) (o : OutT outs) (K : Ex → St κ → Option β), elimK s l wr outs o K = K (outAt outs o).1 (post s l wr (outAt outs o).2.1 (outAt outs o).2.2)
  | [], o, _ => nomatch o
  | [x], o, K => rfl
  | x :: y :: l, o, K => by
    cases o with
    | inl d => rfl
    | inr o => exact elimK_eq (y :: l) o K
theorem Kout_sound (hE : C.E.Ok) {N : Nat} : ∀ (outs : List (Ex × Sh κ)) (x : Ex) (s : St κ) (o : OutT outs), Kout N outs x s = some o → (outAt outs o).1 = x ∧ s.env.length = N ∧
    ∀ (a : Act) (w : World) (F : Nat → Option Obj) (φ : Nat → Option Pl), Good C.E C.glob a w s F φ → ∃ φ', Shown C a w (outAt outs o).2.1 (outAt outs o).2.2 F φ' ∧ Mv w F φ w F φ'
  | [], _, _, _, h => by simp [Kout] at h
  | [y], x, s, o, h => by
    obtain ⟨hc, h⟩ := ite_some h
    exact ⟨hc.1.symm, hc.2, fun a w F φ hg => ⟨_, shown_of hE hg h⟩⟩
  | y :: z :: l, x, s, o, h => by
    simp only [Kout] at h
    split at h
    · rename_i hc
      split at h
      · rename_i d hd
        obtain rfl := Option.some.inj h
        exact ⟨hc.1.symm, hc.2, fun a w F φ hg => ⟨_, shown_of hE hg hd⟩⟩
      · cases h
    · split at h
      · rename_i o' ho
        obtain rfl := Option.some.inj h
        exact Kout_sound hE (z :: l) x s o' ho
      · cases h

/-- A piece's summary as the reckoner takes it: wr: the temporaries that the piece may write. -/
def lamK (N : Nat) (wr : List Nat) (ins : Sh κ) (outs : List (Ex × Sh κ)) (L : ins.den → Option (OutT outs)) : Lam κ := fun s K =>
  if s.env.length = N ∧ ((ids ins.keep ins.live s).all fun i => decide (i < s.S.length)) = true ∧ (outs.all fun x => decide ((ids ins.keep ins.live s).length ≤ x.2.blks.length)) = true then
    (ext ins (gc ins.keep ins.live s)).bind fun d => (L d).bind fun o => elimK s (ids ins.keep ins.live s) wr outs o K
  else none

/-- What a piece does, from shape to shape. -/
def TrS (C : Ctx κ) (N : Nat) (wr : List Nat) (c : Code) (ins : Sh κ) (d : ins.den) (x : Ex) (sh : Sh κ) (e : sh.den) : Prop :=
  ∀ (a : Act) (w : World) (F : Nat → Option Obj) (φ : Nat → Option Pl), a.tmps.size = N → Shown C a w ins d F φ → ∀ Q : Exit → Act → World → Prop,
    (∀ a' w' F' φ', Shown C a' w' sh e F' φ' → Mv w F φ w' F' φ' → KeepT wr a a' → a'.tmps.size = N → Q x.to a' w') → c.wp C.P Q a w

theorem outAt_mem : ∀ (outs : List (Ex × Sh κ)) (o : OutT outs), ((outAt outs o).1, (outAt outs o).2.1) ∈ outs
  | [], o => nomatch o
  | [x], o => by simp [outAt]
  | x :: y :: l, o => by
    cases o with
    | inl d => simp [outAt]
    | inr o => exact List.mem_cons_of_mem _ (outAt_mem (y :: l) o)

theorem lamK_sound (hE : C.E.Ok) {N : Nat} {wr : List Nat} {ins : Sh κ} {outs : List (Ex × Sh κ)} {L : ins.den → Option (OutT outs)} {c : Code} (hwr : ((writes c).all fun t => wr.contains t) = true) (hrw : (wr.all fun t => (writes c).contains t) = true)
    (h : ∀ (d : ins.den) (o : OutT outs), L d = some o → TrS C N wr c ins d (outAt outs o).1 (outAt outs o).2.1 (outAt outs o).2.2) : LamOk C (lamK N wr ins outs L) c := by
  intro β s K r hr
  obtain ⟨⟨hN, hlt, hlen⟩, hr⟩ := ite_some hr
  obtain ⟨d, h1, h2⟩ := Option.bind_eq_some_iff.1 hr
  obtain ⟨o, h3, h4⟩ := Option.bind_eq_some_iff.1 h2
  rw [elimK_eq] at h4
  refine ⟨_, _, h4, fun a w F φ hg Q hQ => ?_⟩
  obtain ⟨h5, h6⟩ := shown_of hE hg h1
  refine h d o h3 a w F _ (by rw [hg.size]; exact hN) h5 Q fun a' w' F' φ' k1 k2 k3 k4 => ?_
  have hb : (ids ins.keep ins.live s).length ≤ (outAt outs o).2.1.blks.length := by
    have := List.all_eq_true.1 hlen _ (outAt_mem outs o)
    simpa using this
  obtain ⟨k5, k6⟩ := post_good hE hg (l := ids ins.keep ins.live s) (wr := wr) (nub_nodup _) (fun i hi => by simpa using List.all_eq_true.1 hlt i hi) hb k1 k2 k3 (by rw [k4, hg.size, hN])
  exact hQ a' w' F' _ k5 k6 (k3.mono fun t ht => by simpa using List.all_eq_true.1 hrw t ht)

theorem cut_ok (hC : C.Ok) {c : Code} {n : Note} {N : Nat} {wr : List Nat} {ins : Sh κ} {outs : List (Ex × Sh κ)} {L : ins.den → Option (OutT outs)} (hwr : ((writes c).all fun t => wr.contains t) = true) (hrw : (wr.all fun t => (writes c).contains t) = true) (hf : Fits C c n)
    (hL : ∀ d, L d = exec C kindOf c n (can N ins d) (Kout N outs)) : LamOk C (lamK N wr ins outs L) c :=
  lamK_sound hC.enc hwr hrw fun d o ho => by
    rw [hL] at ho
    obtain ⟨x, s', h1, h2⟩ := exec_sound hC hf ho
    obtain ⟨h3, h5, h4⟩ := Kout_sound hC.enc outs x s' o h1
    intro a w F φ hN hs Q hQ
    refine h2 a w F φ (hs.good hN) Q fun a' w' F' φ' k1 k2 k3 => ?_
    obtain ⟨φ2, k4, k5⟩ := h4 a' w' F' φ' k1
    have := hQ a' w' F' φ2 k4 (k2.trans k5) (k3.mono fun t ht => by simpa using List.all_eq_true.1 hwr t ht) (by rw [k1.size]; exact h5)
    rwa [h3] at this

def Kloop {ins : Sh κ} (N : Nat) (outs : List (Ex × Sh κ)) (L : ins.den → Option (OutT outs)) : Ex → St κ → Option (OutT outs)
  | .normal, s => if s.env.length = N then (ext ins (gc ins.keep ins.live s)).bind L else none
  | x, s => Kout N outs x s

theorem loop_ok (hC : C.Ok) {c : Code} {n : Note} {N : Nat} {wr : List Nat} {ins : Sh κ} {outs : List (Ex × Sh κ)} {L : Nat → ins.den → Option (OutT outs)} (hwr : ((writes c).all fun t => wr.contains t) = true) (hrw : (wr.all fun t => (writes c).contains t) = true) (hf : Fits C c n) (h0 : ∀ d, L 0 d = none)
    (hL : ∀ k d, L (k + 1) d = exec C kindOf c n (can N ins d) (Kloop N outs (L k))) (k : Nat) : LamOk C (lamK N wr ins outs (L k)) (.loop c) := by
  have hwr' : ∀ {a b : Act}, KeepT (writes c) a b → KeepT wr a b := fun h => h.mono fun t ht => by simpa using List.all_eq_true.1 hwr t ht
  refine lamK_sound hC.enc hwr hrw fun d o ho a w F φ hN hs Q hQ => wp_loop_rounds k ?_
  have key : ∀ (k : Nat) (d : ins.den), L k d = some o → ∀ (a : Act) (w : World) (F : Nat → Option Obj) (φ : Nat → Option Pl), a.tmps.size = N → Shown C a w ins d F φ →
      (∀ a' w' F' φ', Shown C a' w' (outAt outs o).2.1 (outAt outs o).2.2 F' φ' → Mv w F φ w' F' φ' → KeepT wr a a' → a'.tmps.size = N → Q (outAt outs o).1.to a' w') → Code.rounds C.P c Q k a w := by
    intro k
    induction k with
    | zero => intro d hd; rw [h0] at hd; cases hd
    | succ k ih =>
      intro d hd a w F φ hN hs hQ
      rw [hL] at hd
      obtain ⟨x, s', h1, h2⟩ := exec_sound hC hf hd
      rw [rounds_succ]
      have leave : ∀ (hx : x ≠ .normal), Kout N outs x s' = some o → c.wp C.P (Exit.then (Code.rounds C.P c Q k) Q) a w := fun hx h1 => by
        obtain ⟨h3, h5, h4⟩ := Kout_sound hC.enc outs x s' o h1
        refine h2 a w F φ (hs.good hN) _ fun a' w' F' φ' k1 k2 k3 => ?_
        obtain ⟨φ2, k4, k5⟩ := h4 a' w' F' φ' k1
        have := hQ a' w' F' φ2 k4 (k2.trans k5) (hwr' k3) (by rw [k1.size]; exact h5)
        rw [h3] at this
        cases x with
        | normal => exact absurd rfl hx
        | exit i => exact this
        | ret => exact this
      cases x with
      | normal =>
        obtain ⟨hN', h1⟩ := ite_some h1
        obtain ⟨d', h3, h4⟩ := Option.bind_eq_some_iff.1 h1
        refine h2 a w F φ (hs.good hN) _ fun a' w' F' φ' k1 k2 k3 => ?_
        obtain ⟨k4, k5⟩ := shown_of hC.enc k1 h3
        exact ih d' h4 a' w' F' _ (by rw [k1.size]; exact hN') k4 fun a2 w2 F2 φ3 k6 k7 k8 k9 => hQ a2 w2 F2 φ3 k6 ((k2.trans k5).trans k7) ((hwr' k3).trans k8) k9
      | exit i => exact leave (by simp) h1
      | ret => exact leave (by simp) h1
  exact key k d ho a w F φ hN hs hQ
end
end Go.Am
