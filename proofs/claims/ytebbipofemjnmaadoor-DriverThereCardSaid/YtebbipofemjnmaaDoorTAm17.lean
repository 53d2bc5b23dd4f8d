/- Tables of callees and pieces; where the notes stand. -/
import Derived.Test.YtebbipofemjnmaaDoorTAm16z
import Derived.Test.YtebbipofemjnmaaDoorTAm19
import Derived.KernelRfl
namespace Go.Am
noncomputable section
open Go.RowKit
variable {κ : Kinds} {E : Encs κ} {P : Program} {C : Ctx κ}

theorem tab_any {F : Nat → Option Obj} {φ φ' : Nat → Option Pl} {k : κ.Kc} {xs : List (κ.ty k)} {u : Value} (hE : E.Ok) (h : Rep E F φ (.tab k xs) u) : Rep E F φ' (.tab k xs) u := refs_free hE h rfl
structure EntS (κ : Kinds) where
  fid : FuncId
  key : List Nat
  run : Ent κ
structure QEntS (κ : Kinds) where
  fid : FuncId
  run : QEnt κ
structure LamS (κ : Kinds) where
  run : Lam κ
/-- The functions among some arguments. -/
def fnsOf : List (AV κ) → List Nat
  | [] => []
  | .fn f _ :: cs => f :: fnsOf cs
  | _ :: cs => fnsOf cs
def lookE (l : List (EntS κ)) (fid : FuncId) : Ent κ := fun args S K => match l.find? fun e => e.fid == fid && e.key == fnsOf args with
  | some e => e.run args S K
  | none => none
def lookQ (l : List (QEntS κ)) (fid : FuncId) : QEnt κ := fun args S K => match l.find? fun e => e.fid == fid with
  | some e => e.run args S K
  | none => none
def lookL (l : List (LamS κ)) (i : Nat) : Lam κ := fun s K => match l[i]? with
  | some e => e.run s K
  | none => none

def AllE (P : Program) (E : Encs κ) (G : Nat → AV κ) : List (EntS κ) → Prop
  | [] => True
  | e :: l => EntOk P E G e.fid e.run ∧ AllE P E G l
def AllQ (P : Program) (E : Encs κ) (G : Nat → AV κ) : List (QEntS κ) → Prop
  | [] => True
  | e :: l => QEntOk P E G e.fid e.run ∧ AllQ P E G l
theorem AllE.mem {G : Nat → AV κ} : ∀ {l : List (EntS κ)}, AllE P E G l → ∀ e ∈ l, EntOk P E G e.fid e.run
  | [], _, e, h => by simp at h
  | x :: l, ⟨h1, h2⟩, e, h => by
    rcases List.mem_cons.1 h with rfl | h
    · exact h1
    · exact AllE.mem h2 e h
theorem AllQ.mem {G : Nat → AV κ} : ∀ {l : List (QEntS κ)}, AllQ P E G l → ∀ e ∈ l, QEntOk P E G e.fid e.run
  | [], _, e, h => by simp at h
  | x :: l, ⟨h1, h2⟩, e, h => by
    rcases List.mem_cons.1 h with rfl | h
    · exact h1
    · exact AllQ.mem h2 e h
theorem lookE_ok {G : Nat → AV κ} {l : List (EntS κ)} (h : AllE P E G l) (fid : FuncId) : EntOk P E G fid (lookE l fid) := by
  intro β args S K r hr
  simp only [lookE] at hr
  split at hr
  · rename_i e he
    have hf : e.fid = fid := by have := List.find?_some he; simp at this; exact this.1
    subst hf
    exact AllE.mem h e (List.mem_of_find?_eq_some he) β args S K r hr
  · cases hr
theorem lookQ_ok {G : Nat → AV κ} {l : List (QEntS κ)} (h : AllQ P E G l) (fid : FuncId) : QEntOk P E G fid (lookQ l fid) := by
  intro β args S K r hr
  simp only [lookQ] at hr
  split at hr
  · rename_i e he
    have hf : e.fid = fid := by simpa using List.find?_some he
    subst hf
    exact AllQ.mem h e (List.mem_of_find?_eq_some he) β args S K r hr
  · cases hr

/-- A piece of code by its path. -/
def sub : List Nat → Code → Code
  | [], c => c
  | 0 :: p, .seq a _ => sub p a
  | _ :: p, .seq _ b => sub p b
  | 0 :: p, .cond _ a _ => sub p a
  | _ :: p, .cond _ _ b => sub p b
  | _ :: p, .block _ c => sub p c
  | _ :: p, .loop c => sub p c
  | _, c => c

/-- The pieces that the notes name, by their numbers. -/
def obl : Code → Note → List (Nat × Code)
  | .seq a b, n => match n with | .cut id => [(id, .seq a b)] | n => obl a n.l ++ obl b n.r
  | .cond c a b, n => match n with | .cut id => [(id, .cond c a b)] | n => obl a n.l ++ obl b n.r
  | .block id c, n => match n with | .cut i => [(i, .block id c)] | n => obl c n.l
  | c, n => match n with | .cut id => [(id, c)] | _ => []
def AllL (C : Ctx κ) : List (Nat × Code) → Prop
  | [] => True
  | p :: l => LamOk C (C.Λ p.1) p.2 ∧ AllL C l
theorem AllL.append : ∀ {l m : List (Nat × Code)}, AllL C (l ++ m) → AllL C l ∧ AllL C m
  | [], _, h => ⟨trivial, h⟩
  | _ :: _, _, ⟨h1, h2⟩ => ⟨⟨h1, (AllL.append h2).1⟩, (AllL.append h2).2⟩
theorem fits_of {c : Code} {n : Note} {l : List (Nat × Code)} (h : obl c n = l) (hl : AllL C l) : Fits C c n := by
  subst h
  induction c generalizing n with
  | seq a b iha ihb =>
    cases n with
    | cut id => exact hl.1
    | _ => exact ⟨iha (AllL.append hl).1, ihb (AllL.append hl).2⟩
  | cond c a b iha ihb =>
    cases n with
    | cut id => exact hl.1
    | _ => exact ⟨iha (AllL.append hl).1, ihb (AllL.append hl).2⟩
  | block id c ih =>
    cases n with
    | cut i => exact hl.1
    | _ => exact ih hl
  | _ => cases n <;> first | exact hl.1 | trivial

/-! ### Kinds of elements by their patterns -/
def Pat.isFlat : Pat κ → Bool
  | .int _ | .bool | .str | .ro _ => true
  | _ => false
structure KindData (κ : Kinds) where
  pats : κ.Kc → List (Pat κ)
  to : (k : κ.Kc) → dens (pats k) → κ.ty k
  of : (k : κ.Kc) → κ.ty k → dens (pats k)
  dflt : (k : κ.Kc) → κ.ty k
  byte : (k : κ.Kc) → Option (κ.ty k → Int)
def KindData.encs (D : KindData κ) : Encs κ where
  enc k x := puts (D.pats k) (D.of k x)
  dec k cs := match gets (D.pats k) cs with
    | some d => some (D.to k d)
    | none => none
  dflt := D.dflt
  byte := D.byte
theorem ro_eq {k k' : κ.Kc} {xs : List (κ.ty k')} {d : List (κ.ty k)} (h : (if h : k' = k then some (h ▸ xs) else none : Option (List (κ.ty k))) = some d) : AV.ro k d = AV.ro k' xs := by
  split at h
  · rename_i hk
    subst hk
    obtain rfl := Option.some.inj h
    rfl
  · cases h
theorem get_put {p : Pat κ} {v : AV κ} {d : p.den} (hp : p.isFlat = true) (h : p.get v = some d) : p.put d = v := by
  cases p with
  | int k =>
    unfold Pat.get at h
    split at h
    · obtain ⟨rfl, h⟩ := ite_some h
      obtain rfl := Option.some.inj h
      rfl
    · cases h
  | bool =>
    unfold Pat.get at h
    split at h
    · obtain rfl := Option.some.inj h; rfl
    · cases h
  | str =>
    unfold Pat.get at h
    split at h
    · obtain rfl := Option.some.inj h; rfl
    · cases h
  | ro k =>
    unfold Pat.get at h
    split at h
    · exact ro_eq h
    · cases h
  | _ => cases hp
theorem gets_puts : ∀ {ps : List (Pat κ)} {cs : List (AV κ)} {d : dens ps}, ps.all Pat.isFlat = true → gets ps cs = some d → puts ps d = cs
  | [], cs, d, _, h => by
    unfold gets at h
    split at h
    · rfl
    · cases h
  | p :: ps, cs, d, hp, h => by
    simp only [List.all_cons, Bool.and_eq_true] at hp
    unfold gets at h
    split at h
    · split at h
      · rename_i x y hx hy
        obtain rfl := Option.some.inj h
        show p.put x :: puts ps y = _
        rw [get_put hp.1 hx, gets_puts hp.2 hy]
      · cases h
    · cases h
theorem puts_length : ∀ (ps : List (Pat κ)) (d : dens ps), (puts ps d).length = ps.length
  | [], _ => rfl
  | p :: ps, d => by show (puts ps d.2).length + 1 = _; rw [puts_length ps d.2]; rfl
theorem put_flat {p : Pat κ} (d : p.den) (hp : p.isFlat = true) : (p.put d).flat = true := by
  cases p <;> first | rfl | cases hp
theorem puts_flat : ∀ {ps : List (Pat κ)} {d : dens ps}, ps.all Pat.isFlat = true → ∀ c ∈ puts ps d, c.flat = true
  | [], _, _, c, h => by cases h
  | p :: ps, d, hp, c, h => by
    simp only [List.all_cons, Bool.and_eq_true] at hp
    rcases List.mem_cons.1 (show c ∈ p.put d.1 :: puts ps d.2 from h) with rfl | h
    · exact put_flat d.1 hp.1
    · exact puts_flat hp.2 c h
theorem KindData.ok (D : KindData κ) (h1 : ∀ k d, D.of k (D.to k d) = d) (h2 : ∀ k, (D.pats k).length = κ.sz k) (h3 : ∀ k, (D.pats k).all Pat.isFlat = true) (h4 : ∀ k, 0 < κ.sz k) (h5 : ∀ k f x, D.byte k = some f → puts (D.pats k) (D.of k x) = [.val (.int .u8 (f x))]) : D.encs.Ok where
  len k x := by show (puts _ _).length = _; rw [puts_length, h2]
  put k cs x h := by
    show puts _ _ = _
    simp only [KindData.encs] at h
    split at h
    · rename_i d hd
      obtain rfl := Option.some.inj h
      rw [h1]
      exact gets_puts (h3 k) hd
    · cases h
  flat k x c hc := puts_flat (h3 k) c hc
  pos := h4
  byte := h5
theorem fit_of {k : κ.Kc} (h : (match P.info? (κ.elem k) with
    | some i => i.size == κ.sz k && i.bytes == κ.bytes k && (match i.zero with | some z => z.cells.size == κ.sz k | none => false) && decide (0 < κ.sz k) && decide (0 < κ.bytes k)
    | none => false) = true) : Fit P k := by
  split at h
  · rename_i i hi
    simp only [Bool.and_eq_true, beq_iff_eq, decide_eq_true_eq] at h
    obtain ⟨⟨⟨⟨h1, h2⟩, h3⟩, h4⟩, h5⟩ := h
    split at h3
    · rename_i z hz
      exact ⟨i, z, hi, h1, h2, hz, by simpa using h3, h4, h5⟩
    · cases h3
  · cases h

theorem callable_of {fid : FuncId} {fn : Func} (h : P.funcs[fid]? = some fn) (hn : (fn.name == "runtime.NumGoroutine") = false) (hb : fn.body.isNone = false) (us : Array Value) (w : World) : (callFunc fid us).run P w = .ok (.enter fid us) w := by
  unfold callFunc
  simp only [Sem.run_bind, run_program, Result.andThen_ok, h, hn, hb]
  rfl
def AllB (E : Encs κ) : List (BPat κ) → Prop
  | [] => True
  | b :: bs => b.NoRo E ∧ AllB E bs
theorem AllB.mem : ∀ {bs : List (BPat κ)}, AllB E bs → ∀ b ∈ bs, b.NoRo E
  | [], _, b, h => by simp at h
  | x :: bs, ⟨h1, h2⟩, b, h => by
    rcases List.mem_cons.1 h with rfl | h
    · exact h1
    · exact AllB.mem h2 b h
theorem noRo_puts : ∀ {ps : List (Pat κ)} {d : dens ps} {c : AV κ}, ps.all Pat.noRo = true → c ∈ puts ps d → c.noRo = true
  | [], d, c, _, h => by cases h
  | p :: ps, d, c, hp, h => by
    simp only [List.all_cons, Bool.and_eq_true] at hp
    rcases List.mem_cons.1 (show c ∈ p.put d.1 :: puts ps d.2 from h) with rfl | h
    · exact put_noRo p d.1 hp.1
    · exact noRo_puts hp.2 h
theorem KindData.plain (D : KindData κ) {k : κ.Kc} (h : (D.pats k).all Pat.noRo = true) : Plain D.encs k := fun x _ hc => noRo_puts h hc
theorem ent_free (hE : E.Ok) {G : Nat → AV κ} {fid : FuncId} {ins : List (Pat κ)} {p : Pat κ} {bs : List (BPat κ)} {f : dens ins → Option (p.den × densB bs)}
    (henter : ∀ (us : Array Value) (w : World), (callFunc fid us).run P w = .ok (.enter fid us) w) (hp : p.noRo = true) (hb : AllB E bs) (h : CallV P E G fid ins p bs f) : EntOk P E G fid (entOf ins p bs true f E) :=
  ent_ok hE henter (fun _ => ⟨hp, hb.mem⟩) h
theorem ent_bound (hE : E.Ok) {G : Nat → AV κ} {fid : FuncId} {ins : List (Pat κ)} {p : Pat κ} {bs : List (BPat κ)} {f : dens ins → Option (p.den × densB bs)}
    (henter : ∀ (us : Array Value) (w : World), (callFunc fid us).run P w = .ok (.enter fid us) w) (h : CallV P E G fid ins p bs f) : EntOk P E G fid (entOf ins p bs false f E) :=
  ent_ok hE henter (fun h => by cases h) h
end
end Go.Am
