/- What an argument reads as, as values of the machine: for every kind, by its parts. -/
import Derived.Test.YtdgempbldhdihaaDoorVAmC
import Derived.ChangeArms
import Derived.DataReads
import Derived.Deep.Slices
import Derived.SizedLaws
import Derived.WideShapes
namespace Go.Am
noncomputable section
open Go.RowKit Go.Deep
variable {κ : Kinds} {E : Encs κ} {P : Program}

/-- Whatever reads as data at the type t, within the reach, is shown by these patterns, and ok. -/
structure Fits' (P : Program) (E : Encs κ) (t : TypeId) (ps : List (Pat κ)) (ok : dens ps → Prop) : Prop where
  out : ∀ {H : Type} (enc : TypeId × Value → H) (W : World) (base : Nat) (sp : Nat → Bool) (held : Bool) (fuel : Nat) (cs : List Value) (y : DataW H × List MemPlace),
    DataW.trod enc P W base sp held fuel t cs = some y → (∀ n ∈ y.1.weights P t, n ≤ reachBytes) → ∃ x : dens ps, Reps E (allOf W) noPl (puts ps x) cs ∧ ok x

theorem fits_int {t : TypeId} {k : IntKind} (ht : P.underlying t = some (.int k)) : Fits' P E t [.int k] (fun x => (Lit.int k x.1).wf = true) := by
  refine ⟨?_⟩
  intro H enc W base sp held fuel cs y h _
  obtain ⟨n, rfl, _, hw⟩ := DataW.trod_int ht h
  exact ⟨(n, ()), Reps.cons (.val _) Reps.nil, hw⟩
theorem fits_bool {t : TypeId} (ht : P.underlying t = some .bool) : Fits' P E t [.bool] (fun _ => True) := by
  refine ⟨?_⟩
  intro H enc W base sp held fuel cs y h _
  obtain ⟨n, rfl, _⟩ := DataW.trod_bool ht h
  exact ⟨(n, ()), Reps.cons (.val _) Reps.nil, trivial⟩
theorem fits_string {t : TypeId} (ht : P.underlying t = some .string) : Fits' P E t [.str] (fun x => x.1.size ≤ 140737488351232) := by
  refine ⟨?_⟩
  intro H enc W base sp held fuel cs y h hw
  obtain ⟨s, rfl, rfl, _⟩ := DataW.trod_string ht h
  refine ⟨(s, ()), Reps.cons (.val _) Reps.nil, ?_⟩
  have h2 : s.data.toList.length ≤ reachBytes := hw s.data.toList.length (by simp [DataW.weights])
  exact h2

theorem weights_all_mem {H : Type} {e : TypeId} : ∀ {l : List (DataW H)} {d : DataW H} {n : Nat}, d ∈ l → n ∈ d.weights P e → n ∈ DataW.weightsAll P e l
  | a :: l, d, n, hd, hn => by
    rw [DataW.weightsAll, List.mem_append]
    rcases List.mem_cons.1 hd with rfl | hd
    · exact .inl hn
    · exact .inr (weights_all_mem hd hn)

theorem choose_lt' {α : Type} (d : α) : ∀ {n : Nat} {p : Nat → α → Prop}, (∀ i, i < n → ∃ x, p i x) → ∃ f : Nat → α, ∀ i, i < n → p i (f i) := by
  intro n p h
  refine ⟨fun i => if hi : i < n then Classical.choose (h i hi) else d, fun i hi => ?_⟩
  simp only [hi, dif_pos]
  exact Classical.choose_spec (h i hi)

abbrev roL {k : κ.Kc} (x : dens [Pat.ro (κ := κ) k]) : List (κ.ty k) := x.1
theorem fits_slice (D : KindData κ) {k : κ.Kc} {t e : TypeId} {ok : dens (D.pats k) → Prop} (hE : D.encs.Ok) (ht : P.underlying t = some (.slice e)) (he : Fits' P D.encs e (D.pats k) ok) (hc : P.cellsOf e = κ.sz k) {B : Nat} (hB : P.bytesOf e = B) (hto : ∀ d, D.of k (D.to k d) = d) :
    Fits' P D.encs t [.ro k] (fun x => (roL x).length * B ≤ 140737488351232 ∧ ∀ y ∈ roL x, ok (D.of k y)) := by
  refine ⟨?_⟩
  intro H enc W base sp held fuel cs y h hw
  rcases open_slice ht h with ⟨rfl, rfl⟩ | ⟨a, len, cap, m, n, Dt, Pl, rfl, hb, hl, hm, hmm, rfl, hx⟩
  · exact ⟨([], ()), Reps.cons (.roNil k) Reps.nil, by simp [roL], fun x hx => by simp [roL] at hx⟩
  · have hle : len ≤ m := by rw [hmm]; split <;> omega
    have hwt : ∀ n' ∈ ((len + (m - len)) * B :: (DataW.weightsAll P e ((List.range len).map Dt) ++ DataW.weightsAll P e ((List.range (m - len)).map fun j => Dt (len + j)))), n' ≤ reachBytes := by
      intro n' hn'
      refine hw n' ?_
      simp only [DataW.weights, ht]
      rw [hB]
      simpa using hn'
    have hall : ∀ i, i < len → ∃ x : dens (D.pats k) × List Value, x.2.length = κ.sz k ∧ Reps D.encs (allOf W) noPl (puts (D.pats k) x.1) x.2 ∧ ok x.1 ∧ ∀ j u, x.2[j]? = some u → W.cell? (a.add (i * κ.sz k + j)) = some u := by
      intro i hi
      obtain ⟨cs', h1, h2⟩ := hx i (by omega)
      obtain ⟨_, hlen, hcell⟩ := World.cells?_some h1
      obtain ⟨x, hK, hok⟩ := he.out enc W base sp held n cs' _ h2 (fun n' hn' => hwt n' (List.mem_cons_of_mem _ (List.mem_append_left _ (weights_all_mem (List.mem_map.2 ⟨i, List.mem_range.2 hi, rfl⟩) hn'))))
      refine ⟨(x, cs'), by rw [hlen, hc], hK, hok, fun j u hu => ?_⟩
      have hj : j < P.cellsOf e := by
        rw [← hlen]
        exact (List.getElem?_eq_some_iff.1 hu).1
      have := hcell j hj
      rw [hu] at this
      rw [← this, hc, Deep.add_add]
    by_cases h0 : len = 0
    · subst h0
      exact ⟨([], ()), Reps.cons (.roEmp k a cap) Reps.nil, by simp [roL], fun x hx => by simp [roL] at hx⟩
    · have hne : Nonempty (dens (D.pats k) × List Value) := ⟨Classical.choose (hall 0 (by omega))⟩
      obtain ⟨f, hf⟩ := choose_lt' (Classical.choice hne) hall
      obtain ⟨b, off, spot⟩ := a
      have hspot : spot = none := by
        obtain ⟨h1, _, _, h4⟩ := hf 0 (by omega)
        have hp := hE.pos k
        have hlt : 0 < (f 0).2.length := by omega
        have := h4 0 _ (List.getElem?_eq_getElem hlt)
        simpa [Addr.add] using World.cell?_spot this
      subst hspot
      have hrep : Rep D.encs (allOf W) noPl (.ro k ((List.range len).map fun i => D.to k (f i).1)) (.slice (some ⟨b, off, none⟩) ((List.range len).map fun i => D.to k (f i).1).length cap) := by
        refine .ro k _ b off cap (fun r j => (f r).2.getD j undef) (by simpa using hl) (fun r j hr hj => ?_) (fun r x j c hx hj => ?_)
        · simp only [List.length_map, List.length_range] at hr
          obtain ⟨h1, _, _, h4⟩ := hf r hr
          have hlt : j < (f r).2.length := by omega
          have := h4 j _ (List.getElem?_eq_getElem hlt)
          rw [Addr.add_lit] at this
          rw [List.getD_eq_getElem?_getD, List.getElem?_eq_getElem hlt]
          exact fcell_all this
        · rw [List.getElem?_map] at hx
          obtain ⟨i, hi, rfl⟩ := Option.map_eq_some_iff.1 hx
          have hr : r < len := by have := (List.getElem?_eq_some_iff.1 hi).1; simpa using this
          rw [List.getElem?_range hr] at hi
          obtain rfl := Option.some.inj hi
          obtain ⟨h1, h2, _, _⟩ := hf r hr
          have hj' : (puts (D.pats k) (f r).1)[j]? = some c := by
            have : D.encs.enc k (D.to k (f r).1) = puts (D.pats k) (f r).1 := by show puts _ (D.of k (D.to k (f r).1)) = _; rw [hto]
            rwa [this] at hj
          have hlt : j < (f r).2.length := by rw [← h2.1]; exact (List.getElem?_eq_some_iff.1 hj').1
          rw [List.getD_eq_getElem?_getD, List.getElem?_eq_getElem hlt]
          exact h2.2 j c _ hj' (List.getElem?_eq_getElem hlt)
      refine ⟨((List.range len).map fun i => D.to k (f i).1, ()), Reps.cons (by rw [List.length_map, List.length_range] at hrep; exact hrep) Reps.nil, ?_, ?_⟩
      · have := hwt _ List.mem_cons_self
        show ((List.range len).map fun i => D.to k (f i).1).length * B ≤ _
        rw [List.length_map, List.length_range]
        exact Nat.le_trans (Nat.mul_le_mul_right _ (Nat.le_add_right len (m - len))) this
      · intro x hx
        obtain ⟨i, hi, rfl⟩ := List.mem_map.1 (show x ∈ (List.range len).map fun i => D.to k (f i).1 from hx)
        obtain ⟨_, _, hok, _⟩ := hf i (List.mem_range.1 hi)
        rw [hto]
        exact hok

/-- The fields of a struct from the offset o on. -/
structure FitsF (P : Program) (E : Encs κ) (fs : List Field) (o : Nat) (ps : List (Pat κ)) (ok : dens ps → Prop) : Prop where
  out : ∀ {H : Type} (enc : TypeId × Value → H) (W : World) (base : Nat) (sp : Nat → Bool) (held : Bool) (n : Nat) (cs : List Value) (ys : List (DataW H × List MemPlace)),
    cs.length = o + ps.length → ys.length = fs.length → (∀ (i : Nat) (f : Field), fs[i]? = some f → DataW.trod enc P W base sp held n f.type ((cs.drop f.offset).take (P.cellsOf f.type)) = ys[i]?) →
    (∀ m ∈ DataW.weightsEach P (fs.map (·.type)) (ys.map (·.1)), m ≤ reachBytes) → ∃ x, Reps E (allOf W) noPl (puts ps x) (cs.drop o) ∧ ok x

def appD : (ps qs : List (Pat κ)) → dens ps → dens qs → dens (ps ++ qs)
  | [], _, _, y => y
  | _ :: ps, qs, x, y => (x.1, appD ps qs x.2 y)
theorem puts_app : ∀ (ps qs : List (Pat κ)) (x : dens ps) (y : dens qs), puts (ps ++ qs) (appD ps qs x y) = puts ps x ++ puts qs y
  | [], _, _, _ => rfl
  | p :: ps, qs, x, y => by show p.put x.1 :: puts (ps ++ qs) (appD ps qs x.2 y) = _; rw [puts_app ps qs x.2 y]; rfl
def fstD : (ps qs : List (Pat κ)) → dens (ps ++ qs) → dens ps
  | [], _, _ => ()
  | _ :: ps, qs, x => (x.1, fstD ps qs x.2)
def sndD : (ps qs : List (Pat κ)) → dens (ps ++ qs) → dens qs
  | [], _, x => x
  | _ :: ps, qs, x => sndD ps qs x.2
theorem fst_app : ∀ (ps qs : List (Pat κ)) (x : dens ps) (y : dens qs), fstD ps qs (appD ps qs x y) = x
  | [], _, _, _ => rfl
  | p :: ps, qs, x, y => by show (x.1, fstD ps qs (appD ps qs x.2 y)) = x; rw [fst_app ps qs x.2 y]; rfl
theorem snd_app : ∀ (ps qs : List (Pat κ)) (x : dens ps) (y : dens qs), sndD ps qs (appD ps qs x y) = y
  | [], _, _, _ => rfl
  | p :: ps, qs, x, y => by show sndD ps qs (appD ps qs x.2 y) = y; exact snd_app ps qs x.2 y
theorem Reps.app {F : Nat → Option Obj} {φ : Nat → Option Pl} : ∀ {cs ds : List (AV κ)} {us vs : List Value}, Reps E F φ cs us → Reps E F φ ds vs → Reps E F φ (cs ++ ds) (us ++ vs)
  | [], ds, us, vs, h, k => by obtain rfl := h.nil_inv; exact k
  | c :: cs, ds, us, vs, h, k => by
    obtain ⟨u, us', rfl, h1, h2⟩ := h.cons_inv
    exact Reps.cons h1 (Reps.app h2 k)
theorem fitsF_nil {o : Nat} : FitsF P E [] o [] (fun _ => True) := by
  refine ⟨?_⟩
  intro H enc W base sp held n cs ys hl hy ht hw
  refine ⟨(), ?_, trivial⟩
  rw [List.drop_eq_nil_of_le (by simpa using Nat.le_of_eq hl)]
  exact Reps.nil
theorem fitsF_cons {f : Field} {fs : List Field} {o : Nat} {ps qs : List (Pat κ)} {oka : dens ps → Prop} {okb : dens qs → Prop} (ho : f.offset = o) (hf : Fits' P E f.type ps oka) (hc : P.cellsOf f.type = ps.length)
    (hr : FitsF P E fs (o + ps.length) qs okb) : FitsF P E (f :: fs) o (ps ++ qs) (fun x => oka (fstD ps qs x) ∧ okb (sndD ps qs x)) := by
  refine ⟨?_⟩
  intro H enc W base sp held n cs ys hl hy ht hw
  match ys, hy with
  | y :: ys, hy =>
    have h := ht 0 f rfl
    rw [ho, hc] at h
    obtain ⟨x0, hK0, h0⟩ := hf.out enc W base sp held n _ y (by simpa using h) (fun m hm => hw m (by
      simp only [List.map_cons, DataW.weightsEach, List.mem_append]
      exact .inl hm))
    have hl' : cs.length = o + (ps.length + qs.length) := by simpa using hl
    obtain ⟨x1, hK1, h1⟩ := hr.out enc W base sp held n cs ys (by rw [hl']; omega) (by simpa using hy) (fun i f' hi => by simpa using ht (i + 1) f' (by simpa using hi)) (fun m hm => hw m (by
      simp only [List.map_cons, DataW.weightsEach, List.mem_append]
      exact .inr hm))
    refine ⟨appD ps qs x0 x1, ?_, by rw [fst_app]; exact h0, by rw [snd_app]; exact h1⟩
    rw [puts_app]
    have e : cs.drop o = (cs.drop o).take ps.length ++ cs.drop (o + ps.length) := by rw [← List.drop_drop, List.take_append_drop]
    rw [e]
    exact Reps.app hK0 hK1
theorem fits_struct {t : TypeId} {fs : Array Field} {ps : List (Pat κ)} {ok : dens ps → Prop} (ht : P.underlying t = some (.struct fs)) (hc : P.cellsOf t = ps.length) (hf : FitsF P E fs.toList 0 ps ok) : Fits' P E t ps ok := by
  refine ⟨?_⟩
  intro H enc W base sp held fuel cs y h hw
  obtain ⟨xs, n, rfl, rfl, hlen, hxs, hel⟩ := DataW.trod_struct ht h
  obtain ⟨x, hK, hok⟩ := hf.out enc W base sp held n cs xs (by rw [hlen, hc]; omega) (by simpa using hxs) (fun i f hi => hel i f (by simpa using hi)) (fun m hm => hw m (by simpa [DataW.weights, ht] using hm))
  exact ⟨x, by simpa using hK, hok⟩
theorem fits_imp {t : TypeId} {ps : List (Pat κ)} {ok ok' : dens ps → Prop} (h : Fits' P E t ps ok) (hi : ∀ x, ok x → ok' x) : Fits' P E t ps ok' := by
  refine ⟨?_⟩
  intro H enc W base sp held fuel cs y h1 h2
  obtain ⟨x, hK, hok⟩ := h.out enc W base sp held fuel cs y h1 h2
  exact ⟨x, hK, hi x hok⟩

/-- Of an argument: its place in the list of all, its reading. -/
theorem fits_arg {H : Type} {enc : TypeId × Value → H} {W : World} {base : Nat} {sp : Nat → Bool} {held : Bool} {ts : List TypeId} {ds : List (DataW H)} {j : Nat} {t : TypeId} {v : Value} {d0 : DataW H} {pl : List MemPlace} {ps : List (Pat κ)} {ok : dens ps → Prop}
    (h : Fits' P E t ps ok) (hsz : (DataW.weightsEach P ts ds).all (· ≤ reachBytes) = true) (ht : ts[j]? = some t) (hd : ds[j]? = some d0) (hr : DataW.Trod enc P W base sp held t v d0 pl) : ∃ x, Reps E (allOf W) noPl (puts ps x) v.cells.toList ∧ ok x := by
  obtain ⟨fuel, hf⟩ := hr
  refine h.out enc W base sp held fuel _ _ hf (fun n hn => ?_)
  have := List.all_eq_true.1 hsz _ (DataW.weights_mem_each ht hd n hn)
  simpa using this
/-- A struct that came in by value. -/
theorem struct_arg {t : TypeId} {fs : Array Field} {W : World} {r : Reach} {base : Nat} {v : Value} {cs : List (AV κ)} (ht : P.underlying t = some (.struct fs)) (hv : Value.okWide P W r base t v) (hk : Reps E (allOf W) noPl cs v.cells.toList) :
    Rep E (allOf W) noPl (.agg cs) v := by
  simp only [Value.okWide, ht] at hv
  obtain ⟨us, rfl, _, _⟩ := hv
  exact agg_mk (by simpa [Value.cells] using hk)
/-- A scalar or a slice that came in. -/
theorem one_arg {t : TypeId} {d : TypeDesc} {W : World} {r : Reach} {base : Nat} {v : Value} {c : AV κ} (ht : P.underlying t = some d) (hd : (match d with | .int _ | .bool | .string | .slice _ => true | _ => false) = true) (hv : Value.okWide P W r base t v) (hk : Reps E (allOf W) noPl [c] v.cells.toList) :
    Rep E (allOf W) noPl c v := by
  have hc : v.cells = #[v] := by
    cases v with
    | agg us =>
      simp only [Value.okWide, Cell.okWide, Cell.ok, ht] at hv
      cases d <;> simp at hd hv
    | _ => rfl
  rw [hc] at hk
  exact hk.2 0 c v rfl rfl
/-- Behind a call: what was there is there. -/
theorem mv_below {w w' : World} {F F' : Nat → Option Obj} {φ' : Nat → Option Pl} (h : Mv w F noPl w' F' φ') : Below w.heap.size w w' := by
  exact ⟨h.os, h.tape, h.output, h.size, fun b hb => h.keep b hb (fun ⟨i, p, hi, _⟩ => by cases hi)⟩
theorem rel_start {w : World} : Rel E (allOf w) noPl ([] : List (Blk κ)) w where
  frz b o h := h
  blk i b h := by simp at h
  out i _ := rfl
  inj i j p q g h := by cases h
  apart i p g h := by cases h
  lt i p g h := by cases h
end
end Go.Am
