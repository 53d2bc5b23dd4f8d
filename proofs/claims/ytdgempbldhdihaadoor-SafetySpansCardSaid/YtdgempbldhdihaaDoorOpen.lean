/- What an argument reads as, opened into the lists and numbers that the printed functions speak of: for every kind, by its parts. -/
import Derived.Test.YtdgempbldhdihaaDoorWWords
import Derived.ChangeArms
import Derived.DataReads
import Derived.Deep.Slices
import Derived.SizedLaws
import Derived.WideShapes
namespace Go.Proofs.YtdgempbldhdihaaDoor.Open
open Go.RowKit Go.Proofs.YtdgempbldhdihaaDoorW.PrintWords Go.Deep

variable {P : Program}
/-- Whatever reads as data at the type t, within the reach, is a value of the kind d, and ok. -/
structure Fits (P : Program) (t : TypeId) {α : Type} (d : Kd α) (ok : α → Prop) : Prop where
  out : ∀ {H : Type} (enc : TypeId × Value → H) (W : World) (base : Nat) (sp : Nat → Bool) (held : Bool) (fuel : Nat) (cs : List Value) (y : DataW H × List MemPlace),
    DataW.trod enc P W base sp held fuel t cs = some y → (∀ n ∈ y.1.weights P t, n ≤ reachBytes) → ∃ x, d.K W x cs ∧ ok x

theorem fits_int {t : TypeId} {k : IntKind} (ht : P.underlying t = some (.int k)) : Fits P t (Kd.int k) (fun n => (Lit.int k n).wf = true) := by
  refine ⟨?_⟩
  intro H enc W base sp held fuel cs y h _
  obtain ⟨n, rfl, _, hw⟩ := DataW.trod_int ht h
  exact ⟨n, rfl, hw⟩
theorem fits_bool {t : TypeId} (ht : P.underlying t = some .bool) : Fits P t Kd.bool (fun _ => True) := by
  refine ⟨?_⟩
  intro H enc W base sp held fuel cs y h _
  obtain ⟨n, rfl, _⟩ := DataW.trod_bool ht h
  exact ⟨n, rfl, trivial⟩
theorem fits_string {t : TypeId} (ht : P.underlying t = some .string) : Fits P t Kd.string (fun s => s.size ≤ 140737488351232) := by
  refine ⟨?_⟩
  intro H enc W base sp held fuel cs y h hw
  obtain ⟨s, rfl, rfl, _⟩ := DataW.trod_string ht h
  refine ⟨s, rfl, ?_⟩
  have h2 : s.data.toList.length ≤ reachBytes := hw s.data.toList.length (by simp [DataW.weights])
  exact h2

theorem weights_all_mem {H : Type} {e : TypeId} : ∀ {l : List (DataW H)} {d : DataW H} {n : Nat}, d ∈ l → n ∈ d.weights P e → n ∈ DataW.weightsAll P e l
  | a :: l, d, n, hd, hn => by
    rw [DataW.weightsAll, List.mem_append]
    rcases List.mem_cons.1 hd with rfl | hd
    · exact .inl hn
    · exact .inr (weights_all_mem hd hn)

theorem fits_slice {t e : TypeId} {α : Type} [Inhabited α] {d : Kd α} {ok : α → Prop} (ht : P.underlying t = some (.slice e)) (he : Fits P e d ok) (hc : P.cellsOf e = d.sz) {B : Nat} (hB : P.bytesOf e = B) :
    Fits P t (Kd.slice e d) (fun xs => xs.length * B ≤ 140737488351232 ∧ ∀ x ∈ xs, ok x) := by
  refine ⟨?_⟩
  intro H enc W base sp held fuel cs y h hw
  rcases open_slice ht h with ⟨rfl, rfl⟩ | ⟨a, len, cap, m, n, D, Pl, rfl, hb, hl, hm, hmm, rfl, hx⟩
  · exact ⟨[], ⟨none, 0, rfl, Nat.le_refl _, rfl, Nat.zero_le _, fun h => absurd h (Nat.lt_irrefl _)⟩, by simp, fun x hx => by simp at hx⟩
  · have hle : len ≤ m := by rw [hmm]; split <;> omega
    have hwt : ∀ n' ∈ ((len + (m - len)) * B :: (DataW.weightsAll P e ((List.range len).map D) ++ DataW.weightsAll P e ((List.range (m - len)).map fun j => D (len + j)))), n' ≤ reachBytes := by
      intro n' hn'
      refine hw n' ?_
      simp only [DataW.weights, ht]
      rw [hB]
      simpa using hn'
    obtain ⟨f, hf⟩ := choose_lt (α := α) (n := len) (p := fun i x => ∃ cs', cs'.length = d.sz ∧ d.K W x cs' ∧ ok x ∧ ∀ k u, cs'[k]? = some u → W.cell? (a.add (i * d.sz + k)) = some u) (fun i hi => by
      obtain ⟨cs', h1, h2⟩ := hx i (by omega)
      obtain ⟨_, hlen, hcell⟩ := World.cells?_some h1
      obtain ⟨x, hK, hok⟩ := he.out enc W base sp held n cs' _ h2 (fun n' hn' => hwt n' (List.mem_cons_of_mem _ (List.mem_append_left _ (weights_all_mem (List.mem_map.2 ⟨i, List.mem_range.2 hi, rfl⟩) hn'))))
      refine ⟨x, cs', by rw [hlen, hc], hK, hok, fun k u hu => ?_⟩
      have hk : k < P.cellsOf e := by
        rw [← hlen]
        exact (List.getElem?_eq_some_iff.1 hu).1
      have := hcell k hk
      rw [hu] at this
      rw [← this, hc, Deep.add_add])
    have hmax : cap ≤ 9223372036854775807 := hm
    refine ⟨(List.range len).map f, ⟨some a, cap, by simp, by simpa using hl, by simp, by simp; omega, fun _ => ⟨a, rfl, fun j p hp => ?_⟩⟩, ?_, ?_⟩
    · have hj : j < len := by
        have := (List.getElem?_eq_some_iff.1 hp).1
        simpa using this
      rw [List.getElem?_map, List.getElem?_range hj] at hp
      obtain rfl := Option.some.inj hp
      obtain ⟨cs', h1, h2, _, h4⟩ := hf j hj
      exact ⟨cs', h1, h2, h4⟩
    · have := hwt _ List.mem_cons_self
      simp only [List.length_map, List.length_range]
      refine Nat.le_trans (Nat.mul_le_mul_right _ (Nat.le_add_right len (m - len))) this
    · intro x hx
      obtain ⟨i, hi, rfl⟩ := List.mem_map.1 hx
      obtain ⟨_, _, _, hok, _⟩ := hf i (List.mem_range.1 hi)
      exact hok

/-- The fields of a struct from the offset o on. -/
structure FitsF (P : Program) (fs : List Field) (o : Nat) {α : Type} (d : Kd α) (ok : α → Prop) : Prop where
  out : ∀ {H : Type} (enc : TypeId × Value → H) (W : World) (base : Nat) (sp : Nat → Bool) (held : Bool) (n : Nat) (cs : List Value) (ys : List (DataW H × List MemPlace)),
    cs.length = o + d.sz → ys.length = fs.length → (∀ (i : Nat) (f : Field), fs[i]? = some f → DataW.trod enc P W base sp held n f.type ((cs.drop f.offset).take (P.cellsOf f.type)) = ys[i]?) →
    (∀ m ∈ DataW.weightsEach P (fs.map (·.type)) (ys.map (·.1)), m ≤ reachBytes) → ∃ x, d.K W x (cs.drop o) ∧ ok x

theorem fitsF_one {f : Field} {o : Nat} {α : Type} {d : Kd α} {ok : α → Prop} (ho : f.offset = o) (hf : Fits P f.type d ok) (hc : P.cellsOf f.type = d.sz) : FitsF P [f] o d ok := by
  refine ⟨?_⟩
  intro H enc W base sp held n cs ys hl hy ht hw
  match ys, hy with
  | [y], _ =>
    have h := ht 0 f rfl
    rw [ho, hc, List.take_of_length_le (by rw [List.length_drop]; omega)] at h
    exact hf.out enc W base sp held n _ y (by simpa using h) (fun m hm => hw m (by simpa [DataW.weightsEach] using hm))
theorem fitsF_cons {f : Field} {fs : List Field} {o : Nat} {α β : Type} {a : Kd α} {b : Kd β} {oka : α → Prop} {okb : β → Prop} (ho : f.offset = o) (hf : Fits P f.type a oka) (hc : P.cellsOf f.type = a.sz)
    (hr : FitsF P fs (o + a.sz) b okb) : FitsF P (f :: fs) o (Kd.pair a b) (fun p => oka p.1 ∧ okb p.2) := by
  refine ⟨?_⟩
  intro H enc W base sp held n cs ys hl hy ht hw
  match ys, hy with
  | y :: ys, hy =>
    have h := ht 0 f rfl
    rw [ho, hc] at h
    obtain ⟨x0, hK0, h0⟩ := hf.out enc W base sp held n _ y (by simpa using h) (fun m hm => hw m (by
      simp only [List.map_cons, DataW.weightsEach, List.mem_append]
      exact .inl hm))
    have hl' : cs.length = o + (a.sz + b.sz) := hl
    obtain ⟨x1, hK1, h1⟩ := hr.out enc W base sp held n cs ys (by rw [hl']; omega) (by simpa using hy) (fun i f' hi => by simpa using ht (i + 1) f' (by simpa using hi)) (fun m hm => hw m (by
      simp only [List.map_cons, DataW.weightsEach, List.mem_append]
      exact .inr hm))
    refine ⟨(x0, x1), ⟨(cs.drop o).take a.sz, cs.drop (o + a.sz), ?_, hK0, hK1⟩, h0, h1⟩
    rw [← List.drop_drop, List.take_append_drop]
theorem fits_struct {t : TypeId} {fs : Array Field} {α : Type} {d : Kd α} {ok : α → Prop} (ht : P.underlying t = some (.struct fs)) (hc : P.cellsOf t = d.sz) (hf : FitsF P fs.toList 0 d ok) : Fits P t d ok := by
  refine ⟨?_⟩
  intro H enc W base sp held fuel cs y h hw
  obtain ⟨xs, n, rfl, rfl, hlen, hxs, hel⟩ := DataW.trod_struct ht h
  obtain ⟨x, hK, hok⟩ := hf.out enc W base sp held n cs xs (by rw [hlen, hc]; omega) (by simpa using hxs) (fun i f hi => hel i f (by simpa using hi)) (fun m hm => hw m (by simpa [DataW.weights, ht] using hm))
  exact ⟨x, by simpa using hK, hok⟩
theorem fits_iso {t : TypeId} {α β : Type} {d : Kd α} {ok : α → Prop} {f : β → α} (g : α → β) (hg : ∀ x, f (g x) = x) (h : Fits P t d ok) : Fits P t (Kd.iso d f) (fun b => ok (f b)) := by
  refine ⟨?_⟩
  intro H enc W base sp held fuel cs y h1 h2
  obtain ⟨x, hK, hok⟩ := h.out enc W base sp held fuel cs y h1 h2
  refine ⟨g x, ?_, ?_⟩
  · show d.K W (f (g x)) cs
    rw [hg]
    exact hK
  · show ok (f (g x))
    rw [hg]
    exact hok
theorem fits_imp {t : TypeId} {α : Type} {d : Kd α} {ok ok' : α → Prop} (h : Fits P t d ok) (hi : ∀ x, ok x → ok' x) : Fits P t d ok' := by
  refine ⟨?_⟩
  intro H enc W base sp held fuel cs y h1 h2
  obtain ⟨x, hK, hok⟩ := h.out enc W base sp held fuel cs y h1 h2
  exact ⟨x, hK, hi x hok⟩

/-- Of an argument: its place in the list of all, its reading. -/
theorem fits_arg {H : Type} {enc : TypeId × Value → H} {W : World} {base : Nat} {sp : Nat → Bool} {held : Bool} {ts : List TypeId} {ds : List (DataW H)} {j : Nat} {t : TypeId} {v : Value} {d0 : DataW H} {ps : List MemPlace} {α : Type} {d : Kd α} {ok : α → Prop}
    (h : Fits P t d ok) (hsz : (DataW.weightsEach P ts ds).all (· ≤ reachBytes) = true) (ht : ts[j]? = some t) (hd : ds[j]? = some d0) (hr : DataW.Trod enc P W base sp held t v d0 ps) : ∃ x, d.K W x v.cells.toList ∧ ok x := by
  obtain ⟨fuel, hf⟩ := hr
  refine h.out enc W base sp held fuel _ _ hf (fun n hn => ?_)
  have := List.all_eq_true.1 hsz _ (DataW.weights_mem_each ht hd n hn)
  simpa using this
/-- A struct that came in by value. -/
theorem struct_arg {t : TypeId} {fs : Array Field} {W : World} {r : Reach} {base : Nat} {v : Value} {α : Type} {d : Kd α} {x : α} (ht : P.underlying t = some (.struct fs)) (hv : Value.okWide P W r base t v) (hk : d.K W x v.cells.toList) :
    ∃ cs : List Value, v = .agg cs.toArray ∧ d.K W x cs := by
  simp only [Value.okWide, ht] at hv
  obtain ⟨cs, rfl, _, _⟩ := hv
  exact ⟨cs.toList, by simp, by simpa [Value.cells] using hk⟩
end Go.Proofs.YtdgempbldhdihaaDoor.Open
