/- How the machine's values and memory stand for the program's: the relation and its laws. -/
import Derived.Test.YtebbipofemjnmaaDoorTAm1
namespace Go.Am
open Go.RowKit
variable {κ : Kinds}

structure Pl where
  g : Option Nat
  len : Nat
  cap : Nat

def FCell (F : Nat → Option Obj) (b o : Nat) : Option Value :=
  match F b with
  | some (.cells c _ _) => c[o]?
  | _ => none

/-- A frozen block of just so many cells. -/
def TabAt (F : Nat → Option Obj) (b n : Nat) : Prop := ∃ c t fr, F b = some (.cells c t fr) ∧ c.size = n

inductive Rep (E : Encs κ) (F : Nat → Option Obj) (φ : Nat → Option Pl) : AV κ → Value → Prop
  | bot (u : Value) : Rep E F φ .bot u
  | val (v : Value) : Rep E F φ (.val v) v
  | agg (cs : List (AV κ)) (us : Array Value) (hl : cs.length = us.size) (h : ∀ (j : Nat) (c : AV κ) (u : Value), cs[j]? = some c → us[j]? = some u → Rep E F φ c u) : Rep E F φ (.agg cs) (.agg us)
  | tup (cs : List (AV κ)) (us : Array Value) (hl : cs.length = us.size) (h : ∀ (j : Nat) (c : AV κ) (u : Value), cs[j]? = some c → us[j]? = some u → Rep E F φ c u) : Rep E F φ (.tup cs) (.tuple us)
  | ro (k : κ.Kc) (xs : List (κ.ty k)) (b off cap : Nat) (us : Nat → Nat → Value) (hcap : xs.length ≤ cap)
      (hc : ∀ r j, r < xs.length → j < κ.sz k → FCell F b (off + (r * κ.sz k + j)) = some (us r j))
      (h : ∀ (r : Nat) (x : κ.ty k) (j : Nat) (c : AV κ), xs[r]? = some x → (E.enc k x)[j]? = some c → Rep E F φ c (us r j)) : Rep E F φ (.ro k xs) (.slice (some ⟨b, off, none⟩) xs.length cap)
  | roNil (k : κ.Kc) : Rep E F φ (.ro k []) (.slice none 0 0)
  | roEmp (k : κ.Kc) (a : Addr) (cap : Nat) : Rep E F φ (.ro k []) (.slice (some a) 0 cap)
  | rop (cs : List (AV κ)) (b off : Nat) (us : Nat → Value) (hc : ∀ j, j < cs.length → FCell F b (off + j) = some (us j))
      (h : ∀ (j : Nat) (c : AV κ), cs[j]? = some c → Rep E F φ c (us j)) : Rep E F φ (.rop cs) (.pointer (some ⟨b, off, none⟩))
  | arr (k : κ.Kc) (xs : List (κ.ty k)) (u : Value) (h : Rep E F φ (.agg (xs.flatMap (E.enc k))) u) : Rep E F φ (.arr k xs) u
  | tab (k : κ.Kc) (xs : List (κ.ty k)) (b : Nat) (hx : TabAt F b (xs.length * κ.sz k)) (h : Rep E F φ (.rop (xs.flatMap (E.enc k))) (.pointer (some ⟨b, 0, none⟩))) : Rep E F φ (.tab k xs) (.pointer (some ⟨b, 0, none⟩))
  | own (k : κ.Kc) (i : Nat) (p : Pl) (g : Nat) (h : φ i = some p) (hg : p.g = some g) : Rep E F φ (.own k i) (.slice (some ⟨g, 0, none⟩) p.len p.cap)
  | ownNil (k : κ.Kc) (i : Nat) (p : Pl) (h : φ i = some p) (hg : p.g = none) : Rep E F φ (.own k i) (.slice none 0 0)
  | ptr (i off : Nat) (p : Pl) (g : Nat) (h : φ i = some p) (hg : p.g = some g) : Rep E F φ (.ptr i off) (.pointer (some ⟨g, off, none⟩))
  | ptrE (k : κ.Kc) (i row col : Nat) (p : Pl) (g : Nat) (h : φ i = some p) (hg : p.g = some g) (hr : row < p.len) : Rep E F φ (.ptrE k i row col) (.pointer (some ⟨g, row * κ.sz k + col, none⟩))
  | optrN (i : Nat) : Rep E F φ (.optr i) (.pointer none)
  | optr (i : Nat) (p : Pl) (g : Nat) (h : φ i = some p) (hg : p.g = some g) : Rep E F φ (.optr i) (.pointer (some ⟨g, 0, none⟩))
  | fn (f : FuncId) (cs : List (AV κ)) (us : Array Value) (hl : cs.length = us.size) (h : ∀ (j : Nat) (c : AV κ) (u : Value), cs[j]? = some c → us[j]? = some u → Rep E F φ c u) : Rep E F φ (.fn f cs) (.func (.func f) #[] us)

variable {E : Encs κ} {F F' : Nat → Option Obj} {φ φ' : Nat → Option Pl}

def Le (F F' : Nat → Option Obj) : Prop := ∀ b o, F b = some o → F' b = some o
theorem Le.refl (F : Nat → Option Obj) : Le F F := fun _ _ h => h
theorem Le.trans {F G H : Nat → Option Obj} (h : Le F G) (k : Le G H) : Le F H := fun b o x => k b o (h b o x)
theorem FCell.mono (h : Le F F') {b o : Nat} {v : Value} (hc : FCell F b o = some v) : FCell F' b o = some v := by
  unfold FCell at *
  cases hb : F b with
  | none => rw [hb] at hc; simp at hc
  | some x => rw [hb] at hc; rw [h b x hb]; exact hc

theorem Rep.mono (hF : Le F F') {v : AV κ} {u : Value} (h : Rep E F φ v u) : Rep E F' φ v u := by
  induction h with
  | bot u => exact .bot u
  | val v => exact .val v
  | agg cs us hl _ ih => exact .agg cs us hl ih
  | tup cs us hl _ ih => exact .tup cs us hl ih
  | ro k xs b off cap us hcap hc _ ih => exact .ro k xs b off cap us hcap (fun r j h1 h2 => FCell.mono hF (hc r j h1 h2)) ih
  | roNil k => exact .roNil k
  | roEmp k a cap => exact .roEmp k a cap
  | rop cs b off us hc _ ih => exact .rop cs b off us (fun j hj => FCell.mono hF (hc j hj)) ih
  | arr k xs u _ ih => exact .arr k xs u ih
  | tab k xs b hx _ ih => exact .tab k xs b (by obtain ⟨c, ty, fr, h1, h2⟩ := hx; exact ⟨c, ty, fr, hF _ _ h1, h2⟩) ih
  | own k i p g h hg => exact .own k i p g h hg
  | ownNil k i p h hg => exact .ownNil k i p h hg
  | ptr i off p g h hg => exact .ptr i off p g h hg
  | ptrE k i row col p g h hg hr => exact .ptrE k i row col p g h hg hr
  | optrN i => exact .optrN i
  | optr i p g h hg => exact .optr i p g h hg
  | fn f cs us hl _ ih => exact .fn f cs us hl ih

theorem killL_get (i : Nat) : ∀ (cs : List (AV κ)) (j : Nat), (killL i cs)[j]? = (cs[j]?).map (AV.kill i)
  | [], j => by simp [killL]
  | c :: cs, 0 => by simp [killL]
  | c :: cs, j + 1 => by simp [killL, killL_get i cs j]
theorem killL_length (i : Nat) : ∀ (cs : List (AV κ)), (killL i cs).length = cs.length
  | [] => rfl
  | c :: cs => by simp [killL, killL_length i cs]
theorem kill_flat (i : Nat) {c : AV κ} (h : c.flat = true) : c.kill i = c := by
  cases c <;> simp [AV.flat] at h <;> simp [AV.kill]

theorem killL_flat (i : Nat) : ∀ {cs : List (AV κ)}, (∀ c ∈ cs, c.flat = true) → killL i cs = cs
  | [], _ => rfl
  | c :: cs, h => by rw [killL, kill_flat i (h c List.mem_cons_self), killL_flat i fun c hc => h c (List.mem_cons_of_mem _ hc)]
theorem flats {E : Encs κ} (hE : E.Ok) {k : κ.Kc} {xs : List (κ.ty k)} : ∀ c ∈ xs.flatMap (E.enc k), c.flat = true := fun c hc => by
  obtain ⟨x, _, h⟩ := List.mem_flatMap.1 hc
  exact hE.flat k x c h
theorem Rep.kill {i : Nat} (hφ : ∀ j, j ≠ i → φ' j = φ j) (hE : E.Ok) {v : AV κ} {u : Value} (h : Rep E F φ v u) : Rep E F φ' (v.kill i) u := by
  induction h with
  | bot u => exact .bot u
  | val v => exact .val v
  | agg cs us hl _ ih =>
    refine .agg _ us (by rw [killL_length]; exact hl) fun j c u hc hu => ?_
    rw [killL_get] at hc
    obtain ⟨c', hc', rfl⟩ := Option.map_eq_some_iff.1 hc
    exact ih j c' u hc' hu
  | tup cs us hl _ ih =>
    refine .tup _ us (by rw [killL_length]; exact hl) fun j c u hc hu => ?_
    rw [killL_get] at hc
    obtain ⟨c', hc', rfl⟩ := Option.map_eq_some_iff.1 hc
    exact ih j c' u hc' hu
  | ro k xs b off cap us hcap hc _ ih =>
    refine .ro k xs b off cap us hcap hc fun r x j c hx hj => ?_
    have := ih r x j c hx hj
    rwa [kill_flat i (hE.flat k x c (List.mem_of_getElem? hj))] at this
  | roNil k => exact .roNil k
  | roEmp k a cap => exact .roEmp k a cap
  | rop cs b off us hc _ ih =>
    refine .rop _ b off us (fun j hj => hc j (by rwa [killL_length] at hj)) fun j c hj => ?_
    rw [killL_get] at hj
    obtain ⟨c', hc', rfl⟩ := Option.map_eq_some_iff.1 hj
    exact ih j c' hc'
  | arr k xs u _ ih =>
    refine .arr k xs u ?_
    have : AV.kill i (.agg (xs.flatMap (E.enc k))) = .agg (xs.flatMap (E.enc k)) := by rw [AV.kill, killL_flat i (flats hE)]
    rwa [this] at ih
  | tab k xs b hx _ ih =>
    refine .tab k xs b hx ?_
    have : AV.kill i (.rop (xs.flatMap (E.enc k))) = .rop (xs.flatMap (E.enc k)) := by rw [AV.kill, killL_flat i (flats hE)]
    rwa [this] at ih
  | own k j p g h hg =>
    unfold AV.kill
    split
    · exact .bot _
    · rename_i hne; exact .own k j p g (by rw [hφ j hne]; exact h) hg
  | ownNil k j p h hg =>
    unfold AV.kill
    split
    · exact .bot _
    · rename_i hne; exact .ownNil k j p (by rw [hφ j hne]; exact h) hg
  | ptr j off p g h hg =>
    unfold AV.kill
    split
    · exact .bot _
    · rename_i hne; exact .ptr j off p g (by rw [hφ j hne]; exact h) hg
  | ptrE k j row col p g h hg hr =>
    unfold AV.kill
    split
    · exact .bot _
    · rename_i hne; exact .ptrE k j row col p g (by rw [hφ j hne]; exact h) hg hr
  | optrN j =>
    unfold AV.kill
    split
    · exact .bot _
    · exact .optrN j
  | optr j p g h hg =>
    unfold AV.kill
    split
    · exact .bot _
    · rename_i hne; exact .optr j p g (by rw [hφ j hne]; exact h) hg
  | fn f cs us hl _ ih =>
    refine .fn f _ us (by rw [killL_length]; exact hl) fun j c u hc hu => ?_
    rw [killL_get] at hc
    obtain ⟨c', hc', rfl⟩ := Option.map_eq_some_iff.1 hc
    exact ih j c' u hc' hu

/-- Places that stay: what was known stays known. -/
theorem Rep.place (hφ : ∀ j p, φ j = some p → φ' j = some p) {v : AV κ} {u : Value} (h : Rep E F φ v u) : Rep E F φ' v u := by
  induction h with
  | bot u => exact .bot u
  | val v => exact .val v
  | agg cs us hl _ ih => exact .agg cs us hl ih
  | tup cs us hl _ ih => exact .tup cs us hl ih
  | ro k xs b off cap us hcap hc _ ih => exact .ro k xs b off cap us hcap hc ih
  | roNil k => exact .roNil k
  | roEmp k a cap => exact .roEmp k a cap
  | rop cs b off us hc _ ih => exact .rop cs b off us hc ih
  | arr k xs u _ ih => exact .arr k xs u ih
  | tab k xs b hx _ ih => exact .tab k xs b hx ih
  | own k i p g h hg => exact .own k i p g (hφ i p h) hg
  | ownNil k i p h hg => exact .ownNil k i p (hφ i p h) hg
  | ptr i off p g h hg => exact .ptr i off p g (hφ i p h) hg
  | ptrE k i row col p g h hg hr => exact .ptrE k i row col p g (hφ i p h) hg hr
  | optrN i => exact .optrN i
  | optr i p g h hg => exact .optr i p g (hφ i p h) hg
  | fn f cs us hl _ ih => exact .fn f cs us hl ih

theorem Rep.flat (hE : E.Ok) {v : AV κ} {u : Value} (h : Rep E F φ v u) (hf : v.flat = true) : Rep E F φ' v u ∧ u.oneCell' = true := by
  induction h with
  | val v => exact ⟨.val v, hf⟩
  | ro k xs b off cap us hcap hc _ ih => exact ⟨.ro k xs b off cap us hcap hc fun r x j c hx hj => (ih r x j c hx hj (hE.flat k x c (List.mem_of_getElem? hj))).1, rfl⟩
  | roNil k => exact ⟨.roNil k, rfl⟩
  | roEmp k a cap => exact ⟨.roEmp k a cap, rfl⟩
  | _ => simp [AV.flat] at hf
theorem Rep.one {v : AV κ} {u : Value} (h : Rep E F φ v u) (hf : v.one = true) : u.oneCell' = true := by
  cases h <;> first | exact hf | rfl | simp [AV.one] at hf

/-- What is known of one block of the call's own. -/
def OwnB (E : Encs κ) (F : Nat → Option Obj) (φ : Nat → Option Pl) (w : World) (i : Nat) : Blk κ → Prop
  | .dead => φ i = none
  | .raw t cs => ∃ p g cur, φ i = some p ∧ p.g = some g ∧ w.heap[g]? = some (.cells cur t (0, 0)) ∧ cur.size = cs.length ∧ ∀ (j : Nat) (c : AV κ) (u : Value), cs[j]? = some c → cur[j]? = some u → Rep E F φ c u
  | .rows k xs => ∃ p, φ i = some p ∧ p.len = xs.length ∧ ((p.g = none ∧ xs = []) ∨ ∃ g cur, p.g = some g ∧ w.heap[g]? = some (.cells cur (κ.elem k) (0, 0)) ∧ cur.size = p.cap * κ.sz k ∧ xs.length ≤ p.cap ∧ p.cap ≤ maxLen ∧
      ∀ (r : Nat) (x : κ.ty k) (j : Nat) (c : AV κ) (u : Value), xs[r]? = some x → (E.enc k x)[j]? = some c → cur[r * κ.sz k + j]? = some u → Rep E F φ c u)

structure Rel (E : Encs κ) (F : Nat → Option Obj) (φ : Nat → Option Pl) (S : List (Blk κ)) (w : World) : Prop where
  frz : ∀ b o, F b = some o → w.heap[b]? = some o
  blk : ∀ i b, S[i]? = some b → OwnB E F φ w i b
  out : ∀ i, S.length ≤ i → φ i = none
  inj : ∀ i j p q g, φ i = some p → φ j = some q → p.g = some g → q.g = some g → i = j
  apart : ∀ i p g, φ i = some p → p.g = some g → F g = none
  lt : ∀ i p g, φ i = some p → p.g = some g → g < w.heap.size

def Held (φ : Nat → Option Pl) (b : Nat) : Prop := ∃ i p, φ i = some p ∧ p.g = some b

/-- From one moment to a later one. -/
structure Mv (w : World) (F : Nat → Option Obj) (φ : Nat → Option Pl) (w' : World) (F' : Nat → Option Obj) (φ' : Nat → Option Pl) : Prop where
  os : w'.os = w.os
  tape : w'.tape = w.tape
  output : w'.output = w.output
  size : w.heap.size ≤ w'.heap.size
  keep : ∀ b, b < w.heap.size → ¬ Held φ b → w'.heap[b]? = w.heap[b]?
  held : ∀ b, Held φ' b → b < w.heap.size → Held φ b
  le : Le F F'
  new : ∀ b o, F' b = some o → F b = none → w.heap.size ≤ b ∨ Held φ b

theorem Mv.refl (w : World) (F : Nat → Option Obj) (φ : Nat → Option Pl) : Mv w F φ w F φ :=
  ⟨rfl, rfl, rfl, Nat.le_refl _, fun _ _ _ => rfl, fun _ h _ => h, Le.refl F, fun b o h h' => by rw [h'] at h; cases h⟩
theorem Mv.trans {w w1 w2 : World} {F F1 F2 : Nat → Option Obj} {φ φ1 φ2 : Nat → Option Pl} (h : Mv w F φ w1 F1 φ1) (k : Mv w1 F1 φ1 w2 F2 φ2) : Mv w F φ w2 F2 φ2 where
  os := k.os.trans h.os
  tape := k.tape.trans h.tape
  output := k.output.trans h.output
  size := Nat.le_trans h.size k.size
  keep b hb hn := (k.keep b (Nat.lt_of_lt_of_le hb h.size) fun h1 => hn (h.held b h1 hb)).trans (h.keep b hb hn)
  held b h2 hb := h.held b (k.held b h2 (Nat.lt_of_lt_of_le hb h.size)) hb
  le := h.le.trans k.le
  new b o h2 h0 := by
    cases h1 : F1 b with
    | some x =>
      exact h.new b x h1 h0
    | none =>
      rcases k.new b o h2 h1 with h3 | h3
      · exact .inl (Nat.le_trans h.size h3)
      · rcases Nat.lt_or_ge b w.heap.size with hb | hb
        · exact .inr (h.held b h3 hb)
        · exact .inl hb

structure Good (E : Encs κ) (G : Nat → AV κ) (a : Act) (w : World) (s : St κ) (F : Nat → Option Obj) (φ : Nat → Option Pl) : Prop where
  rel : Rel E F φ s.S w
  env : ∀ (t : Nat) (v : AV κ), s.env[t]? = some v → Rep E F φ v (a.tmps.getD t undef)
  size : a.tmps.size = s.env.length
  defers : a.defers = []
  al : ∀ p, p ∈ s.al → a.tmps.getD p.1 undef = a.tmps.getD p.2 undef
  glob : ∀ (g : Nat) (ψ : Nat → Option Pl), Rep E F ψ (G g) (.pointer (some ⟨g, 0, none⟩))
end Go.Am
