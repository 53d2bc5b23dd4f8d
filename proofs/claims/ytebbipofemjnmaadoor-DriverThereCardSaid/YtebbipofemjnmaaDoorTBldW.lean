/- strings.Builder's contracts, over data. -/
import Derived.Test.YtebbipofemjnmaaDoorTBld
namespace Go.Am.Tryd
open Go.Proofs Go.Am Go.RowKit
set_option maxRecDepth 100000
variable {F : Nat → Option Obj} {φ : Nat → Option Pl} {w w' : World}

/-- A string's bytes as numbers; numbers as a string. -/
def nums (s : ByteArray) : List Int := s.data.toList.map fun b => (b.toNat : Int)
def isBytes (xs : List Int) : Bool := xs.all fun x => decide (0 ≤ x) && decide (x < 256)
def lets (xs : List Int) : List UInt8 := xs.map fun x => UInt8.ofNat x.toNat
theorem lets_back {xs : List Int} (h : isBytes xs = true) : (lets xs).map (fun b => (b.toNat : Int)) = xs := by
  unfold lets
  rw [List.map_map]
  conv => rhs; rw [← List.map_id xs]
  apply List.map_congr_left
  intro x hx
  have := List.all_eq_true.1 h x hx
  simp only [Bool.and_eq_true, decide_eq_true_eq] at this
  simp only [Function.comp, id]
  rw [UInt8.toNat_ofNat_of_lt' (by show x.toNat < 256; omega)]
  omega
abbrev bIn : List (BPat κ) := [.raw 48 [.optr 0, .own .T5 1], .rows .T5]

theorem own_row {xs : List Int} {v : Value} (hO : OwnB E F φ w 1 (.rows Kc.T5 xs : Blk κ)) (hv : Rep E F φ (.own Kc.T5 1 : AV κ) v) :
    w.ownsRow 0 5 1 v xs.length (xs.map (Value.int .u8)) ∧ ∃ p, φ 1 = some p ∧ p.g = v.ownBlock := by
  obtain ⟨p, h1, h2, h3⟩ := hO
  change p.len = @List.length Int xs at h2
  cases hv with
  | own _ _ q g hq hg =>
    obtain rfl := Option.some.inj (h1.symm.trans hq)
    rcases h3 with ⟨h3, _⟩ | ⟨g', cur, h3, h4, h5, h6, h7, h8⟩
    · rw [h3] at hg; cases hg
    · obtain rfl := Option.some.inj (hg.symm.trans h3)
      have hsz : κ.sz Kc.T5 = 1 := rfl
      rw [hsz] at h5
      change @List.length Int xs ≤ p.cap at h6
      refine ⟨⟨by simp, .inr ⟨g, p.cap, cur, congrArg (fun n => Value.slice _ n _) h2, Nat.zero_le _, h4, h6, h7, h5, ?_⟩⟩, p, h1, by rw [h3]; rfl⟩
      apply List.ext_getElem?
      intro j
      rw [List.getElem?_take, List.getElem?_map]
      split
      · rename_i hj
        have hj' : j < xs.length := by omega
        have hjc : j < cur.size := by omega
        rw [List.getElem?_eq_getElem hj', Array.getElem?_toList, Array.getElem?_eq_getElem hjc]
        have := h8 j xs[j] 0 (.val (.int .u8 xs[j])) cur[j] (List.getElem?_eq_getElem hj') rfl (by rw [hsz]; simp [Array.getElem?_eq_getElem hjc])
        generalize cur[j] = u at this
        rw [val_inv this]; rfl
      · rename_i hj
        rw [List.getElem?_eq_none (by omega)]; rfl
  | ownNil _ _ q hq hg =>
    obtain rfl := Option.some.inj (h1.symm.trans hq)
    rcases h3 with ⟨_, rfl⟩ | ⟨g', cur, h3, _⟩
    · exact ⟨⟨rfl, .inl ⟨rfl, rfl⟩⟩, p, h1, by rw [hg]; rfl⟩
    · rw [h3] at hg; cases hg

/-- What a builder's two blocks are in memory. -/
theorem builder_inv {xs : List Int} (h : Rel E F φ [.raw 48 [.optr 0, .own Kc.T5 1], (.rows Kc.T5 xs : Blk κ)] w) : ∃ b p v, w.heap[b]? = some (.cells #[p, v] 48 (0, 0)) ∧ (p = .pointer none ∨ p = .pointer (some ⟨b, 0, none⟩)) ∧ w.ownsRow 0 5 1 v xs.length (xs.map (Value.int .u8)) ∧
    (∃ q, φ 0 = some q ∧ q.g = some b) ∧ ∃ q, φ 1 = some q ∧ q.g = v.ownBlock := by
  obtain ⟨p, g, cur, h1, h2, h3, h4, h5⟩ := h.blk 0 _ rfl
  have hO := h.blk 1 (.rows Kc.T5 xs) rfl
  have hl : cur.size = 2 := h4
  obtain ⟨c0, c1, rfl⟩ : ∃ c0 c1, cur = #[c0, c1] := by
    obtain ⟨l⟩ := cur
    match l, hl with
    | [c0, c1], _ => exact ⟨c0, c1, rfl⟩
  have r0 : Rep E F φ (.optr 0) c0 := h5 0 _ _ rfl rfl
  have r1 : Rep E F φ (.own Kc.T5 1 : AV κ) c1 := h5 1 _ _ rfl rfl
  obtain ⟨k1, k2⟩ := own_row hO r1
  refine ⟨g, c0, c1, h3, ?_, k1, ⟨p, h1, h2⟩, k2⟩
  cases r0 with
  | optrN => exact .inl rfl
  | optr _ q g' hq hg =>
    obtain rfl := Option.some.inj (h1.symm.trans hq)
    obtain rfl := Option.some.inj (h2.symm.trans hg)
    exact .inr rfl
theorem ptr_is {u : Value} {b : Nat} (hb : ∃ q, φ 0 = some q ∧ q.g = some b) (h : Rep E F φ (.ptr 0 0 : AV κ) u) : u = .pointer (some ⟨b, 0, none⟩) := by
  obtain ⟨q, h1, h2⟩ := hb
  cases h with
  | ptr _ _ p g hp hg =>
    obtain rfl := Option.some.inj (h1.symm.trans hp)
    obtain rfl := Option.some.inj (h2.symm.trans hg)
    rfl
theorem frz_but {b : Nat} {row : Option Nat} (bt : But w w' b row) (hf : ∀ b o, F b = some o → w.heap[b]? = some o) (hb : F b = none) (hr : ∀ g, row = some g → F g = none) : ∀ b o, F b = some o → w'.heap[b]? = some o := by
  intro k o ho
  have := hf k o ho
  rw [bt.keep k (by rcases Nat.lt_or_ge k w.heap.size with h | h; exact h; simp [Array.getElem?_eq_none h] at this) (fun e => by rw [e, hb] at ho; cases ho) (fun e => by rw [hr k e] at ho; cases ho)]
  exact this

def Builder_WriteString.i : List (Pat κ) := [.ptr 0 0, .str]
def Builder_WriteString.bi : List (BPat κ) := bIn
def Builder_WriteString.p : List (Pat κ) := [.tup [.int .i64, .any], .ptr 0 0]
def Builder_WriteString.b : List (BPat κ) := [.raw 48 [.ptr 0 0, .own .T5 1], .rows .T5]
noncomputable def Builder_WriteString (_k : Nat) (s : ByteArray) (xs : List Int) : Option (((Int × Unit × Unit) × Unit × Unit) × ((Unit × Unit × Unit) × List Int × Unit)) :=
  if xs.length + s.size ≤ 140737488355328 then some ((((s.size : Int), (), ()), (), ()), ((), (), ()), xs ++ nums s, ()) else none
noncomputable def Builder_WriteString.f (k : Nat) : dens Builder_WriteString.i × densB Builder_WriteString.bi → Option (dens Builder_WriteString.p × densB Builder_WriteString.b) := fun d => Builder_WriteString k d.1.2.1 d.2.2.1
theorem write_core (s : ByteArray) (xs : List Int) (hc : xs.length + s.size ≤ 140737488355328) (w : World) (F : Nat → Option Obj) (φ : Nat → Option Pl) (us : Array Value)
    (hrel : Rel E F φ [.raw 48 [.optr 0, .own Kc.T5 1], (.rows Kc.T5 xs : Blk κ)] w) (hus : Reps E F φ [.ptr 0 0, .val (.string s)] us.toList) :
    Calls Tryd.prog 22 us w fun e w' => ∃ u F' φ', e = .returned u ∧ Rel E F' φ' [.raw 48 [.ptr 0 0, .own Kc.T5 1], (.rows Kc.T5 (xs ++ nums s : List Int) : Blk κ)] w' ∧
      Reps E F' φ' [.tup [.val (.int .i64 s.size), .bot], .ptr 0 0] (u :: [0].map fun t => us.getD t undef) ∧ Mv w F φ w' F' φ' := by
  obtain ⟨b, p, v, hbk, hp, hown, hq0, q1, hq1, hg1⟩ := builder_inv hrel
  obtain ⟨u, us', h1, h2, h3⟩ := hus.cons_inv
  obtain ⟨u2, us'', rfl, h4, h5⟩ := h3.cons_inv
  obtain rfl := h5.nil_inv
  obtain rfl := ptr_is hq0 h2
  obtain rfl := val_inv h4
  have hus' : us = #[.pointer (some ⟨b, 0, none⟩), .string s] := by cases us; simp_all
  rw [hus']
  have hFb : F b = none := by obtain ⟨q, e1, e2⟩ := hq0; exact hrel.apart 0 q b e1 e2
  have hFr : ∀ g, v.ownBlock = some g → F g = none := fun g e => hrel.apart 1 q1 g hq1 (by rw [hg1, e])
  obtain ⟨q0, hq0, hg0⟩ := hq0
  refine (write b _ p v _ s w hbk hp hown hc).mono ?_
  rintro e w' ⟨rfl, v', hb', hown', bt, hplace⟩
  have hcells : xs.map (Value.int .u8) ++ Lib.strCells s = (xs ++ nums s).map (Value.int .u8) := by
    unfold nums Lib.strCells
    rw [List.map_append, List.map_map]; rfl
  rw [hcells] at hown'
  have hlen : (xs ++ nums s).length = xs.length + s.size := by simpa using hown'.1
  have hfrz := frz_but bt hrel.frz hFb hFr
  have hb_lt : b < w.heap.size := hrel.lt 0 q0 b hq0 hg0
  have hv'b : v'.ownBlock ≠ some b := Lib.ownBlock_ne hown' hb' (by decide)
  let pl : Pl := ⟨v'.ownBlock, (xs ++ nums s).length, match v' with | .slice _ _ c => c | _ => 0⟩
  let φ' : Nat → Option Pl := fun i => match i with | 0 => some q0 | 1 => some pl | _ => none
  have rep1 : Rep E F φ' (.own Kc.T5 1 : AV κ) v' := by
    rcases hown'.2 with ⟨rfl, hz⟩ | ⟨g, cap, cur, rfl, r⟩
    · exact .ownNil _ 1 pl rfl rfl
    · have := Rep.own (E := E) (F := F) (φ := φ') Kc.T5 1 pl g rfl rfl
      rw [show pl.len = xs.length + s.size from hlen] at this
      exact this
  have rep0 : Rep E F φ' (.ptr 0 0 : AV κ) (.pointer (some ⟨b, 0, none⟩)) := .ptr 0 0 q0 b rfl hg0
  have hgr : ∀ g, pl.g = some g → (v.ownBlock = some g ∨ w.heap.size ≤ g) := fun g e => hplace g e
  refine ⟨_, F, φ', rfl, ⟨hfrz, ?_, ?_, ?_, ?_, ?_⟩, ?_, ⟨bt.os, bt.tape, bt.output, bt.size, ?_, ?_, Le.refl F, fun b o h1 h2 => by rw [h2] at h1; cases h1⟩⟩
  · intro i bl hbl
    match i, hbl with
    | 0, hbl =>
      obtain rfl := Option.some.inj hbl
      refine ⟨q0, b, _, rfl, hg0, hb', rfl, fun j c u hc hu => ?_⟩
      match j, hc, hu with
      | 0, hc, hu => obtain rfl := Option.some.inj hc; obtain rfl := Option.some.inj hu; exact rep0
      | 1, hc, hu => obtain rfl := Option.some.inj hc; obtain rfl := Option.some.inj hu; exact rep1
      | j + 2, hc, hu => cases hc
    | 1, hbl =>
      obtain rfl := Option.some.inj hbl
      refine ⟨pl, rfl, rfl, ?_⟩
      rcases hown'.2 with ⟨rfl, hz⟩ | ⟨g, cap, cur, rfl, _, hg, hn, hm, hs, htk⟩
      · exact .inl ⟨rfl, List.eq_nil_of_length_eq_zero (hlen.trans hz)⟩
      · have hsz : κ.sz Kc.T5 = 1 := rfl
        refine .inr ⟨g, cur, rfl, hg, by rw [hsz]; exact hs, by rw [show (@List.length (κ.ty Kc.T5) (xs ++ nums s : List Int)) = _ from hlen]; exact hn, hm, fun r x j c u hx hc hu => ?_⟩
        have hj : j = 0 ∧ c = .val (.int .u8 x) := by
          match j, hc with
          | 0, hc => exact ⟨rfl, (Option.some.inj hc).symm⟩
          | j + 1, hc => cases hc
        obtain ⟨rfl, rfl⟩ := hj
        have hr : r < xs.length + s.size := by rw [← hlen]; exact (List.getElem?_eq_some_iff.1 hx).1
        have hx' : ((xs ++ nums s).map (Value.int .u8))[r]? = some (Value.int .u8 x) := by
          rw [List.getElem?_map]; rw [show (xs ++ nums s)[r]? = some x from hx]; rfl
        rw [← htk, List.getElem?_take, if_pos (by omega)] at hx'
        have hu' : cur.toList[r]? = some u := by rw [Array.getElem?_toList]; rw [hsz] at hu; simpa using hu
        rw [hu'] at hx'
        obtain rfl := Option.some.inj hx'
        exact .val _
    | i + 2, hbl => cases hbl
  · intro i hi
    match i, hi with
    | 0, hi => exact absurd hi (by simp)
    | 1, hi => exact absurd hi (by simp)
    | i + 2, hi => rfl
  · intro i j p q g hi hj h1 h2
    have key : ∀ g, pl.g = some g → q0.g = some g → False := fun g e1 e2 => hv'b (by rw [hg0] at e2; rw [e2]; exact e1)
    match i, j, hi, hj with
    | 0, 0, _, _ => rfl
    | 1, 1, _, _ => rfl
    | 0, 1, hi, hj => obtain rfl := Option.some.inj hi; obtain rfl := Option.some.inj hj; exact (key g h2 h1).elim
    | 1, 0, hi, hj => obtain rfl := Option.some.inj hi; obtain rfl := Option.some.inj hj; exact (key g h1 h2).elim
    | i + 2, _, hi, _ => cases hi
    | _, j + 2, _, hj => cases hj
  · intro i p g hi hp'
    match i, hi with
    | 0, hi => obtain rfl := Option.some.inj hi; exact hrel.apart 0 _ g hq0 hp'
    | 1, hi =>
      obtain rfl := Option.some.inj hi
      rcases hgr g hp' with h | h
      · exact hFr g h
      · cases hF : F g with
        | none => rfl
        | some o =>
          have := hrel.frz g o hF
          simp [Array.getElem?_eq_none h] at this
    | i + 2, hi => cases hi
  · intro i p g hi hp'
    match i, hi with
    | 0, hi => obtain rfl := Option.some.inj hi; exact Nat.lt_of_lt_of_le (hrel.lt 0 _ g hq0 hp') bt.size
    | 1, hi => obtain rfl := Option.some.inj hi; exact (hown'.lt g hp').2
    | i + 2, hi => cases hi
  · exact Reps.cons (tup_mk (Reps.cons (.val _) (Reps.cons (.bot _) Reps.nil))) (Reps.cons rep0 Reps.nil)
  · intro k hk hn
    exact bt.keep k hk (fun e => hn ⟨0, q0, hq0, by rw [hg0, e]⟩) (fun e => hn ⟨1, q1, hq1, by rw [hg1, e]⟩)
  · rintro k ⟨i, p, hi, hp'⟩ hk
    match i, hi with
    | 0, hi => obtain rfl := Option.some.inj hi; exact ⟨0, _, hq0, hp'⟩
    | 1, hi =>
      obtain rfl := Option.some.inj hi
      rcases hgr k hp' with h | h
      · exact ⟨1, q1, hq1, by rw [hg1, h]⟩
      · omega
    | i + 2, hi => cases hi
theorem Builder_WriteString.call (k : Nat) : CallW Tryd.prog E glob 22 Builder_WriteString.i Builder_WriteString.bi [0] Builder_WriteString.p Builder_WriteString.b (Builder_WriteString.f k) := by
  intro d r hd w F φ us hrel hglob hus
  unfold Builder_WriteString.f Builder_WriteString at hd
  split at hd
  case isFalse => cases hd
  rename_i hc
  obtain rfl := Option.some.inj hd
  exact write_core d.1.2.1 d.2.2.1 hc w F φ us hrel hus

def Builder_String.i : List (Pat κ) := [.ptr 0 0]
def Builder_String.bi : List (BPat κ) := bIn
def Builder_String.p : List (Pat κ) := [.str]
def Builder_String.b : List (BPat κ) := [.dead, .dead]
noncomputable def Builder_String (_k : Nat) (xs : List Int) : Option ((ByteArray × Unit) × (Unit × Unit × Unit)) :=
  if isBytes xs = true then some ((strOfNums xs, ()), (), (), ()) else none
noncomputable def Builder_String.f (k : Nat) : dens Builder_String.i × densB Builder_String.bi → Option (dens Builder_String.p × densB Builder_String.b) := fun d => Builder_String k d.2.2.1
theorem string_core (xs : List Int) (hc : isBytes xs = true) (w : World) (F : Nat → Option Obj) (φ : Nat → Option Pl) (us : Array Value)
    (hrel : Rel E F φ [.raw 48 [.optr 0, .own Kc.T5 1], (.rows Kc.T5 xs : Blk κ)] w) (hus : Reps E F φ [.ptr 0 0] us.toList) :
    Calls Tryd.prog 24 us w fun e w' => ∃ u F' φ', e = .returned u ∧ Rel E F' φ' ([.dead, .dead] : List (Blk κ)) w' ∧
      Reps E F' φ' [.val (.string (strOfNums xs))] (u :: []) ∧ Mv w F φ w' F' φ' := by
  obtain ⟨b, p, v, hbk, hp, hown, hq0, q1, hq1, hg1⟩ := builder_inv hrel
  obtain ⟨u, us', h1, h2, h3⟩ := hus.cons_inv
  obtain rfl := h3.nil_inv
  obtain rfl := ptr_is hq0 h2
  have hus' : us = #[.pointer (some ⟨b, 0, none⟩)] := by cases us; simp_all
  rw [hus']
  have hFb : F b = none := by obtain ⟨q, e1, e2⟩ := hq0; exact hrel.apart 0 q b e1 e2
  have hFr : ∀ g, v.ownBlock = some g → F g = none := fun g e => hrel.apart 1 q1 g hq1 (by rw [hg1, e])
  obtain ⟨q0, hq0, hg0⟩ := hq0
  have hown' : w.ownsRow 0 5 1 v (lets xs).length (Lib.byteCells (lets xs)) := by
    have e1 : (lets xs).length = xs.length := by simp [lets]
    have e2 : Lib.byteCells (lets xs) = xs.map (Value.int .u8) := by
      conv => rhs; rw [← lets_back hc, List.map_map]
      rfl
    rw [e1, e2]; exact hown
  refine (string b p v (lets xs) w hbk hown').mono ?_
  rintro e w' ⟨rfl, bt⟩
  have hfrz := frz_but bt hrel.frz hFb hFr
  refine ⟨_, F, noPl, rfl, ⟨hfrz, fun i bl hbl => ?_, fun _ _ => rfl, fun _ _ _ _ _ h => (by cases h), fun _ _ _ h => (by cases h), fun _ _ _ h => (by cases h)⟩, Reps.cons (.val _) Reps.nil, ⟨bt.os, bt.tape, bt.output, bt.size, ?_, ?_, Le.refl F, fun b o h1 h2 => by rw [h2] at h1; cases h1⟩⟩
  · match i, hbl with
    | 0, hbl => obtain rfl := Option.some.inj hbl; rfl
    | 1, hbl => obtain rfl := Option.some.inj hbl; rfl
    | i + 2, hbl => cases hbl
  · intro k hk hn
    exact bt.keep k hk (fun e => hn ⟨0, q0, hq0, by rw [hg0, e]⟩) (fun e => hn ⟨1, q1, hq1, by rw [hg1, e]⟩)
  · rintro k ⟨i, p, hi, _⟩ _
    cases hi
theorem Builder_String.call (k : Nat) : CallW Tryd.prog E glob 24 Builder_String.i Builder_String.bi [] Builder_String.p Builder_String.b (Builder_String.f k) := by
  intro d r hd w F φ us hrel hglob hus
  unfold Builder_String.f Builder_String at hd
  split at hd
  case isFalse => cases hd
  rename_i hc
  obtain rfl := Option.some.inj hd
  exact string_core d.2.2.1 hc w F φ us hrel hus

theorem callIs {fid : FuncId} {fn : Func} (h : Tryd.prog.funcs[fid]? = some fn) (hn : (fn.name == "runtime.NumGoroutine") = false) (hb : fn.body.isNone = false) (us : Array Value) (w : World) : (callFunc fid us).run Tryd.prog w = .ok (.enter fid us) w := callable_of h hn hb us w
noncomputable def Builder_WriteString.ent (k : Nat) : EntS κ := ⟨22, [], entW Builder_WriteString.i Builder_WriteString.bi [0] Builder_WriteString.p Builder_WriteString.b (Builder_WriteString.f k)⟩
theorem Builder_WriteString.entOk (k : Nat) : EntOk Tryd.prog E glob 22 (Builder_WriteString.ent k).run := ent_okW encOk (callIs Tryd.func22 (by kernel_rfl) (by kernel_rfl)) (by decide) (by rfl) (Builder_WriteString.call k)
noncomputable def Builder_String.ent (k : Nat) : EntS κ := ⟨24, [], entW Builder_String.i Builder_String.bi [] Builder_String.p Builder_String.b (Builder_String.f k)⟩
theorem Builder_String.entOk (k : Nat) : EntOk Tryd.prog E glob 24 (Builder_String.ent k).run := ent_okW encOk (callIs Tryd.func24 (by kernel_rfl) (by kernel_rfl)) (by decide) (by rfl) (Builder_String.call k)
end Go.Am.Tryd
