/- The intergreens by pairs of groups, kept in a map: the closure that puts, the loop that fills, and Inter: the first row that names both groups. -/
import Derived.Test.YtdgempbldhdihaaDoorP0
import Derived.Outline
import Derived.Maps.OwnSet
import Derived.DeepKeys4
import Derived.OneCell
import Derived.Deep.LoopGhost
namespace Go.Proofs.YtdgempbldhdihaaDoor.P
open Go.RowKit Go.Proofs.YtdgempbldhdihaaDoorW.PrintWords Go.Proofs.YtdgempbldhdihaaDoorW.PrintLast Go.Proofs.YtdgempbldhdihaaDoorW.PrintMore
open Go.Maps (Keyed has_put_same has_put_other atKey_put_same atKey_put_other)

namespace Pr
theorem laidOut : laidOutB Tryd.prog = true := by kernel_rfl
theorem law : Keyed Tryd.prog 103 := Keyed.of_law (deep_law_laid (m := 9) laidOut (by omega) (of_decide_eq_true (by kernel_rfl)) (by kernel_rfl) (by rw [Tryd.underlying103]))
def kl (a b : Int) : Lit := .string (keyBytes [.int .i64 a, .int .i64 b])
abbrev wf (a : Int) : Prop := (Lit.int .i64 a).wf = true
theorem cellsK : Tryd.prog.cellsOf 103 = 2 := by kernel_rfl
theorem cellsE : Tryd.prog.cellsOf 3 = 1 := by kernel_rfl
theorem hkey {a b : Int} (wa : wf a) (wb : wf b) : keyOf Tryd.prog 103 (.agg #[.int .i64 a, .int .i64 b]) = some (kl a b) := by
  have h1 : Tryd.prog.keyType 103 = true := by kernel_rfl
  have h3 : ∀ n, Tryd.prog.keyLits (n + 2) 103 [.int .i64 a, .int .i64 b] = some [.int .i64 a, .int .i64 b] := by
    intro n
    have e : List.range 2 = [0, 1] := rfl
    simp only [Program.keyLits, Tryd.underlying103, Tryd.underlying3, cellsK, cellsE, e]
    simp [wa, wb]
  have h4 : ∃ n, Tryd.prog.types.size + 1 = n + 2 := ⟨Tryd.prog.types.size - 1, by
    have : 1 ≤ Tryd.prog.types.size := of_decide_eq_true (by kernel_rfl)
    omega⟩
  obtain ⟨n, h4⟩ := h4
  unfold keyOf
  rw [Tryd.underlying103]
  simp only [h1, Value.formed, Tryd.underlying103, cellsK, h4, Value.cells]
  simp [h3, kl]
theorem kl_ne {a b c d : Int} (wa : wf a) (wb : wf b) (wc : wf c) (wd : wf d) (h : ¬ (a = c ∧ b = d)) : kl a b ≠ kl c d := by
  intro e
  have := law.inj (hkey wa wb) (e ▸ hkey wc wd)
  simp at this
  exact h this
def i64 (n : Int) : DataW Unit := .lit (.int .i64 n)
/-- Block B is the map that answers f. -/
def Pairs (w : World) (B n : Nat) (f : Int → Int → Option Int) : Prop :=
  ∃ D : DataW Unit, w.ownsMap Tryd.prog 103 (plainElem Tryd.prog 3) B n D ∧ ∀ a b, wf a → wf b → Maps.has D (kl a b) = (f a b).isSome ∧ D.atKey (kl a b) (i64 0) = i64 ((f a b).getD 0)
def upd (f : Int → Int → Option Int) (a b v : Int) : Int → Int → Option Int := fun x y => if x = a ∧ y = b then some v else f x y
def putF (f : Int → Int → Option Int) (a b v : Int) : Int → Int → Option Int := if (f a b).isSome then f else upd f a b v
theorem zeroE (w : World) : (zeroValue 3).run Tryd.prog w = .ok (.int .i64 0) w := by kernel_rfl
theorem Pairs.look {w : World} {B n : Nat} {f : Int → Int → Option Int} (h : Pairs w B n f) {a b : Int} (wa : wf a) (wb : wf b) :
    (Instr.lookup 101 (.map (some B)) (.agg #[.int .i64 a, .int .i64 b]) true).run Tryd.prog w = .ok (.tuple #[.int .i64 ((f a b).getD 0), .bool (f a b).isSome]) w := by
  obtain ⟨D, ho, hD⟩ := h
  obtain ⟨v, ps, hrun, hv⟩ := ho.look_ok law Tryd.underlying101 (zeroE w) (plainElem_int Tryd.underlying3 (by decide)) (hkey wa wb)
  obtain ⟨c, rfl, hc, _⟩ := plainElem_int_inv Tryd.underlying3 hv
  have h1 := (hD a b wa wb).2
  have h2 := congrArg Prod.fst hc
  simp only [i64] at h1
  rw [h1] at h2
  simp at h2
  rw [hrun, (hD a b wa wb).1, h2]
theorem Pairs.put {w : World} {B n : Nat} {f : Int → Int → Option Int} (h : Pairs w B n f) (hn : n < maxLen) {a b v : Int} (wa : wf a) (wb : wf b) (wv : wf v) :
    ∃ w', (Instr.mapUpdate 101 (.map (some B)) (.agg #[.int .i64 a, .int .i64 b]) (.int .i64 v)).run Tryd.prog w = .ok () w' ∧ Pairs w' B (n + 1) (upd f a b v) ∧ w.mapTurned w' B := by
  obtain ⟨D, ho, hD⟩ := h
  obtain ⟨w', hrun, ho', ht⟩ := ho.store law Tryd.underlying101 hn (hkey wa wb) (plainElem_int Tryd.underlying3 wv)
  refine ⟨w', hrun, ⟨_, ho', fun x y wx wy => ?_⟩, ht⟩
  unfold upd
  by_cases hxy : x = a ∧ y = b
  · obtain ⟨rfl, rfl⟩ := hxy
    rw [if_pos ⟨rfl, rfl⟩]
    exact ⟨by rw [has_put_same ho.isMap (law.key (hkey wa wb))]; rfl, by rw [atKey_put_same ho.isMap (law.key (hkey wa wb))]; rfl⟩
  · rw [if_neg hxy]
    have hne := kl_ne wx wy wa wb hxy
    exact ⟨by rw [has_put_other hne]; exact (hD x y wx wy).1, by rw [atKey_put_other hne]; exact (hD x y wx wy).2⟩
theorem Pairs.made (w : World) : Pairs (w.alloc (.map #[] 0)) w.heap.size 0 (fun _ _ => none) :=
  ⟨.map [], World.ownsMap_made _ _ _ _, fun _ _ _ _ => ⟨rfl, rfl⟩⟩
theorem Pairs.same {w w' : World} {B n : Nat} {f : Int → Int → Option Int} (h : Pairs w B n f) (hb : w'.heap[B]? = w.heap[B]?) : Pairs w' B n f := by
  obtain ⟨D, ⟨es, clock, h1, r⟩, hD⟩ := h
  exact ⟨D, ⟨es, clock, hb.trans h1, r⟩, hD⟩
theorem Pairs.lt {w : World} {B n : Nat} {f : Int → Int → Option Int} (h : Pairs w B n f) : B < w.heap.size := by
  obtain ⟨D, ho, hD⟩ := h
  exact ho.lt
theorem Pairs.below {w w' : World} {B n : Nat} {f : Int → Int → Option Int} (h : Pairs w B n f) (hb : Below w.heap.size w w') : Pairs w' B n f := h.same (hb.block B h.lt)
theorem Pairs.mono {w : World} {B n m : Nat} {f : Int → Int → Option Int} (h : Pairs w B n f) (hm : n ≤ m) : Pairs w B m f := by
  obtain ⟨D, ho, hD⟩ := h
  exact ⟨D, ho.mono hm, hD⟩

set_option maxHeartbeats 1000000 in
set_option maxRecDepth 100000 in
theorem put_calls (a b v : Int) (g B n : Nat) (f : Int → Int → Option Int) (w : World) (wa : wf a) (wb : wf b) (wv : wf v) (hn : n < maxLen) (hg : w.cell? ⟨g, 0, none⟩ = some (.map (some B))) (hP : Pairs w B n f) :
    Calls Tryd.prog 77 #[.int .i64 a, .int .i64 b, .int .i64 v, .pointer (some ⟨g, 0, none⟩)] w fun e w' => e = .returned (.tuple #[]) ∧ Pairs w' B (n + 1) (putF f a b v) ∧ w.grownBy w' (some B) := by
  have hl := hP.look wa wb
  cases hf : f a b with
  | some x =>
    have HP := Aside0.mk hP
    clear hP
    rw [hf] at hl
    simp only [Option.getD_some, Option.isSome_some] at hl
    have e : putF f a b v = f := by unfold putF; rw [hf]; rfl
    have HE := Aside0.mk e
    clear e hf
    go_enter Tryd.func77, Tryd.ntmps77
    go_wp2
    go_end0
    rw [HE.out]
    exact ⟨rfl, HP.out.mono (Nat.le_succ _), ⟨rfl, rfl, rfl, Nat.le_refl _, fun _ _ _ => rfl⟩⟩
  | none =>
    obtain ⟨w2, hrun, hP2, ht⟩ := hP.put hn wa wb wv
    have HP := Aside0.mk hP2
    have HT := Aside0.mk ht
    clear hP hP2 ht
    rw [hf] at hl
    simp only [Option.getD_none, Option.isSome_none] at hl
    have e : putF f a b v = upd f a b v := by unfold putF; rw [hf]; rfl
    have HE := Aside0.mk e
    clear e hf
    go_enter Tryd.func77, Tryd.ntmps77
    go_wp2
    go_end0
    rw [HE.out]
    exact ⟨rfl, HP.out, HT.out.grown⟩

def stepF (f : Int → Int → Option Int) (c : S47) : Int → Int → Option Int := putF (putF f c.f0 c.f1 c.f2) c.f1 c.f0 c.f3
/-- The intergreens by pairs. -/
def interF (l : List S47) : Int → Int → Option Int := l.foldl stepF (fun _ _ => none)
def okC (c : S47) : Prop := wf c.f0 ∧ wf c.f1 ∧ wf c.f2 ∧ wf c.f3

theorem alloc_self (w : World) (o : Obj) : (w.alloc o).heap[w.heap.size]? = some o := by
  show (w.heap.push o)[w.heap.size]? = some o
  exact Array.getElem?_push_size
theorem alloc_size (w : World) (o : Obj) : (w.alloc o).heap.size = w.heap.size + 1 := by simp
theorem alloc_old {w : World} {o : Obj} {k : Nat} (h : k < w.heap.size) : (w.alloc o).heap[k]? = w.heap[k]? := ((Below.refl w.heap.size w).alloc (Nat.le_refl _) o).block k h
theorem start_map (w : World) (o1 o3 : Obj) : Pairs (((w.alloc o1).alloc (.map #[] 0)).alloc o3) (w.heap.size + 1) 0 (fun _ _ => none) := by
  have h := Pairs.made (w.alloc o1)
  rw [alloc_size] at h
  exact h.same (alloc_old (by rw [alloc_size, alloc_size]; omega))
theorem start_box (w : World) (o1 o2 o3 : Obj) : (((w.alloc o1).alloc o2).alloc o3).heap[w.heap.size + 1 + 1]? = some o3 := by
  have h := alloc_self ((w.alloc o1).alloc o2) o3
  rw [alloc_size, alloc_size] at h
  exact h
theorem below_grown {base : Nat} {w W W' : World} {b : Nat} (h : Below base w W) (hg : W.grownBy W' (some b)) (hb : base ≤ b) (hs : base ≤ W.heap.size) : Below base w W' :=
  ⟨hg.os.trans h.os, hg.tape.trans h.tape, hg.output.trans h.output, Nat.le_trans h.size hg.size, fun k hk => (hg.block k (by omega) (by simp; omega)).trans (h.block k hk)⟩
theorem rd_mem {l : List S47} {x : Int} (h0 : 0 ≤ x) (h : x < (l.length : Int)) : rd_T47 l x ∈ l := by
  unfold rd_T47
  rw [List.getD_eq_getElem?_getD, List.getElem?_eq_getElem (by omega)]
  exact List.getElem_mem _
theorem interF_step {l : List S47} {x : Int} (h0 : 0 ≤ x) (h : x < (l.length : Int)) : interF (l.take (x + 1).toNat) = stepF (interF (l.take x.toNat)) (rd_T47 l x) := by
  have e : (x + 1).toNat = x.toNat + 1 := by omega
  have hl : x.toNat < l.length := by omega
  unfold interF rd_T47
  rw [e, List.take_succ_eq_append_getElem hl, List.foldl_append, List.getD_eq_getElem?_getD, List.getElem?_eq_getElem hl]
  rfl
def Post (l1 : List S47) (w : World) (e : Ending) (w' : World) : Prop := ∃ B n, e = .returned (.map (some B)) ∧ n ≤ 2 * l1.length ∧ Pairs w' B n (interF l1) ∧ Below w.heap.size w w'

set_option maxHeartbeats 2000000 in
set_option maxRecDepth 100000 in
theorem pairsOf_calls (A0 : Option Addr) (n0 c0 : Nat) (A1 : Option Addr) (c1 : Nat) (l1 : List S47) (w : World) (hr : Kd.C k47 w A1 l1.length l1) (hc : l1.length ≤ 140737488351232) (hok : ∀ c ∈ l1, okC c) :
    Calls Tryd.prog 52 #[.agg #[.slice A0 n0 c0, .slice A1 l1.length c1]] w (Post l1 w) := by
  have HR := Aside0.mk hr
  have HK := Aside0.mk hok
  clear hr hok
  have hmm := @run_makeMap Tryd.prog
  go_enter Tryd.func52, Tryd.ntmps52
  go_wp2
  go_loopw [12] (fun i wr => ∃ x : Int, 0 ≤ x ∧ x ≤ (l1.length : Int) ∧ i = .int .i64 x ∧ Aside0 (Pairs wr (w.heap.size + 1) (2 * x.toNat) (interF (l1.take x.toNat))) ∧ Aside0 (wr.heap[w.heap.size + 1 + 1]? = some (.cells #[.map (some (w.heap.size + 1))] 101 (0, 0))) ∧ Aside0 (Below w.heap.size w wr)) (fun i _ => l1.length - (intOf i).toNat)
  case atStart => exact ⟨0, by omega, by omega, rfl, ⟨start_map _ _ _⟩, ⟨start_box _ _ _ _⟩, ⟨by repeat (first | (with_reducible first | exact Below.refl _ _ | apply below_alloc | apply pw_below_drewN | apply below_drew1) | exact Below.refl _ _)⟩⟩
  case round =>
    obtain ⟨x, hx0, hx1, rfl, HP, HG, HB⟩ := hrel
    by_cases hlt : x < (l1.length : Int)
    · obtain ⟨ad, rfl, y0, y1, y2, y3⟩ := at_T47 (HR.out) x hx0 hlt
      replace y0 := (HB.out.cell (World.block_lt_of_cell? w _ y0)).trans y0
      replace y1 := (HB.out.cell (World.block_lt_of_cell? w _ y1)).trans y1
      replace y2 := (HB.out.cell (World.block_lt_of_cell? w _ y2)).trans y2
      replace y3 := (HB.out.cell (World.block_lt_of_cell? w _ y3)).trans y3
      have g0 : wr.cell? ⟨w.heap.size + 1 + 1, 0, none⟩ = some (.map (some (w.heap.size + 1))) := (blk_cell HG.out 0).trans rfl
      have hz : w.heap.size + 1 + 1 < wr.heap.size := blk_lt HG.out
      have hko := HK.out (rd_T47 l1 x) (rd_mem hx0 hlt)
      go_wp2_with fail
      refine (put_calls (rd_T47 l1 x).f0 (rd_T47 l1 x).f1 (rd_T47 l1 x).f2 (w.heap.size + 1 + 1) (w.heap.size + 1) (2 * x.toNat) (interF (l1.take x.toNat)) _ hko.1 hko.2.1 hko.2.2.1 (by unfold maxLen; omega) (by go_simp) (HP.out.below ((Below.refl _ _).alloc (Nat.le_refl _) _))).mono ?_
      rintro e w2 ⟨rfl, hP2, hg2⟩
      have z0 := hg2.cell (a := ⟨wr.heap.size, 0, none⟩) (v := .int .i64 (rd_T47 l1 x).f0) (by go_simp) (by simp; omega)
      have z1 := hg2.cell (a := ⟨wr.heap.size, 1, none⟩) (v := .int .i64 (rd_T47 l1 x).f1) (by go_simp) (by simp; omega)
      have z3 := hg2.cell (a := ⟨wr.heap.size, 3, none⟩) (v := .int .i64 (rd_T47 l1 x).f3) (by go_simp) (by simp; omega)
      have z4 := hg2.cell (a := ⟨w.heap.size + 1 + 1, 0, none⟩) (v := .map (some (w.heap.size + 1))) (by go_simp) (by simp)
      have hs2 := hg2.size
      go_wp2_with fail
      refine (put_calls (rd_T47 l1 x).f1 (rd_T47 l1 x).f0 (rd_T47 l1 x).f3 (w.heap.size + 1 + 1) (w.heap.size + 1) (2 * x.toNat + 1) (putF (interF (l1.take x.toNat)) (rd_T47 l1 x).f0 (rd_T47 l1 x).f1 (rd_T47 l1 x).f2) _ hko.2.1 hko.1 hko.2.2.2 (by unfold maxLen; omega) z4 hP2).mono ?_
      rintro e w3 ⟨rfl, hP3, hg3⟩
      go_wp2
      go_roundw
      case rel =>
        refine ⟨x + 1, by omega, by omega, by first | rfl | go_num, ⟨?_⟩, ⟨?_⟩, ⟨?_⟩⟩
        · rw [interF_step hx0 hlt]
          exact hP3.mono (by omega)
        · have h1 : w2.heap[w.heap.size + 1 + 1]? = wr.heap[w.heap.size + 1 + 1]? := (hg2.block _ (by rw [alloc_size]; omega) (by simp)).trans (alloc_old hz)
          exact (hg3.block _ (by simp at hs2; omega) (by simp)).trans (h1.trans HG.out)
        · exact below_grown (below_grown (below_alloc HB.out _) hg2 (by omega) (by rw [alloc_size]; omega)) hg3 (by omega) (by simp at hs2; omega)
      case measure => simp [intOf]; omega
    · have hd : decide (x < (l1.length : Int)) = false := decide_eq_false hlt
      have g0 : wr.cell? ⟨w.heap.size + 1 + 1, 0, none⟩ = some (.map (some (w.heap.size + 1))) := (blk_cell HG.out 0).trans rfl
      go_wp2
      go_ret
      have hxe : x.toNat = l1.length := by omega
      refine ⟨w.heap.size + 1, 2 * l1.length, rfl, by omega, ?_, HB.out⟩
      have := HP.out
      rw [hxe, List.take_length] at this
      exact this
def okCb (c : S47) : Bool := (Lit.int .i64 c.f0).wf && ((Lit.int .i64 c.f1).wf && ((Lit.int .i64 c.f2).wf && (Lit.int .i64 c.f3).wf))
theorem okC_of {c : S47} (h : okCb c = true) : okC c := by
  simp only [okCb, Bool.and_eq_true] at h
  exact h
/-- What the tables' conflicts must be for the map: numbers of their kind, and not too many. -/
def okL (l : List S47) : Bool := decide (l.length ≤ 140737488351232) && l.all okCb
theorem okL_of {l : List S47} (h : okL l = true) : l.length ≤ 140737488351232 ∧ ∀ c ∈ l, okC c := by
  simp only [okL, Bool.and_eq_true, decide_eq_true_eq, List.all_eq_true] at h
  exact ⟨h.1, fun c hc => okC_of (h.2 c hc)⟩
end Pr

def safety_Inter.f (_l0 : List S42) (l1 : List S47) (a b : Int) : Option (Int × Bool) := if (Pr.okL l1 && ((Lit.int .i64 a).wf && (Lit.int .i64 b).wf)) = true then some ((Pr.interF l1 a b).getD 0, (Pr.interF l1 a b).isSome) else none
set_option maxHeartbeats 2000000 in
set_option maxRecDepth 100000 in
theorem safety_Inter.calls (A0_0 : Option Addr) (c0_0 : Nat) (l0_0 : List (S42)) (A0_1 : Option Addr) (c0_1 : Nat) (l0_1 : List (S47)) (a1 : Int) (a2 : Int) (r1 : Int) (r2 : Bool) (w : World) (_hr0_0 : Kd.C k42 w A0_0 l0_0.length l0_0) (_hc0_0 : l0_0.length ≤ c0_0) (hr0_1 : Kd.C k47 w A0_1 l0_1.length l0_1) (_hc0_1 : l0_1.length ≤ c0_1) (h : safety_Inter.f l0_0 l0_1 a1 a2 = some (r1, r2)) :
    Calls Tryd.prog 22 #[.agg #[.slice A0_0 l0_0.length c0_0, .slice A0_1 l0_1.length c0_1], .int .i64 a1, .int .i64 a2] w fun e w' => e = .returned (.tuple #[.int .i64 r1, .bool r2]) ∧ Below w.heap.size w w' := by
  unfold safety_Inter.f at h
  split at h
  · rename_i hok
    simp only [Bool.and_eq_true] at hok
    obtain ⟨hl, wa, wb⟩ := hok
    obtain ⟨hlen, hcs⟩ := Pr.okL_of hl
    simp only [Option.some.injEq, Prod.mk.injEq] at h
    obtain ⟨rfl, rfl⟩ := h
    have HR := Aside0.mk hr0_1
    have HC := Aside0.mk hcs
    have WA := Aside0.mk wa
    have WB := Aside0.mk wb
    clear hr0_1 hcs hl wa wb
    go_enter Tryd.func22, Tryd.ntmps22
    go_wp2_with fail
    refine (Pr.pairsOf_calls A0_0 l0_0.length c0_0 A0_1 c0_1 l0_1 _ (Kd.C_below HR.out ((Below.refl _ _).alloc (Nat.le_refl _) _)) hlen HC.out).mono ?_
    rintro e w1 ⟨B, n, rfl, _, hP, hb⟩
    have hl := hP.look WA.out WB.out
    go_wp2
    go_ret2
    exact ⟨rfl, below_step (below_alloc (Below.refl _ _) _) hb⟩
  · exact absurd h (by simp)
end Go.Proofs.YtdgempbldhdihaaDoor.P
