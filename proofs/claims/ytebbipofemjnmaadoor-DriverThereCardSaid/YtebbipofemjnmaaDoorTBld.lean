/- strings.Builder in memory of the caller's: WriteString and String as the machine over data takes them. -/
import Derived.Test.YtebbipofemjnmaaDoorTKindsTryd
import Derived.Test.YtebbipofemjnmaaDoorTAm20
import Derived.Shelf.Strings.Builder1
import Derived.Test.YtebbipofemjnmaaDoorProg
import Derived.KernelRfl
import Derived.ProofKit
namespace Go.Am.Tryd
open Go.Proofs Go.Am Go.RowKit
set_option maxRecDepth 100000
set_option linter.unusedVariables false

/-- All but two blocks is as it was. -/
structure But (w w' : World) (b : Nat) (row : Option Nat) : Prop where
  os : w'.os = w.os
  tape : w'.tape = w.tape
  output : w'.output = w.output
  size : w.heap.size ≤ w'.heap.size
  keep : ∀ k, k < w.heap.size → k ≠ b → row ≠ some k → w'.heap[k]? = w.heap[k]?
theorem sizeB : ∃ j, Tryd.prog.info? 48 = some j ∧ j.size = 2 := Option.map_eq_some_iff.1 (show (Tryd.prog.info? 48).map (·.size) = some 2 by kernel_rfl)
theorem liesB : liesAt Tryd.prog Tryd.prog.depth 48 (2 / Tryd.prog.cellsOf 48) 0 48 1 = true := by kernel_rfl
theorem mixedB : Tryd.prog.follows .mixedOrders = true := by kernel_rfl

set_option maxHeartbeats 1000000 in
theorem check_used (b : Nat) (w : World) (h0 : w.cell? ⟨b, 0, none⟩ = some (.pointer (some ⟨b, 0, none⟩))) :
    Calls Tryd.prog 40 #[.pointer (some ⟨b, 0, none⟩)] w fun e w' => e = .returned (.tuple #[]) ∧ w' = w := by
  obtain ⟨j, hj, _⟩ := sizeB
  have mixed := mixedB
  have u45 := run_underlying (P := Tryd.prog) Tryd.underlying45
  have u48 := run_underlying (P := Tryd.prog) Tryd.underlying48
  go_enter Tryd.func40, Tryd.ntmps40
  go_wp2
  rw [Lib.run_neq_ptr_same w _ Tryd.underlying45 hj]
  go_wp2
  go_end0
  exact ⟨rfl, rfl⟩
set_option maxHeartbeats 1000000 in
theorem check_fresh (b : Nat) (w : World) (h0 : w.cell? ⟨b, 0, none⟩ = some (.pointer none)) (hsh : w.shape? b = some (48, 2)) (hfz : w.frozen? ⟨b, 0, none⟩ = false) :
    Calls Tryd.prog 40 #[.pointer (some ⟨b, 0, none⟩)] w fun e w' => e = .returned (.tuple #[]) ∧ w' = w.setCell ⟨b, 0, none⟩ (.pointer (some ⟨b, 0, none⟩)) := by
  obtain ⟨j, hj, hjs⟩ := sizeB
  have mixed := mixedB
  have u45 := run_underlying (P := Tryd.prog) Tryd.underlying45
  have u48 := run_underlying (P := Tryd.prog) Tryd.underlying48
  have u67 := run_underlying (P := Tryd.prog) Tryd.underlying67
  go_enter Tryd.func40, Tryd.ntmps40
  go_wp2
  rw [Lib.run_to_unsafe w ⟨b, 0, none⟩ Tryd.underlying45 Tryd.underlying67 hj (by rw [hjs]; decide) hsh (Nat.zero_lt_succ 1)]
  simp only [Result.andThen]
  rw [Oper.upon_value]
  go_wp2
  rw [run_callFunc_extern Tryd.func46 (by kernel_rfl) (by kernel_rfl) (by kernel_rfl) (e := Extern.AbiNoEscape.same) (by kernel_rfl)]
  rw [Lib.run_noEscape]
  simp only [Result.andThen]
  rw [Oper.upon_value]
  go_wp2
  rw [Lib.run_from_unsafe w ⟨b, 0, none⟩ Tryd.underlying67 Tryd.underlying45 hj hsh liesB]
  simp only [Result.andThen]
  rw [Oper.upon_value]
  go_wp2
  go_end0
  exact ⟨rfl, rfl⟩

theorem But.refl (w : World) (b : Nat) (row : Option Nat) : But w w b row := ⟨rfl, rfl, rfl, Nat.le_refl _, fun _ _ _ _ => rfl⟩
theorem But.set {w w' : World} {b : Nat} {row : Option Nat} (h : But w w' b row) (o : Nat) (v : Value) : But w (w'.setCell ⟨b, o, none⟩ v) b row :=
  ⟨h.os, h.tape, h.output, by simpa [World.setCell] using h.size, fun k hk hb hr => (Below.heap_setCell _ _ _ _ (fun e => hb e)).trans (h.keep k hk hb hr)⟩
theorem But.grown {w w1 w2 : World} {b : Nat} {row : Option Nat} (h : But w w1 b row) (g : w1.grownBy w2 row) : But w w2 b row :=
  ⟨g.os.trans h.os, g.tape.trans h.tape, g.output.trans h.output, Nat.le_trans h.size g.size, fun k hk hb hr => (g.block k (Nat.lt_of_lt_of_le hk h.size) (fun e => hr e.symm)).trans (h.keep k hk hb hr)⟩

/-- copyCheck at either: the builder's own address lies there. -/
theorem check (b : Nat) (p v : Value) (w : World) (hbk : w.heap[b]? = some (.cells #[p, v] 48 (0, 0))) (hp : p = .pointer none ∨ p = .pointer (some ⟨b, 0, none⟩)) :
    Calls Tryd.prog 40 #[.pointer (some ⟨b, 0, none⟩)] w fun e w' => e = .returned (.tuple #[]) ∧ w'.heap[b]? = some (.cells #[.pointer (some ⟨b, 0, none⟩), v] 48 (0, 0)) ∧ But w w' b none := by
  rcases hp with rfl | rfl
  · refine (check_fresh b w (by rw [Lib.cell_of_heap hbk]; rfl) (by simp [World.shape?, hbk]) (Lib.frozen_of_heap hbk 0)).mono ?_
    rintro e w' ⟨rfl, rfl⟩
    exact ⟨rfl, by simp [World.setCell, Array.getElem?_modify, hbk], (But.refl w b none).set 0 _⟩
  · refine (check_used b w (by rw [Lib.cell_of_heap hbk]; rfl)).mono ?_
    rintro e w' ⟨rfl, rfl⟩
    exact ⟨rfl, hbk, But.refl _ b none⟩

theorem append_place {P : Program} (w : World) (t u ty e : TypeId) (i : TypeInfo) (ht : P.underlying t = some (.slice e)) (hu : P.underlying u = some .string) (hi : P.info? e = some i) (hz : i.zero = some (.int .u8 0))
    (hsize : i.size = 1) (hby : i.bytes = 1) (v : Value) (n : Nat) (xs : List Value) (hown : w.ownsRow 0 e 1 v n xs) (s : ByteArray) (h63 : n + s.size ≤ maxLen) (hbytes : n + s.size ≤ 140737488355328) :
    ∃ v' w', (Builtin.append_ #[t, u] ty #[v, .string s]).run P w = .ok v' w' ∧ w'.ownsRow 0 e 1 v' (n + s.size) (xs ++ Lib.strCells s) ∧ w.grownBy w' v.ownBlock ∧ ∀ k, v'.ownBlock = some k → v.ownBlock = some k ∨ w.heap.size ≤ k := by
  rcases hown.2 with ⟨rfl, rfl⟩ | ⟨g, cap, cur, rfl, h0, hg, hn, hm, hs, htk⟩
  · obtain ⟨v', w', h1, h2, h3, h4⟩ := Lib.run_append_own_string (P := P) w w.heap.size t u ty e i ht hu hi hz hsize hby (.slice none 0 0) 0 xs ⟨hown.1, .inl ⟨rfl, rfl⟩⟩ s h63 hbytes (Nat.le_refl _)
    exact ⟨v', w', h1, ⟨h2.1, h2.2.imp id fun ⟨g, cap, cur, a, b, r⟩ => ⟨g, cap, cur, a, Nat.zero_le _, r⟩⟩, h3, fun k hk => .inr (h2.lt k hk).1⟩
  · obtain ⟨v', w', h1, h2, h3, h4⟩ := Lib.run_append_own_string (P := P) w 0 t u ty e i ht hu hi hz hsize hby (.slice (some ⟨g, 0, none⟩) n cap) n xs hown s h63 hbytes (Nat.zero_le _)
    refine ⟨v', w', h1, h2, h3, fun k hk => ?_⟩
    by_cases hr : n + s.size ≤ cap
    · have := Lib.run_append_room_string (P := P) w t u ty e i ht hu hi hsize g n cap cur hg s hr (by omega)
      rw [h1] at this
      injection this with e1
      subst e1
      exact .inl hk
    · have := Lib.run_append_grow_string (P := P) w t u ty e i (.int .u8 0) ht hu hi hz ⟨g, 0, none⟩ n cap xs (by rw [hown.1, hsize]) (fun j v hj => hown.cells (g := g) rfl j v hj) s (by omega) (by unfold maxLen at h63; omega) (by
        exact growslice_fits (by omega) (by rw [hby, Nat.mul_one]; exact hbytes))
      rw [h1] at this
      injection this with e1
      subst e1
      simp only [Value.ownBlock, Option.some.injEq] at hk
      exact .inr (by omega)
theorem wp_append {P : Program} {w : World} {ops : Array Oper} {rest : List Oper} {o : Oper} {a : Act} {Q : Exit → Act → World → Prop} (hgd : o.guard = none) (sl x : Operand) (t u : TypeId)
    (ho : o.op = .call { callee := .builtin .append, args := #[sl, x], argTypes := #[t, u] })
    (e : TypeId) (i : TypeInfo) (ht : P.underlying t = some (.slice e)) (hu : P.underlying u = some .string) (hi : P.info? e = some i) (hz : i.zero = some (.int .u8 0))
    (hsize : i.size = 1) (hby : i.bytes = 1)
    (v : Value) (n : Nat) (xs : List Value) (hs : a.eval sl = v) (hown : w.ownsRow 0 e 1 v n xs) (s : ByteArray) (hx : a.eval x = .string s)
    (h63 : n + s.size ≤ maxLen) (hbytes : n + s.size ≤ 140737488355328)
    (h : ∀ v' w', w'.ownsRow 0 e 1 v' (n + s.size) (xs ++ Lib.strCells s) → w.grownBy w' v.ownBlock → (∀ k, v'.ownBlock = some k → v.ownBlock = some k ∨ w.heap.size ≤ k) → wpList P ops Q rest (a.put o.dst v') w') : wpList P ops Q (o :: rest) a w := by
  refine wpList_plain hgd fun K hK => ?_
  obtain ⟨v', w', hr, h2, h3, h4⟩ := append_place (P := P) w t u o.type e i ht hu hi hz hsize hby v n xs hown s h63 hbytes
  unfold Oper.wp execOp
  simp only [ho, resolve, invoke, builtin, Sem.run_bind, Sem.run_pure, Result.andThen_ok, List.map_toArray, List.map_cons, List.map_nil, hs, hx, hr]
  exact hK _ _ (h v' w' h2 h3 h4)

set_option maxHeartbeats 2000000 in
theorem write (b n : Nat) (p v : Value) (bs : List Value) (s : ByteArray) (w : World) (hbk : w.heap[b]? = some (.cells #[p, v] 48 (0, 0))) (hp : p = .pointer none ∨ p = .pointer (some ⟨b, 0, none⟩))
    (hown : w.ownsRow 0 5 1 v n bs) (hlen : n + s.size ≤ 140737488355328) :
    Calls Tryd.prog 22 #[.pointer (some ⟨b, 0, none⟩), .string s] w fun e w' => e = .returned (.tuple #[.int .i64 s.size, .nilIface]) ∧
      ∃ v', w'.heap[b]? = some (.cells #[.pointer (some ⟨b, 0, none⟩), v'] 48 (0, 0)) ∧ w'.ownsRow 0 5 1 v' (n + s.size) (bs ++ Lib.strCells s) ∧ But w w' b v.ownBlock ∧ ∀ k, v'.ownBlock = some k → v.ownBlock = some k ∨ w.heap.size ≤ k := by
  obtain ⟨i0, hi, hz0, hz1, hz2⟩ := info_parts (show (Tryd.prog.info? 5).map (fun i => (i.zero, i.size, i.bytes)) = some (some (.int .u8 0), 1, 1) by kernel_rfl)
  have mixed := mixedB
  have u45 := run_underlying (P := Tryd.prog) Tryd.underlying45
  have u48 := run_underlying (P := Tryd.prog) Tryd.underlying48
  have u46 := run_underlying (P := Tryd.prog) Tryd.underlying46
  have e40 : ∀ args w, (callFunc 40 args).run Tryd.prog w = .ok (.enter 40 args) w := enters_of Tryd.func40 (by kernel_rfl) rfl
  go_enter Tryd.func22, Tryd.ntmps22
  go_wp2_with (go_at_fn 40; refine (check b p v _ hbk hp).mono ?_)
  rintro e w1 ⟨rfl, hb1, bt1⟩
  have hne : ∀ {u : World} {y : Value} {m : Nat} {ys : List Value} {cs : Array Value}, u.ownsRow 0 5 1 y m ys → u.heap[b]? = some (.cells cs 48 (0, 0)) → y.ownBlock ≠ some b := fun h1 h2 => Lib.ownBlock_ne h1 h2 (by decide)
  have hvb := hne hown hbk
  have hown1 : w1.ownsRow 0 5 1 v n bs := by
    refine ⟨hown.1, ?_⟩
    rcases hown.2 with h | ⟨g, cap, cur, hv, h0, hg, r⟩
    · exact .inl h
    · refine .inr ⟨g, cap, cur, hv, h0, ?_, r⟩
      rw [bt1.keep g (by rcases Nat.lt_or_ge g w.heap.size with h' | h'; exact h'; simp [Array.getElem?_eq_none h'] at hg) (fun e => hvb (by rw [hv]; simp [Value.ownBlock, e])) (by simp)]
      exact hg
  have c0 : w1.cell? ⟨b, 0, none⟩ = some (.pointer (some ⟨b, 0, none⟩)) := by rw [Lib.cell_of_heap hb1]; rfl
  have c1 : w1.cell? ⟨b, 1, none⟩ = some v := by rw [Lib.cell_of_heap hb1]; rfl
  go_wp2_with (at_builtin; refine wp_append rfl _ _ 46 9 rfl 5 i0 Tryd.underlying46 Tryd.underlying9 hi hz0 hz1 hz2 _ _ _ rfl hown1 s rfl ?c3 ?c4 ?_)
  case c3 => unfold maxLen; omega
  case c4 => omega
  intro v' w2 hown' hgrow hplace
  have hlt : b < w1.heap.size := by
    rcases Nat.lt_or_ge b w1.heap.size with h' | h'
    · exact h'
    · simp [Array.getElem?_eq_none h'] at hb1
  have hb2 : w2.heap[b]? = some (.cells #[.pointer (some ⟨b, 0, none⟩), v] 48 (0, 0)) := by
    rw [hgrow.block b hlt (fun e => hvb e.symm)]
    exact hb1
  have d0 : w2.cell? ⟨b, 0, none⟩ = some (.pointer (some ⟨b, 0, none⟩)) := by rw [Lib.cell_of_heap hb2]; rfl
  have d1 : w2.cell? ⟨b, 1, none⟩ = some v := by rw [Lib.cell_of_heap hb2]; rfl
  have f1 : w2.frozen? ⟨b, 1, none⟩ = false := Lib.frozen_of_heap hb2 1
  obtain ⟨ao, n', cap, hv'⟩ : ∃ ao n' cap, v' = .slice ao n' cap := by
    rcases hown'.2 with ⟨hv, _⟩ | ⟨g, cap, cur, hv, _⟩
    · exact ⟨_, _, _, hv⟩
    · exact ⟨_, _, _, hv⟩
  subst hv'
  go_wp2
  go_ret2
  refine ⟨rfl, .slice ao n' cap, by simp [World.setCell, Array.getElem?_modify, hb2], ?_, ?_, ?_⟩
  · exact hown'.kept (row := some b) ⟨rfl, rfl, rfl, by simp [World.setCell], fun k _ hk => Below.heap_setCell _ _ _ _ (fun e => hk (by simp [e]))⟩ (Or.inr (hne hown' hb2))
  · have bt : But w w1 b v.ownBlock := ⟨bt1.os, bt1.tape, bt1.output, bt1.size, fun k hk hb _ => bt1.keep k hk hb (by simp)⟩
    exact (bt.grown hgrow).set 1 _
  · exact fun k hk => (hplace k hk).imp id fun h => Nat.le_trans bt1.size h

theorem byteInfo : ∃ i0, Tryd.prog.info? 5 = some i0 ∧ i0.zero = some (.int .u8 0) ∧ i0.size = 1 ∧ i0.bytes = 1 := info_parts (show (Tryd.prog.info? 5).map (fun i => (i.zero, i.size, i.bytes)) = some (some (.int .u8 0), 1, 1) by kernel_rfl)
/-- String, the two library steps being told. -/
theorem read (b n cap : Nat) (ao q : Option Addr) (p : Value) (r : ByteArray) (w W : World)
    (hbk : w.heap[b]? = some (.cells #[p, .slice ao n cap] 48 (0, 0)))
    (hSD : (Builtin.unsafeSliceData_ #[46] 64 #[.slice ao n cap]).run Tryd.prog w.drew = .ok (.pointer q) w.drew)
    (hUS : (Builtin.unsafeString_ #[64, 3] 9 #[.pointer q, .int .i64 n]).run Tryd.prog w.drew = .ok (.string r) W) :
    Calls Tryd.prog 24 #[.pointer (some ⟨b, 0, none⟩)] w fun e w' => e = .returned (.string r) ∧ w' = W := by
  have c1 : w.drew.cell? ⟨b, 1, none⟩ = some (.slice ao n cap) := by
    have : w.drew.heap[b]? = some (.cells #[p, .slice ao n cap] 48 (0, 0)) := hbk
    rw [Lib.cell_of_heap this]; rfl
  have mixed := mixedB
  have u45 := run_underlying (P := Tryd.prog) Tryd.underlying45
  have u48 := run_underlying (P := Tryd.prog) Tryd.underlying48
  have u46 := run_underlying (P := Tryd.prog) Tryd.underlying46
  have u64 := run_underlying (P := Tryd.prog) Tryd.underlying64
  go_enter Tryd.func24, Tryd.ntmps24
  go_wp2
  go_region_o
  all_goals (go_wp2; go_ret; exact ⟨rfl, rfl⟩)
theorem read_noroom (b g : Nat) (p : Value) (cur : Array Value) (w : World) (hbk : w.heap[b]? = some (.cells #[p, .slice (some ⟨g, 0, none⟩) 0 0] 48 (0, 0))) (hg : w.heap[g]? = some (.cells cur 5 (0, 0))) :
    Calls Tryd.prog 24 #[.pointer (some ⟨b, 0, none⟩)] w fun e w' => e = .returned (.string ⟨#[]⟩) ∧ w' = w.drew.alloc (.view ⟨g, 0, none⟩ 5) := by
  have hUS : ∀ (W : World) (q : Option Addr), (Builtin.unsafeString_ #[64, 3] 9 #[.pointer q, .int .i64 0]).run Tryd.prog W = .ok (.string .empty) W := fun W q => Lib.run_unsafeString_none W _ _ _ q
  have hlt : b < w.heap.size := by
    rcases Nat.lt_or_ge b w.heap.size with h' | h'
    · exact h'
    · simp [Array.getElem?_eq_none h'] at hbk
  have c1 : w.drew.cell? ⟨b, 1, none⟩ = some (.slice (some ⟨g, 0, none⟩) 0 0) := by
    have : w.drew.heap[b]? = some (.cells #[p, .slice (some ⟨g, 0, none⟩) 0 0] 48 (0, 0)) := hbk
    rw [Lib.cell_of_heap this]; rfl
  have hSD : (Builtin.unsafeSliceData_ #[46] 64 #[.slice (some ⟨g, 0, none⟩) 0 0]).run Tryd.prog w.drew = .ok (.pointer (some ⟨w.drew.heap.size, 0, none⟩)) (w.drew.alloc (.view ⟨g, 0, none⟩ 5)) :=
    Lib.run_unsafeSliceData_zero w.drew _ _ 5 Tryd.underlying64 ⟨g, 0, none⟩ 0 (5, cur.size) (by have hg' : w.drew.heap[g]? = some (.cells cur 5 (0, 0)) := hg; simp [World.shape?, hg'])
  have c2 : (w.drew.alloc (.view ⟨g, 0, none⟩ 5)).cell? ⟨b, 1, none⟩ = some (.slice (some ⟨g, 0, none⟩) 0 0) := by
    have : (w.drew.alloc (.view ⟨g, 0, none⟩ 5)).heap[b]? = _ := (Lib.alloc_old w.drew _ b hlt).trans hbk
    rw [Lib.cell_of_heap this]; rfl
  have c3 : (w.alloc (.view ⟨g, 0, none⟩ 5)).drew.cell? ⟨b, 1, none⟩ = some (.slice (some ⟨g, 0, none⟩) 0 0) := c2
  have c0 : w.cell? ⟨b, 1, none⟩ = some (.slice (some ⟨g, 0, none⟩) 0 0) := c1
  have mixed := mixedB
  have u45 := run_underlying (P := Tryd.prog) Tryd.underlying45
  have u48 := run_underlying (P := Tryd.prog) Tryd.underlying48
  have u46 := run_underlying (P := Tryd.prog) Tryd.underlying46
  have u64 := run_underlying (P := Tryd.prog) Tryd.underlying64
  go_enter Tryd.func24, Tryd.ntmps24
  go_wp2
  go_region_o
  all_goals (go_wp2; go_ret; exact ⟨rfl, rfl⟩)
theorem But.alloc {w w' : World} {b : Nat} {row : Option Nat} (h : But w w' b row) (o : Obj) : But w (w'.alloc o) b row :=
  h.grown (World.grownBy_alloc w' o row)
theorem But.drew (w : World) (b : Nat) (row : Option Nat) : But w w.drew b row := ⟨rfl, rfl, rfl, Nat.le_refl _, fun _ _ _ _ => rfl⟩
theorem But.freeze {w w' : World} {b g : Nat} (h : But w w' b (some g)) (n : Nat) : But w (w'.freeze ⟨g, 0, none⟩ n) b (some g) := by
  unfold World.freeze
  split
  · exact h
  · exact ⟨h.os, h.tape, h.output, by simpa using h.size, fun k hk hb hr => by
      rw [← h.keep k hk hb hr]
      simp only [Array.getElem?_modify]
      rw [if_neg (fun e => hr (by rw [e]))]⟩
theorem string (b : Nat) (p v : Value) (l : List UInt8) (w : World) (hbk : w.heap[b]? = some (.cells #[p, v] 48 (0, 0))) (hown : w.ownsRow 0 5 1 v l.length (Lib.byteCells l)) :
    Calls Tryd.prog 24 #[.pointer (some ⟨b, 0, none⟩)] w fun e w' => e = .returned (.string ⟨l.toArray⟩) ∧ But w w' b v.ownBlock := by
  rcases hown.2 with ⟨rfl, hz⟩ | ⟨g, cap, cur, rfl, _, hg, hnc, hcm, hcs, htk⟩
  · obtain rfl := List.eq_nil_of_length_eq_zero hz
    refine (read b 0 0 none none p ⟨#[]⟩ w w.drew hbk rfl (Lib.run_unsafeString_none _ _ _ _ _)).mono ?_
    rintro e w' ⟨rfl, rfl⟩
    exact ⟨rfl, .drew w b _⟩
  · by_cases h0 : l = []
    · subst h0
      by_cases hc0 : cap = 0
      · subst hc0
        refine (read_noroom b g p cur w hbk hg).mono ?_
        rintro e w' ⟨rfl, rfl⟩
        exact ⟨rfl, (But.drew w b _).alloc _⟩
      · refine (read b 0 cap _ (some ⟨g, 0, none⟩) p ⟨#[]⟩ w w.drew hbk (Lib.run_unsafeSliceData_row _ _ _ _ _ _ hc0) (Lib.run_unsafeString_none _ _ _ _ _)).mono ?_
        rintro e w' ⟨rfl, rfl⟩
        exact ⟨rfl, .drew w b _⟩
    · have hl0 : l.length ≠ 0 := by simpa using h0
      refine (read b l.length cap _ (some ⟨g, 0, none⟩) p ⟨l.toArray⟩ w (w.drew.freeze ⟨g, 0, none⟩ l.length) hbk (Lib.run_unsafeSliceData_row _ _ _ _ _ _ (by omega)) ?_).mono ?_
      · refine Lib.run_unsafeString_row w.drew 64 3 9 5 Tryd.underlying64 (by kernel_rfl) g cur.size (by have hg' : w.drew.heap[g]? = some (.cells cur 5 (0, 0)) := hg; simp [World.shape?, hg']) l h0 (by omega) (by unfold maxLen at hcm; omega) ?_
        intro j x hx
        exact hown.cells (g := g) rfl j (.int .u8 x.toNat) (by simp [Lib.byteCells, hx])
      · rintro e w' ⟨rfl, rfl⟩
        exact ⟨rfl, (But.drew w b _).freeze _⟩
end Go.Am.Tryd
