/- Contracts that were walked by hand, as the machine over data takes them: through, Inter, TrailingZeros64. -/
import Derived.Test.YtdgempbldhdihaaDoorTKindsTryd
import Derived.Test.YtdgempbldhdihaaDoorTAm20
import Derived.Test.YtdgempbldhdihaaDoorSpanA
import Derived.KernelRfl
namespace Go.Am.Tryd
open Go.Proofs Go.Am Go.RowKit
set_option maxRecDepth 100000
abbrev PS42 := Go.Proofs.YtdgempbldhdihaaDoor.P.S42
abbrev PS47 := Go.Proofs.YtdgempbldhdihaaDoor.P.S47
def o42 (x : S42) : PS42 := ⟨x.f0, x.f1, x.f2, x.f3, x.f4⟩
def o47 (x : S47) : PS47 := ⟨x.f0, x.f1, x.f2, x.f3⟩
theorem callIs {fid : FuncId} {fn : Func} (h : Tryd.prog.funcs[fid]? = some fn) (hn : (fn.name == "runtime.NumGoroutine") = false) (hb : fn.body.isNone = false) (us : Array Value) (w : World) : (callFunc fid us).run Tryd.prog w = .ok (.enter fid us) w := by
  unfold callFunc
  simp only [Sem.run_bind, run_program, Result.andThen_ok, h, hn, hb]
  rfl

/-- A row that is read, cell by cell. -/
theorem ro_cells {F : Nat → Option Obj} {w : World} (hf : Fr F w) {k : Kc} {xs : List (κ.ty k)} {u : Value} (h : Rep E F noPl (.ro k xs) u) (vs : κ.ty k → List Value) (hv : ∀ x, E.enc k x = (vs x).map .val) :
    ∃ A c, u = .slice A xs.length c ∧ xs.length ≤ c ∧ (0 < xs.length → ∃ ad, A = some ad ∧ ∀ r x i v, xs[r]? = some x → (vs x)[i]? = some v → w.cell? (ad.add (r * κ.sz k + i)) = some v) := by
  cases h with
  | ro _ _ b off cap us hcap hc h =>
    refine ⟨_, cap, rfl, hcap, fun _ => ⟨_, rfl, fun r x i v hx hi => ?_⟩⟩
    have hr : r < xs.length := (List.getElem?_eq_some_iff.1 hx).1
    have he : (E.enc k x)[i]? = some (.val v) := by rw [hv, List.getElem?_map, hi]; rfl
    have hi' : i < κ.sz k := by rw [← encOk.len k x]; exact (List.getElem?_eq_some_iff.1 he).1
    have h1 := val_inv (h r x i _ hx he)
    have h2 := hf.cell (hc r i hr hi')
    rw [h1] at h2
    have ea : (⟨b, off, none⟩ : Addr).add (r * κ.sz k + i) = ⟨b, off + (r * κ.sz k + i), none⟩ := by
      unfold Addr.add
      split
      · rename_i h0; rw [h0]; rfl
      · rfl
    rw [ea]
    exact h2
  | roNil _ => exact ⟨none, 0, rfl, Nat.le_refl _, fun h => by simp at h⟩
  | roEmp _ a cap => exact ⟨some a, cap, rfl, Nat.zero_le _, fun h => by simp at h⟩
theorem enc42 (x : S42) : E.enc Kc.T42 x = ([.string x.f0, .int .i64 x.f1, .int .i64 x.f2, .int .i64 x.f3, .int .i64 x.f4] : List Value).map .val := rfl
theorem enc47 (x : S47) : E.enc Kc.T47 x = ([.int .i64 x.f0, .int .i64 x.f1, .int .i64 x.f2, .int .i64 x.f3] : List Value).map .val := rfl
theorem reads42 {F : Nat → Option Obj} {w : World} (hf : Fr F w) {xs : List S42} {u : Value} (h : Rep E F noPl (.ro Kc.T42 xs) u) (hl : xs.length ≤ 9223372036854775807) :
    ∃ A c, u = .slice A (xs.map o42).length c ∧ (xs.map o42).length ≤ c ∧ Go.Proofs.YtdgempbldhdihaaDoorW.PrintWords.Kd.C YtdgempbldhdihaaDoor.P.k42 w A (xs.map o42).length (xs.map o42) := by
  obtain ⟨A, c, h1, h2, h3⟩ := ro_cells hf h _ enc42
  refine ⟨A, c, by rw [h1, List.length_map]; rfl, by rw [List.length_map]; exact h2, rfl, by rw [List.length_map]; exact hl, fun hn => ?_⟩
  rw [List.length_map] at hn
  obtain ⟨ad, rfl, h4⟩ := h3 hn
  refine ⟨ad, rfl, fun j p hj => ?_⟩
  rw [List.getElem?_map] at hj
  obtain ⟨x, hx, rfl⟩ := Option.map_eq_some_iff.1 hj
  exact ⟨[.string x.f0, .int .i64 x.f1, .int .i64 x.f2, .int .i64 x.f3, .int .i64 x.f4], rfl, YtdgempbldhdihaaDoor.P.k42_mk w (o42 x), fun i v hv => h4 j x i v hx hv⟩
theorem reads47 {F : Nat → Option Obj} {w : World} (hf : Fr F w) {xs : List S47} {u : Value} (h : Rep E F noPl (.ro Kc.T47 xs) u) (hl : xs.length ≤ 9223372036854775807) :
    ∃ A c, u = .slice A (xs.map o47).length c ∧ (xs.map o47).length ≤ c ∧ Go.Proofs.YtdgempbldhdihaaDoorW.PrintWords.Kd.C YtdgempbldhdihaaDoor.P.k47 w A (xs.map o47).length (xs.map o47) := by
  obtain ⟨A, c, h1, h2, h3⟩ := ro_cells hf h _ enc47
  refine ⟨A, c, by rw [h1, List.length_map]; rfl, by rw [List.length_map]; exact h2, rfl, by rw [List.length_map]; exact hl, fun hn => ?_⟩
  rw [List.length_map] at hn
  obtain ⟨ad, rfl, h4⟩ := h3 hn
  refine ⟨ad, rfl, fun j p hj => ?_⟩
  rw [List.getElem?_map] at hj
  obtain ⟨x, hx, rfl⟩ := Option.map_eq_some_iff.1 hj
  exact ⟨[.int .i64 x.f0, .int .i64 x.f1, .int .i64 x.f2, .int .i64 x.f3], rfl, YtdgempbldhdihaaDoor.P.k47_mk w (o47 x), fun i v hv => h4 j x i v hx hv⟩

theorem tab_at {F : Nat → Option Obj} {w : World} (hg : GlobOk E glob F) (hf : Fr F w) : YtdgempbldhdihaaDoor.P.Tab w ∧ 1 < w.heap.size := by
  have h := hg 1 noPl
  have hG : glob 1 = .tab Kc.T5 tab1 := rfl
  rw [hG] at h
  generalize hp : (Value.pointer (some ⟨1, 0, none⟩)) = pv at h
  cases h with
  | tab _ _ b hx h =>
    injection hp with hp
    injection hp with hp
    injection hp with hp
    subst hp
    obtain ⟨c, t, fr, hc, hs⟩ := hx
    have hz : tab1.flatMap (E.enc Kc.T5) = (Lib.deBruijn64tab.map fun (z : Nat) => (AV.val (.int .u8 (z : Int)) : AV κ)) := by kernel_rfl
    rw [hz] at h
    refine ⟨fun j hj => ?_, (Array.getElem?_eq_some_iff.1 (hf 1 _ hc)).1⟩
    generalize hcs : (Lib.deBruijn64tab.map fun (z : Nat) => (AV.val (.int .u8 (z : Int)) : AV κ)) = cs at h
    cases h with
    | rop _ _ _ us h1 h2 =>
      have hcl : cs.length = Lib.deBruijn64tab.length := by rw [← hcs]; simp
      have h5 := h1 j (by omega)
      have h6 := h2 j (.val (.int .u8 (Lib.deBruijn64tab[j] : Int))) (by rw [← hcs]; simp [hj])
      have h7 := hf.cell h5
      rw [val_inv h6, Nat.zero_add] at h7
      rw [h7, List.getD_eq_getElem?_getD, List.getElem?_eq_getElem hj]
      rfl

def okB (l0 : List S42) (l1 : List S47) : Bool := YtdgempbldhdihaaDoor.P.grB (l0.map o42) (l1.map o47)
noncomputable def safety_through (_k : Nat) (l0 : List S42) (l1 : List S47) (a b foes : Int) : Option (Int × Unit) :=
  if (okB l0 l1 && (YtdgempbldhdihaaDoor.P.u64B a && (YtdgempbldhdihaaDoor.P.u64B b && YtdgempbldhdihaaDoor.P.u64B foes))) = true then some (YtdgempbldhdihaaDoor.P.throughF (l0.map o42) (l1.map o47) a b foes, ()) else none
def safety_through.i : List (Pat κ) := [.agg [.ro .T42, .ro .T47], .int .u64, .int .u64, .int .u64]
def safety_through.p : Pat κ := .int .i64
def safety_through.b : List (BPat κ) := []
noncomputable def safety_through.f (k : Nat) : dens safety_through.i → Option (safety_through.p.den × densB safety_through.b) := fun d => safety_through k d.1.1 d.1.2.1 d.2.1 d.2.2.1 d.2.2.2.1
theorem tables_in {F : Nat → Option Obj} {w : World} (hf : Fr F w) {l0 : List S42} {l1 : List S47} {u : Value} (h : Rep E F noPl (.agg [.ro Kc.T42 l0, .ro Kc.T47 l1]) u) (h0 : l0.length ≤ 9223372036854775807) (h1 : l1.length ≤ 9223372036854775807) :
    ∃ A0 c0 A1 c1, u = .agg #[.slice A0 (l0.map o42).length c0, .slice A1 (l1.map o47).length c1] ∧ (l0.map o42).length ≤ c0 ∧ (l1.map o47).length ≤ c1 ∧ Go.Proofs.YtdgempbldhdihaaDoorW.PrintWords.Kd.C YtdgempbldhdihaaDoor.P.k42 w A0 (l0.map o42).length (l0.map o42) ∧ Go.Proofs.YtdgempbldhdihaaDoorW.PrintWords.Kd.C YtdgempbldhdihaaDoor.P.k47 w A1 (l1.map o47).length (l1.map o47) := by
  obtain ⟨us, rfl, hus⟩ := agg_inv h
  obtain ⟨u0, us', e1, r0, hus'⟩ := hus.cons_inv
  obtain ⟨u1, us'', e2, r1, hus''⟩ := hus'.cons_inv
  obtain rfl := hus''.nil_inv
  obtain ⟨A0, c0, k1, k2, k3⟩ := reads42 hf r0 h0
  obtain ⟨A1, c1, k4, k5, k6⟩ := reads47 hf r1 h1
  refine ⟨A0, c0, A1, c1, ?_, k2, k5, k3, k6⟩
  have : us = #[u0, u1] := by cases us; simp_all
  rw [this, k1, k4]
theorem okB_len {l0 : List S42} {l1 : List S47} (h : okB l0 l1 = true) : l0.length ≤ 64 ∧ l1.length ≤ 140737488351232 := by
  have := YtdgempbldhdihaaDoor.P.gr_of h
  exact ⟨by simpa using this.n, by simpa using this.k⟩
theorem safety_through.call (k : Nat) : CallV Tryd.prog E glob 44 safety_through.i safety_through.p safety_through.b (safety_through.f k) := callV_below fun d r hd w F us hg hf hus => by
  obtain ⟨⟨l0, l1, _⟩, a, b, foes, _⟩ := d
  unfold safety_through.f safety_through at hd
  simp only at hd
  split at hd
  · rename_i hc
    obtain rfl := Option.some.inj hd
    refine ⟨_, rfl, ?_⟩
    simp only [Bool.and_eq_true] at hc
    obtain ⟨h1, h2, h3, h4⟩ := hc
    obtain ⟨hl0, hl1⟩ := okB_len h1
    obtain ⟨u0, us1, e1, r0, hus1⟩ := (show Reps E F noPl (.agg [.ro Kc.T42 l0, .ro Kc.T47 l1] :: .val (.int .u64 a) :: .val (.int .u64 b) :: .val (.int .u64 foes) :: []) us.toList from hus).cons_inv
    obtain ⟨u1, us2, e2, r1, hus2⟩ := hus1.cons_inv
    obtain ⟨u2, us3, e3, r2, hus3⟩ := hus2.cons_inv
    obtain ⟨u3, us4, e4, r3, hus4⟩ := hus3.cons_inv
    obtain rfl := hus4.nil_inv
    obtain rfl := val_inv r1
    obtain rfl := val_inv r2
    obtain rfl := val_inv r3
    obtain ⟨A0, c0, A1, c1, rfl, _, _, k1, k2⟩ := tables_in hf r0 (by omega) (by omega)
    obtain ⟨hT, hw⟩ := tab_at hg hf
    have e : us = #[.agg #[.slice A0 (l0.map o42).length c0, .slice A1 (l1.map o47).length c1], .int .u64 a, .int .u64 b, .int .u64 foes] := by cases us; simp_all
    rw [e]
    exact YtdgempbldhdihaaDoor.P.through_f A0 A1 c0 c1 _ _ a b foes w (YtdgempbldhdihaaDoor.P.gr_of h1) h2 h3 h4 k1 k2 hT hw
  · cases hd
noncomputable def safety_through.ent (k : Nat) : EntS κ := ⟨44, [], entOf safety_through.i safety_through.p safety_through.b true (safety_through.f k) E⟩
theorem safety_through.entOk (k : Nat) : EntOk Tryd.prog E glob 44 (safety_through.ent k).run := ent_free encOk (callIs Tryd.func44 (by kernel_rfl) (by kernel_rfl)) (by rfl) trivial (safety_through.call k)
noncomputable def safety_through.qent (k : Nat) : QEntS κ := ⟨44, qentOf safety_through.i safety_through.p (safety_through.f k) E⟩
theorem safety_through.qentOk (k : Nat) : QEntOk Tryd.prog E glob 44 (safety_through.qent k).run := qent_ok encOk (callIs Tryd.func44 (by kernel_rfl) (by kernel_rfl)) (safety_through.call k)

noncomputable def safety_Inter (_k : Nat) (l0 : List S42) (l1 : List S47) (a b : Int) : Option ((Int × Bool × Unit) × Unit) :=
  if l0.length ≤ 9223372036854775807 ∧ l1.length ≤ 9223372036854775807 then match YtdgempbldhdihaaDoor.P.safety_Inter.f (l0.map o42) (l1.map o47) a b with | some r => some ((r.1, r.2, ()), ()) | none => none else none
def safety_Inter.i : List (Pat κ) := [.agg [.ro .T42, .ro .T47], .int .i64, .int .i64]
def safety_Inter.p : Pat κ := .tup [.int .i64, .bool]
def safety_Inter.b : List (BPat κ) := []
noncomputable def safety_Inter.f (k : Nat) : dens safety_Inter.i → Option (safety_Inter.p.den × densB safety_Inter.b) := fun d => safety_Inter k d.1.1 d.1.2.1 d.2.1 d.2.2.1
theorem safety_Inter.call (k : Nat) : CallV Tryd.prog E glob 22 safety_Inter.i safety_Inter.p safety_Inter.b (safety_Inter.f k) := callV_below fun d r hd w F us hg hf hus => by
  obtain ⟨⟨l0, l1, _⟩, a, b, _⟩ := d
  unfold safety_Inter.f safety_Inter at hd
  simp only at hd
  split at hd
  · rename_i hc
    split at hd
    · rename_i q hq
      obtain rfl := Option.some.inj hd
      refine ⟨_, rfl, ?_⟩
      obtain ⟨u0, us1, e1, r0, hus1⟩ := (show Reps E F noPl (.agg [.ro Kc.T42 l0, .ro Kc.T47 l1] :: .val (.int .i64 a) :: .val (.int .i64 b) :: []) us.toList from hus).cons_inv
      obtain ⟨u1, us2, e2, r1, hus2⟩ := hus1.cons_inv
      obtain ⟨u2, us3, e3, r2, hus3⟩ := hus2.cons_inv
      obtain rfl := hus3.nil_inv
      obtain rfl := val_inv r1
      obtain rfl := val_inv r2
      obtain ⟨A0, c0, A1, c1, rfl, h2, h3, k1, k2⟩ := tables_in hf r0 hc.1 hc.2
      have e : us = #[.agg #[.slice A0 (l0.map o42).length c0, .slice A1 (l1.map o47).length c1], .int .i64 a, .int .i64 b] := by cases us; simp_all
      rw [e]
      obtain ⟨x, y⟩ := q
      exact YtdgempbldhdihaaDoor.P.safety_Inter.calls A0 c0 _ A1 c1 _ a b x y w k1 h2 k2 h3 hq
    · cases hd
  · cases hd
noncomputable def safety_Inter.ent (k : Nat) : EntS κ := ⟨22, [], entOf safety_Inter.i safety_Inter.p safety_Inter.b true (safety_Inter.f k) E⟩
theorem safety_Inter.entOk (k : Nat) : EntOk Tryd.prog E glob 22 (safety_Inter.ent k).run := ent_free encOk (callIs Tryd.func22 (by kernel_rfl) (by kernel_rfl)) (by rfl) trivial (safety_Inter.call k)

noncomputable def safety_Inter.qent (k : Nat) : QEntS κ := ⟨22, qentOf safety_Inter.i safety_Inter.p (safety_Inter.f k) E⟩
theorem safety_Inter.qentOk (k : Nat) : QEntOk Tryd.prog E glob 22 (safety_Inter.qent k).run := qent_ok encOk (callIs Tryd.func22 (by kernel_rfl) (by kernel_rfl)) (safety_Inter.call k)
noncomputable def bits_TrailingZeros64 (_k : Nat) (x : Int) : Option (Int × Unit) := if 0 ≤ x ∧ x < 18446744073709551616 then some ((Lib.ctz 64 x.toNat : Int), ()) else none
def bits_TrailingZeros64.i : List (Pat κ) := [.int .u64]
def bits_TrailingZeros64.p : Pat κ := .int .i64
def bits_TrailingZeros64.b : List (BPat κ) := []
noncomputable def bits_TrailingZeros64.f (k : Nat) : dens bits_TrailingZeros64.i → Option (bits_TrailingZeros64.p.den × densB bits_TrailingZeros64.b) := fun d => bits_TrailingZeros64 k d.1
theorem bits_TrailingZeros64.call (k : Nat) : CallV Tryd.prog E glob 76 bits_TrailingZeros64.i bits_TrailingZeros64.p bits_TrailingZeros64.b (bits_TrailingZeros64.f k) := callV_below fun d r hd w F us hg hf hus => by
  obtain ⟨x, _⟩ := d
  unfold bits_TrailingZeros64.f bits_TrailingZeros64 at hd
  simp only at hd
  split at hd
  · rename_i hc
    obtain rfl := Option.some.inj hd
    refine ⟨_, rfl, ?_⟩
    obtain ⟨u0, us1, e1, r0, hus1⟩ := (show Reps E F noPl (.val (.int .u64 x) :: []) us.toList from hus).cons_inv
    obtain rfl := hus1.nil_inv
    obtain rfl := val_inv r0
    obtain ⟨n, rfl⟩ := Int.eq_ofNat_of_zero_le hc.1
    have e : us = #[.int .u64 n] := by cases us; simp_all
    rw [e]
    refine (YtdgempbldhdihaaDoor.P.tz64_calls n (by omega) w (tab_at hg hf).1).mono ?_
    rintro e w' ⟨rfl, rfl⟩
    exact ⟨rfl, Below.refl _ _⟩
  · cases hd
noncomputable def bits_TrailingZeros64.ent (k : Nat) : EntS κ := ⟨76, [], entOf bits_TrailingZeros64.i bits_TrailingZeros64.p bits_TrailingZeros64.b true (bits_TrailingZeros64.f k) E⟩
theorem bits_TrailingZeros64.entOk (k : Nat) : EntOk Tryd.prog E glob 76 (bits_TrailingZeros64.ent k).run := ent_free encOk (callIs Tryd.func76 (by kernel_rfl) (by kernel_rfl)) (by rfl) trivial (bits_TrailingZeros64.call k)
noncomputable def bits_TrailingZeros64.qent (k : Nat) : QEntS κ := ⟨76, qentOf bits_TrailingZeros64.i bits_TrailingZeros64.p (bits_TrailingZeros64.f k) E⟩
theorem bits_TrailingZeros64.qentOk (k : Nat) : QEntOk Tryd.prog E glob 76 (bits_TrailingZeros64.qent k).run := qent_ok encOk (callIs Tryd.func76 (by kernel_rfl) (by kernel_rfl)) (bits_TrailingZeros64.call k)
end Go.Am.Tryd
