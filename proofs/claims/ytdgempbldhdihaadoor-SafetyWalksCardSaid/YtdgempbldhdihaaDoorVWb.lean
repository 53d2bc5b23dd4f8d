/- Parts of this work, put into one text: NamesW StageW StageX GridW SoundW ReachW WalksW -/
import Derived.Test.YtdgempbldhdihaaDoorVWa
import Derived.Test.YtdgempbldhdihaaDoorVFitsTryd
import Derived.DataShut
section
namespace Go.Am.Tryd
open Go.Proofs Go.Am Go.RowKit
set_option maxRecDepth 100000
set_option linter.unusedVariables false
theorem head_drop {α : Type} {L : List α} {i : Nat} {s d : α} {r : List α} (hd : L.drop i = s :: r) : L.getD i d = s ∧ L.drop (i + 1) = r ∧ s ∈ L ∧ i < L.length := by
  have hh := congrArg List.head? hd
  rw [List.head?_drop] at hh
  refine ⟨by rw [List.getD_eq_getElem?_getD, hh]; rfl, by rw [← List.drop_drop, hd]; rfl, List.mem_of_getElem? hh, ?_⟩
  exact (List.getElem?_eq_some_iff.1 hh).1
section
variable (nm : ByteArray) (G : List S42) (C : List S47) (D : List S110) (Tm Ct : List ByteArray) (V : List S112) (St : List S98) (sta : Int)

theorem things_l1 (K : Nat) (L : List S42) (hL : L.length ≤ 100000) : ∀ (r : List S42) (x i : Nat) (b : List ByteArray), L.drop i = r → i + r.length = L.length → b.length + r.length ≤ 10000000 → check_things.l1 K (r.length + x + 1) L (L.length : Int) (i : Int) b = some (((), ()), b ++ r.map S42.f0, ())
  | [], x, i, b, hd, hi, hb => by
    rw [check_things.l1, if_neg (by simp at hi; simp; omega)]
    simp
  | s :: r, x, i, b, hd, hi, hb => by
    obtain ⟨h1, h2, _, h4⟩ := head_drop (d := S42.mk ByteArray.empty 0 0 0 0) hd
    rw [show (s :: r).length + x + 1 = r.length + x + 1 + 1 by simp; omega, check_things.l1, if_pos (by simp; omega), if_pos (by omega)]
    simp only [Int.toNat_natCast, h1]
    rw [room_pos (by unfold capBytes; simp only [List.length_cons, List.length_nil] at hb ⊢; omega), wr_in ((i : Int) + 1) (by omega) (by omega), show ((i : Int) + 1) = ((i + 1 : Nat) : Int) by omega]
    rw [things_l1 K L hL r x (i + 1) _ h2 (by simp at hi; omega) (by simp at hb ⊢; omega)]
    simp

theorem things_l2 (K : Nat) (L : List S110) (hL : L.length ≤ 100000) : ∀ (r : List S110) (x i : Nat) (b : List ByteArray), L.drop i = r → i + r.length = L.length → b.length + r.length ≤ 10000000 → check_things.l2 K (r.length + x + 1) L (L.length : Int) (i : Int) b = some (((), ()), b ++ r.map S110.f0, ())
  | [], x, i, b, hd, hi, hb => by
    rw [check_things.l2, if_neg (by simp at hi; simp; omega)]
    simp
  | s :: r, x, i, b, hd, hi, hb => by
    obtain ⟨h1, h2, _, h4⟩ := head_drop (d := S110.mk ByteArray.empty false 0 0) hd
    rw [show (s :: r).length + x + 1 = r.length + x + 1 + 1 by simp; omega, check_things.l2, if_pos (by simp; omega), if_pos (by omega)]
    simp only [Int.toNat_natCast, h1]
    rw [room_pos (by unfold capBytes; simp only [List.length_cons, List.length_nil] at hb ⊢; omega), wr_in ((i : Int) + 1) (by omega) (by omega), show ((i : Int) + 1) = ((i + 1 : Nat) : Int) by omega]
    rw [things_l2 K L hL r x (i + 1) _ h2 (by simp at hi; omega) (by simp at hb ⊢; omega)]
    simp

theorem things_l3 (K : Nat) (L : List S112) (hL : L.length ≤ 100000) : ∀ (r : List S112) (x i : Nat) (b : List ByteArray), L.drop i = r → i + r.length = L.length → b.length + r.length ≤ 10000000 → check_things.l3 K (r.length + x + 1) L (L.length : Int) (i : Int) b = some (((), ()), b ++ r.map S112.f0, ())
  | [], x, i, b, hd, hi, hb => by
    rw [check_things.l3, if_neg (by simp at hi; simp; omega)]
    simp
  | s :: r, x, i, b, hd, hi, hb => by
    obtain ⟨h1, h2, _, h4⟩ := head_drop (d := S112.mk ByteArray.empty 0) hd
    rw [show (s :: r).length + x + 1 = r.length + x + 1 + 1 by simp; omega, check_things.l3, if_pos (by simp; omega), if_pos (by omega)]
    simp only [Int.toNat_natCast, h1]
    rw [room_pos (by unfold capBytes; simp only [List.length_cons, List.length_nil] at hb ⊢; omega), wr_in ((i : Int) + 1) (by omega) (by omega), show ((i : Int) + 1) = ((i + 1 : Nat) : Int) by omega]
    rw [things_l3 K L hL r x (i + 1) _ h2 (by simp at hi; omega) (by simp at hb ⊢; omega)]
    simp

theorem things_l4 (K : Nat) (L : List S98) (hL : L.length ≤ 100000) : ∀ (r : List S98) (x i : Nat) (b : List ByteArray), L.drop i = r → i + r.length = L.length → b.length + r.length ≤ 10000000 → check_things.l4 K (r.length + x + 1) L (L.length : Int) (i : Int) b = some (((), ()), b ++ r.map S98.f0, ())
  | [], x, i, b, hd, hi, hb => by
    rw [check_things.l4, if_neg (by simp at hi; simp; omega)]
    simp
  | s :: r, x, i, b, hd, hi, hb => by
    obtain ⟨h1, h2, _, h4⟩ := head_drop (d := S98.mk ByteArray.empty 0 0 [] [] [] []) hd
    rw [show (s :: r).length + x + 1 = r.length + x + 1 + 1 by simp; omega, check_things.l4, if_pos (by simp; omega), if_pos (by omega)]
    simp only [Int.toNat_natCast, h1]
    rw [room_pos (by unfold capBytes; simp only [List.length_cons, List.length_nil] at hb ⊢; omega), wr_in ((i : Int) + 1) (by omega) (by omega), show ((i : Int) + 1) = ((i + 1 : Nat) : Int) by omega]
    rw [things_l4 K L hL r x (i + 1) _ h2 (by simp at hi; omega) (by simp at hb ⊢; omega)]
    simp

theorem rthings_l0 (K : Nat) (hL : G.length ≤ 100000) : ∀ (r : List S42) (x i : Nat) (b : List ByteArray), G.drop i = r → i + r.length = G.length → b.length + r.length ≤ 10000000 → junctionref5_things.l0 K (r.length + x + 1) nm G C D Tm Ct V St sta (i : Int) b = some (((), ()), b ++ r.map S42.f0, ())
  | [], x, i, b, hd, hi, hb => by
    rw [junctionref5_things.l0, if_neg (by simp at hi; simp; omega)]
    simp
  | s :: r, x, i, b, hd, hi, hb => by
    obtain ⟨h1, h2, _, h4⟩ := head_drop (d := S42.mk ByteArray.empty 0 0 0 0) hd
    rw [show (s :: r).length + x + 1 = r.length + x + 1 + 1 by simp; omega, junctionref5_things.l0, if_pos (by simp; omega), if_pos (by omega)]
    simp only [Int.toNat_natCast, h1]
    rw [room_pos (by unfold capBytes; simp only [List.length_cons, List.length_nil] at hb ⊢; omega), wr_in ((i : Int) + 1) (by omega) (by omega), show ((i : Int) + 1) = ((i + 1 : Nat) : Int) by omega]
    rw [rthings_l0 K hL r x (i + 1) _ h2 (by simp at hi; omega) (by simp at hb ⊢; omega)]
    simp

theorem rthings_l1 (K : Nat) (hL : D.length ≤ 100000) : ∀ (r : List S110) (x i : Nat) (b : List ByteArray), D.drop i = r → i + r.length = D.length → b.length + r.length ≤ 10000000 → junctionref5_things.l1 K (r.length + x + 1) nm G C D Tm Ct V St sta (i : Int) b = some (((), ()), b ++ r.map S110.f0, ())
  | [], x, i, b, hd, hi, hb => by
    rw [junctionref5_things.l1, if_neg (by simp at hi; simp; omega)]
    simp
  | s :: r, x, i, b, hd, hi, hb => by
    obtain ⟨h1, h2, _, h4⟩ := head_drop (d := S110.mk ByteArray.empty false 0 0) hd
    rw [show (s :: r).length + x + 1 = r.length + x + 1 + 1 by simp; omega, junctionref5_things.l1, if_pos (by simp; omega), if_pos (by omega)]
    simp only [Int.toNat_natCast, h1]
    rw [room_pos (by unfold capBytes; simp only [List.length_cons, List.length_nil] at hb ⊢; omega), wr_in ((i : Int) + 1) (by omega) (by omega), show ((i : Int) + 1) = ((i + 1 : Nat) : Int) by omega]
    rw [rthings_l1 K hL r x (i + 1) _ h2 (by simp at hi; omega) (by simp at hb ⊢; omega)]
    simp

theorem rthings_l2 (K : Nat) (hL : V.length ≤ 100000) : ∀ (r : List S112) (x i : Nat) (b : List ByteArray), V.drop i = r → i + r.length = V.length → b.length + r.length ≤ 10000000 → junctionref5_things.l2 K (r.length + x + 1) nm G C D Tm Ct V St sta (i : Int) b = some (((), ()), b ++ r.map S112.f0, ())
  | [], x, i, b, hd, hi, hb => by
    rw [junctionref5_things.l2, if_neg (by simp at hi; simp; omega)]
    simp
  | s :: r, x, i, b, hd, hi, hb => by
    obtain ⟨h1, h2, _, h4⟩ := head_drop (d := S112.mk ByteArray.empty 0) hd
    rw [show (s :: r).length + x + 1 = r.length + x + 1 + 1 by simp; omega, junctionref5_things.l2, if_pos (by simp; omega), if_pos (by omega)]
    simp only [Int.toNat_natCast, h1]
    rw [room_pos (by unfold capBytes; simp only [List.length_cons, List.length_nil] at hb ⊢; omega), wr_in ((i : Int) + 1) (by omega) (by omega), show ((i : Int) + 1) = ((i + 1 : Nat) : Int) by omega]
    rw [rthings_l2 K hL r x (i + 1) _ h2 (by simp at hi; omega) (by simp at hb ⊢; omega)]
    simp

theorem rthings_l3 (K : Nat) (hL : St.length ≤ 100000) : ∀ (r : List S98) (x i : Nat) (b : List ByteArray), St.drop i = r → i + r.length = St.length → b.length + r.length ≤ 10000000 → junctionref5_things.l3 K (r.length + x + 1) nm G C D Tm Ct V St sta (i : Int) b = some (((), ()), b ++ r.map S98.f0, ())
  | [], x, i, b, hd, hi, hb => by
    rw [junctionref5_things.l3, if_neg (by simp at hi; simp; omega)]
    simp
  | s :: r, x, i, b, hd, hi, hb => by
    obtain ⟨h1, h2, _, h4⟩ := head_drop (d := S98.mk ByteArray.empty 0 0 [] [] [] []) hd
    rw [show (s :: r).length + x + 1 = r.length + x + 1 + 1 by simp; omega, junctionref5_things.l3, if_pos (by simp; omega), if_pos (by omega)]
    simp only [Int.toNat_natCast, h1]
    rw [room_pos (by unfold capBytes; simp only [List.length_cons, List.length_nil] at hb ⊢; omega), wr_in ((i : Int) + 1) (by omega) (by omega), show ((i : Int) + 1) = ((i + 1 : Nat) : Int) by omega]
    rw [rthings_l3 K hL r x (i + 1) _ h2 (by simp at hi; omega) (by simp at hb ⊢; omega)]
    simp


def thingsA : List ByteArray := Tm ++ Ct ++ G.map S42.f0 ++ D.map S110.f0 ++ V.map S112.f0 ++ St.map S98.f0
def thingsB : List ByteArray := G.map S42.f0 ++ D.map S110.f0 ++ Tm ++ Ct ++ V.map S112.f0 ++ St.map S98.f0
theorem things_ok (K : Nat) (h1 : G.length ≤ 1000) (h2 : D.length ≤ 1000) (h3 : Tm.length ≤ 1000) (h4 : Ct.length ≤ 1000) (h5 : V.length ≤ 1000) (h6 : St.length ≤ 1000) (hK : 2000 ≤ K) :
    check_things K nm G C D Tm Ct V St sta = some (thingsA G D Tm Ct V St, ()) := by
  unfold check_things check_things.l0 thingsA
  rw [room_pos (by unfold capBytes; omega), room_pos (by unfold capBytes; omega), Option.bind_some]
  have e1 := things_l1 K G (by omega) G (K - G.length - 1) 0 (Tm ++ Ct) rfl (by omega) (by simp; omega)
  rw [show G.length + (K - G.length - 1) + 1 = K by omega, show ((0 : Nat) : Int) = 0 from rfl] at e1
  rw [e1, Option.bind_some]
  have e2 := things_l2 K D (by omega) D (K - D.length - 1) 0 (Tm ++ Ct ++ G.map S42.f0) rfl (by omega) (by simp; omega)
  rw [show D.length + (K - D.length - 1) + 1 = K by omega, show ((0 : Nat) : Int) = 0 from rfl] at e2
  rw [e2, Option.bind_some]
  have e3 := things_l3 K V (by omega) V (K - V.length - 1) 0 (Tm ++ Ct ++ G.map S42.f0 ++ D.map S110.f0) rfl (by omega) (by simp; omega)
  rw [show V.length + (K - V.length - 1) + 1 = K by omega, show ((0 : Nat) : Int) = 0 from rfl] at e3
  rw [e3, Option.bind_some]
  have e4 := things_l4 K St (by omega) St (K - St.length - 1) 0 (Tm ++ Ct ++ G.map S42.f0 ++ D.map S110.f0 ++ V.map S112.f0) rfl (by omega) (by simp; omega)
  rw [show St.length + (K - St.length - 1) + 1 = K by omega, show ((0 : Nat) : Int) = 0 from rfl] at e4
  rw [e4, Option.bind_some]
theorem rthings_ok (K : Nat) (h1 : G.length ≤ 1000) (h2 : D.length ≤ 1000) (h3 : Tm.length ≤ 1000) (h4 : Ct.length ≤ 1000) (h5 : V.length ≤ 1000) (h6 : St.length ≤ 1000) (hK : 2000 ≤ K) :
    junctionref5_things K nm G C D Tm Ct V St sta = some (thingsB G D Tm Ct V St, ()) := by
  unfold junctionref5_things thingsB
  have e1 := rthings_l0 nm G C D Tm Ct V St sta K (by omega) G (K - G.length - 1) 0 [] rfl (by omega) (by simp; omega)
  rw [show G.length + (K - G.length - 1) + 1 = K by omega, show ((0 : Nat) : Int) = 0 from rfl, List.nil_append] at e1
  rw [e1, Option.bind_some]
  have e2 := rthings_l1 nm G C D Tm Ct V St sta K (by omega) D (K - D.length - 1) 0 (G.map S42.f0) rfl (by omega) (by simp; omega)
  rw [show D.length + (K - D.length - 1) + 1 = K by omega, show ((0 : Nat) : Int) = 0 from rfl] at e2
  rw [e2, Option.bind_some]
  simp only
  rw [room_pos (by unfold capBytes; simp; omega), room_pos (by unfold capBytes; simp; omega)]
  have e3 := rthings_l2 nm G C D Tm Ct V St sta K (by omega) V (K - V.length - 1) 0 (G.map S42.f0 ++ D.map S110.f0 ++ Tm ++ Ct) rfl (by omega) (by simp; omega)
  rw [show V.length + (K - V.length - 1) + 1 = K by omega, show ((0 : Nat) : Int) = 0 from rfl] at e3
  rw [e3, Option.bind_some]
  have e4 := rthings_l3 nm G C D Tm Ct V St sta K (by omega) St (K - St.length - 1) 0 (G.map S42.f0 ++ D.map S110.f0 ++ Tm ++ Ct ++ V.map S112.f0) rfl (by omega) (by simp; omega)
  rw [show St.length + (K - St.length - 1) + 1 = K by omega, show ((0 : Nat) : Int) = 0 from rfl] at e4
  rw [e4, Option.bind_some]
end

/-! ### Names that are unlike -/
noncomputable def nmB (K : Nat) (s : ByteArray) : Bool := match lex_KindOf K s with | some (a, _) => a == 1 | none => false
def same (a b : ByteArray) : Bool := a.toList == b.toList
theorem same_iff {a b : ByteArray} : same a b = true ↔ a = b := by
  have e1 : ∀ b : ByteArray, b.toList = b.data.toList := fun b => by obtain ⟨⟨l⟩⟩ := b; simp
  unfold same
  rw [e1, e1]
  obtain ⟨⟨l⟩⟩ := a
  obtain ⟨⟨m⟩⟩ := b
  simp
/-- What is asked of a name's size. -/
def okT (K : Nat) (s : ByteArray) : Prop := s.size ≤ 1000000000000000 ∧ s.size + 100 < K
theorem nm_ok {K : Nat} {s : ByteArray} (h : okT K s) : ∃ a b : Int, lex_KindOf K s = some (a, ()) ∧ junctionref2_KindOf K s = some (b, ()) ∧ (a == 1) = nmB K s ∧ (b == 1) = nmB K s := by
  obtain ⟨a, b, h1, h2, h3⟩ := kind_same K s h.1 h.2
  refine ⟨a, b, h1, h2, ?_, ?_⟩
  · unfold nmB; rw [h1]
  · unfold nmB
    rw [h1]
    simp only
    by_cases c : a = 1
    · rw [c, h3.1 c]
    · have c' : ¬ b = 1 := fun q => c (h3.2 q)
      have x1 : (a == 1) = false := by simpa using c
      have x2 : (b == 1) = false := by simpa using c'
      rw [x1, x2]
noncomputable def namesF (K : Nat) : List ByteArray → List ByteArray → Bool
  | _, [] => true
  | p, s :: r => !(p.any (same · s)) && nmB K s && namesF K (p ++ [s]) r
theorem namesF_iff (K : Nat) : ∀ (r p : List ByteArray), namesF K p r = true ↔ (∀ s ∈ r, nmB K s = true) ∧ (∀ s ∈ r, ∀ q ∈ p, q ≠ s) ∧ r.Nodup
  | [], p => by simp [namesF]
  | s :: r, p => by
    unfold namesF
    simp only [Bool.and_eq_true, Bool.not_eq_true', namesF_iff K r, List.nodup_cons]
    constructor
    · rintro ⟨⟨h1, h2⟩, h3, h4, h5⟩
      refine ⟨fun x hx => ?_, fun x hx q hq => ?_, fun hs => ?_, h5⟩
      · rcases List.mem_cons.1 hx with rfl | hx
        · exact h2
        · exact h3 x hx
      · rcases List.mem_cons.1 hx with rfl | hx
        · intro e
          have := List.any_eq_false.1 h1 q hq
          exact this (same_iff.2 e)
        · exact h4 x hx q (List.mem_append_left _ hq)
      · exact h4 s hs s (by simp) rfl
    · rintro ⟨h1, h2, h3, h4⟩
      refine ⟨⟨List.any_eq_false.2 fun q hq e => h2 s (by simp) q hq (same_iff.1 e), h1 s (by simp)⟩, fun x hx => h1 x (List.mem_cons_of_mem _ hx), fun x hx q hq => ?_, h4⟩
      rcases List.mem_append.1 hq with hq | hq
      · exact h2 x (List.mem_cons_of_mem _ hx) q hq
      · obtain rfl := List.mem_singleton.1 hq
        exact fun e => h3 (e ▸ hx)
theorem namesF_perm (K : Nat) {a b : List ByteArray} (h : a.Perm b) : namesF K [] a = namesF K [] b := by
  rw [Bool.eq_iff_iff, namesF_iff, namesF_iff]
  constructor
  · rintro ⟨h1, _, h3⟩
    exact ⟨fun s hs => h1 s (h.mem_iff.2 hs), fun _ _ q hq => by simp at hq, h.nodup_iff.1 h3⟩
  · rintro ⟨h1, _, h3⟩
    exact ⟨fun s hs => h1 s (h.mem_iff.1 hs), fun _ _ q hq => by simp at hq, h.nodup_iff.2 h3⟩
theorem has_any (b : List S166) (s : ByteArray) : mhas (fun x => MKey.s (S166.f0 x)) b (MKey.s s) = (b.map S166.f0).any (same · s) := by
  unfold mhas
  rw [List.any_map]
  rfl
theorem named_loop (K : Nat) (L : List ByteArray) (hL : L.length ≤ 100000) (hok : ∀ s ∈ L, okT K s) : ∀ (r : List ByteArray) (x i : Nat) (b : List S166), L.drop i = r → i + r.length = L.length →
    ∃ z, check_named.l1 K (r.length + x + 1) L (L.length : Int) (i : Int) b = some z ∧ ((∃ y, z = .inl ((false, ()), y) ∧ namesF K (b.map S166.f0) r = false) ∨ (∃ y, z = .inr y ∧ namesF K (b.map S166.f0) r = true))
  | [], x, i, b, hd, hi => by
    rw [check_named.l1, if_neg (by simp at hi; simp; omega)]
    exact ⟨_, rfl, .inr ⟨_, rfl, rfl⟩⟩
  | s :: r, x, i, b, hd, hi => by
    obtain ⟨h1, h2, h3, h4⟩ := head_drop (d := ByteArray.empty) hd
    obtain ⟨a, _, k1, _, k3, _⟩ := nm_ok (hok s h3)
    rw [show (s :: r).length + x + 1 = r.length + x + 1 + 1 by simp; omega, check_named.l1, if_pos (by simp; omega), if_pos (by omega)]
    simp only [Int.toNat_natCast, h1]
    unfold check_named.l0 namesF
    rw [k1, has_any, wr_in ((i : Int) + 1) (by omega) (by omega), show ((i : Int) + 1) = ((i + 1 : Nat) : Int) by omega]
    cases hm : (b.map S166.f0).any (same · s) with
    | true => exact ⟨_, rfl, .inl ⟨_, rfl, rfl⟩⟩
    | false =>
      simp only [Bool.false_eq_true, if_false, Option.bind_some, Bool.not_false, Bool.true_and]
      rw [show (a != 1) = !(a == 1) from rfl, k3]
      cases hn : nmB K s with
      | false => exact ⟨_, rfl, .inl ⟨_, rfl, rfl⟩⟩
      | true =>
        simp only [Bool.not_true, Bool.false_eq_true, if_false, Option.bind_some, onSum, Bool.true_and]
        have hput : mput (fun x => MKey.s (S166.f0 x)) b (S166.mk s (i : Int)) = b ++ [S166.mk s (i : Int)] := by
          unfold mput
          rw [has_any, if_neg (by simp only; rw [hm]; simp)]
        rw [hput]
        have := named_loop K L hL hok r x (i + 1) (b ++ [S166.mk s (i : Int)]) h2 (by simp at hi; omega)
        rw [List.map_append] at this
        exact this
theorem unlike_l0 (K : Nat) (L : List ByteArray) (hL : L.length ≤ 100000) (t : Nat) (ht : t < L.length) (s : ByteArray) (hs : L.getD t ByteArray.empty = s) : ∀ (m x i : Nat), i + m = t →
    junctionref5_unlike.l0 K (m + x + 1) L (t : Int) (i : Int) = some (if ((L.take t).drop i).any (same · s) = true then .inl ((false, ()), ()) else .inr ((), ()))
  | 0, x, i, h => by
    rw [junctionref5_unlike.l0, if_neg (by simp; omega)]
    rw [List.drop_of_length_le (by simp; omega)]
    rfl
  | m + 1, x, i, h => by
    rw [show m + 1 + x + 1 = m + x + 1 + 1 by omega, junctionref5_unlike.l0, if_pos (by simp; omega), if_pos (by omega), if_pos (by omega), wr_in ((i : Int) + 1) (by omega) (by omega), show ((i : Int) + 1) = ((i + 1 : Nat) : Int) by omega]
    simp only [Int.toNat_natCast, hs]
    have hdr : (L.take t).drop i = L.getD i ByteArray.empty :: (L.take t).drop (i + 1) := by
      rw [List.drop_eq_getElem_cons (by simp; omega)]
      simp only [List.getElem_take, List.getD_eq_getElem?_getD, List.getElem?_eq_getElem (show i < L.length by omega)]
      rfl
    rw [hdr, List.any_cons]
    have hsym : (s.toList == (L.getD i ByteArray.empty).toList) = same (L.getD i ByteArray.empty) s := by
      unfold same
      exact Bool.eq_iff_iff.2 ⟨fun h => by simp at h ⊢; exact h.symm, fun h => by simp at h ⊢; exact h.symm⟩
    rw [hsym]
    cases same (L.getD i ByteArray.empty) s with
    | true => simp
    | false =>
      simp only [Bool.false_eq_true, if_false, Bool.false_or]
      exact unlike_l0 K L hL t ht s hs m x (i + 1) (by omega)
theorem unlike_loop (K : Nat) (L : List ByteArray) (hL : L.length ≤ 100000) (hK : L.length + 10 ≤ K) (hok : ∀ s ∈ L, okT K s) : ∀ (r : List ByteArray) (x i : Nat), L.drop i = r → i + r.length = L.length →
    junctionref5_unlike.l1 K (r.length + x + 1) L (i : Int) = some (if namesF K (L.take i) r = true then .inr ((), ()) else .inl ((false, ()), ()))
  | [], x, i, hd, hi => by
    rw [junctionref5_unlike.l1, if_neg (by simp at hi; simp; omega)]
    rfl
  | s :: r, x, i, hd, hi => by
    obtain ⟨h1, h2, h3, h4⟩ := head_drop (d := ByteArray.empty) hd
    obtain ⟨_, b, _, k2, _, k4⟩ := nm_ok (hok s h3)
    rw [show (s :: r).length + x + 1 = r.length + x + 1 + 1 by simp; omega, junctionref5_unlike.l1, if_pos (by simp; omega), if_pos (by omega)]
    simp only [Int.toNat_natCast, h1]
    unfold namesF
    rw [k2, wr_in ((i : Int) + 1) (by omega) (by omega), show ((i : Int) + 1) = ((i + 1 : Nat) : Int) by omega]
    simp only [Option.bind_some]
    rw [show (b != 1) = !(b == 1) from rfl, k4]
    cases hn : nmB K s with
    | false => simp
    | true =>
      simp only [Bool.not_true, Bool.false_eq_true, if_false, Bool.and_true]
      have h0 := unlike_l0 K L hL i h4 s h1 i (K - i - 1) 0 (by omega)
      rw [show i + (K - i - 1) + 1 = K by omega, show ((0 : Nat) : Int) = 0 from rfl, List.drop_zero] at h0
      rw [h0, Option.bind_some]
      cases hm : (L.take i).any (same · s) with
      | true => simp [onSum]
      | false =>
        simp only [Bool.false_eq_true, if_false, onSum, Bool.not_false, Bool.true_and]
        rw [unlike_loop K L hL hK hok r x (i + 1) h2 (by simp at hi; omega)]
        rw [show L.take (i + 1) = L.take i ++ [s] by
          rw [List.take_add_one, List.getElem?_eq_getElem h4, ← h1, List.getD_eq_getElem?_getD, List.getElem?_eq_getElem h4]; rfl]
theorem unlike_ok (K : Nat) (L : List ByteArray) (hL : L.length ≤ 100000) (hK : L.length + 10 ≤ K) (hok : ∀ s ∈ L, okT K s) : junctionref5_unlike K L = some (namesF K [] L, ()) := by
  unfold junctionref5_unlike
  have h := unlike_loop K L hL hK hok L (K - L.length - 1) 0 rfl (by omega)
  rw [show L.length + (K - L.length - 1) + 1 = K by omega, show ((0 : Nat) : Int) = 0 from rfl, List.take_zero] at h
  rw [h]
  cases namesF K [] L <;> rfl
end Go.Am.Tryd
end

section
namespace Go.Am.Tryd
open Go.Proofs Go.Am Go.RowKit
set_option maxRecDepth 100000
set_option linter.unusedVariables false
abbrev Sg := Am.Tryd.S98
abbrev Nx := Am.Tryd.S95
abbrev sg0 : Sg := S98.mk ByteArray.empty 0 0 [] [] [] []
abbrev nx0 : Nx := S95.mk 0 []
section
variable (nm : ByteArray) (G : List S42) (C : List S47) (D : List S110) (Tm Ct : List ByteArray) (V : List S112) (St : List S98) (sta : Int)

structure okL (K : Nat) (L : List Sm) : Prop where
  len : L.length ≤ 5000000000000
  st : ∀ s ∈ L, okS K s
  fuel : L.length + 10 ≤ K
structure okX (K : Nat) (x : Nx) : Prop where
  len : x.f1.length ≤ 5000000000000
  nd : ∀ y ∈ x.f1, okN y
  fuel : x.f1.length + 400 ≤ K
structure okG (K : Nat) (s : Sg) : Prop where
  e : okL K s.f3
  d : okL K s.f4
  l : okL K s.f5
  len : s.f6.length ≤ 5000000000000
  nx : ∀ x ∈ s.f6, okX K x
  fuel : s.f6.length + 10 ≤ K
def nextOk (i : Int) (x : Nx) : Bool := decide (0 ≤ x.f0 ∧ x.f0 < (St.length : Int) ∧ x.f0 ≠ i) && soundE G D Tm Ct V x.f1 2
def idOk (i : Nat) (s : Sg) : Bool := decide (0 ≤ s.f1 ∧ s.f1 ≤ 255) && (decide (i = 0) || decide (¬ s.f1 ≤ (St.getD (i - 1) sg0).f1))
def maskOk (s : Sg) : Bool := !(decide ((G.length : Int) < 64) && (shr IntKind.u64 s.f2 (G.length : Int) != 0))
def lists3 (s : Sg) : Bool := listOk G D Tm Ct V [] s.f3 && listOk G D Tm Ct V [] s.f4 && listOk G D Tm Ct V [] s.f5
def stageOk (i : Nat) (s : Sg) : Bool := idOk St i s && maskOk G s && lists3 G D Tm Ct V s && s.f6.all (nextOk G D Tm Ct V St (i : Int))
def nS (L : List Sm) : Int := (L.map fun s => (s.f3.length : Int)).sum
def nX (L : List Nx) : Int := (L.map fun s => (s.f1.length : Int)).sum
def cS (s : Sg) : Int := (s.f3.length : Int) + (s.f4.length : Int) + (s.f5.length : Int)
def cX (s : Sg) : Int := (s.f6.length : Int)
def cN (s : Sg) : Int := nS s.f3 + nS s.f4 + nS s.f5 + nX s.f6

/-! ### Sums -/
theorem nS_range (L : List Sm) (h : ∀ s ∈ L, s.f3.length ≤ 256) : 0 ≤ nS L ∧ nS L ≤ 256 * (L.length : Int) := by
  induction L with
  | nil => simp [nS]
  | cons s L ih =>
    have h1 := h s (by simp)
    have h2 := ih fun x hx => h x (List.mem_cons_of_mem _ hx)
    simp only [nS, List.map_cons, List.sum_cons, List.length_cons] at *
    omega
theorem nX_range (L : List Nx) (h : ∀ s ∈ L, s.f1.length ≤ 256) : 0 ≤ nX L ∧ nX L ≤ 256 * (L.length : Int) := by
  induction L with
  | nil => simp [nX]
  | cons s L ih =>
    have h1 := h s (by simp)
    have h2 := ih fun x hx => h x (List.mem_cons_of_mem _ hx)
    simp only [nX, List.map_cons, List.sum_cons, List.length_cons] at *
    omega
theorem sound_len {e : List Nd} {t : Int} (h : soundE G D Tm Ct V e t = true) : e.length ≤ 256 := by
  unfold soundE at h
  simp only [Bool.and_eq_true, decide_eq_true_eq] at h
  exact h.1.2.1
theorem stmt_len {s : Sm} (h : stmtOk G D Tm Ct V s = true) : s.f3.length ≤ 256 := by
  unfold stmtOk at h
  simp only [Bool.and_eq_true] at h
  have h := h.2
  split at h
  · cases h
  · simp only [Bool.and_eq_true] at h
    have h := h.2
    split at h
    · have : s.f3 = [] := of_decide_eq_true h
      rw [this]; simp
    · exact sound_len G D Tm Ct V h
theorem list_len : ∀ (L : List Sm) (b : List Bool), listOk G D Tm Ct V b L = true → ∀ s ∈ L, s.f3.length ≤ 256
  | [], b, h, s, hs => by simp at hs
  | x :: L, b, h, s, hs => by
    unfold listOk at h
    simp only [Bool.and_eq_true] at h
    rcases List.mem_cons.1 hs with rfl | hs
    · exact stmt_len G D Tm Ct V h.1
    · have h := h.2
      split at h
      · cases h
      · exact list_len L _ h s hs
theorem nodes_any (K : Nat) (L : List Sm) (hL : L.length ≤ 5000000000000) : ∀ (r : List Sm) (x i : Nat) (t : Int), L.drop i = r → i + r.length = L.length → ∃ z, check_nodes.l0 K (r.length + x + 1) t L (L.length : Int) (i : Int) = some ((z, ()), ())
  | [], x, i, t, hd, hi => by
    rw [check_nodes.l0, if_neg (by simp at hi; simp; omega)]
    exact ⟨_, rfl⟩
  | s :: r, x, i, t, hd, hi => by
    obtain ⟨h1, h2, h3, h4⟩ := head_drop (d := sm0) hd
    rw [show (s :: r).length + x + 1 = r.length + x + 1 + 1 by simp; omega, check_nodes.l0, if_pos (by simp; omega), if_pos (by omega), wr_in ((i : Int) + 1) (by omega) (by omega), show ((i : Int) + 1) = ((i + 1 : Nat) : Int) by omega]
    exact nodes_any K L hL r x (i + 1) _ h2 (by simp at hi; omega)
theorem nodes_eq (K : Nat) (L : List Sm) (hL : L.length ≤ 5000000000000) (hs : ∀ s ∈ L, s.f3.length ≤ 256) : ∀ (r : List Sm) (x i : Nat) (t : Int), L.drop i = r → i + r.length = L.length → 0 ≤ t → t + 256 * (r.length : Int) ≤ 9000000000000000000 → check_nodes.l0 K (r.length + x + 1) t L (L.length : Int) (i : Int) = some ((t + nS r, ()), ())
  | [], x, i, t, hd, hi, _, _ => by
    rw [check_nodes.l0, if_neg (by simp at hi; simp; omega)]
    simp [nS]
  | s :: r, x, i, t, hd, hi, ht, ht2 => by
    obtain ⟨h1, h2, h3, h4⟩ := head_drop (d := sm0) hd
    have h5 := hs s h3
    rw [show (s :: r).length + x + 1 = r.length + x + 1 + 1 by simp; omega, check_nodes.l0, if_pos (by simp; omega), if_pos (by omega), wr_in ((i : Int) + 1) (by omega) (by omega), show ((i : Int) + 1) = ((i + 1 : Nat) : Int) by omega]
    simp only [Int.toNat_natCast, show L.getD i (S165.mk 0 ByteArray.empty 0 [] 0 0) = s from h1]
    simp only [List.length_cons] at ht2
    rw [wr_in (t + (s.f3.length : Int)) (by omega) (by omega), nodes_eq K L hL hs r x (i + 1) _ h2 (by simp at hi; omega) (by omega) (by omega)]
    simp only [nS, List.map_cons, List.sum_cons]
    rw [Int.add_assoc]
theorem rnodes_eq (K : Nat) (L : List Sm) (hL : L.length ≤ 5000000000000) (hs : ∀ s ∈ L, s.f3.length ≤ 256) : ∀ (r : List Sm) (x i : Nat) (t : Int), L.drop i = r → i + r.length = L.length → 0 ≤ t → t + 256 * (r.length : Int) ≤ 9000000000000000000 → junctionref5_nodes.l0 K (r.length + x + 1) L t (i : Int) = some ((t + nS r, ()), ())
  | [], x, i, t, hd, hi, _, _ => by
    rw [junctionref5_nodes.l0, if_neg (by simp at hi; simp; omega)]
    simp [nS]
  | s :: r, x, i, t, hd, hi, ht, ht2 => by
    obtain ⟨h1, h2, h3, h4⟩ := head_drop (d := sm0) hd
    have h5 := hs s h3
    rw [show (s :: r).length + x + 1 = r.length + x + 1 + 1 by simp; omega, junctionref5_nodes.l0, if_pos (by simp; omega), if_pos (by omega), wr_in ((i : Int) + 1) (by omega) (by omega), show ((i : Int) + 1) = ((i + 1 : Nat) : Int) by omega]
    simp only [Int.toNat_natCast, show L.getD i (S165.mk 0 ByteArray.empty 0 [] 0 0) = s from h1]
    simp only [List.length_cons] at ht2
    rw [wr_in (t + (s.f3.length : Int)) (by omega) (by omega), rnodes_eq K L hL hs r x (i + 1) _ h2 (by simp at hi; omega) (by omega) (by omega)]
    simp only [nS, List.map_cons, List.sum_cons]
    rw [Int.add_assoc]
theorem rnodes_ok (K : Nat) (L : List Sm) (h : okL K L) (hs : ∀ s ∈ L, s.f3.length ≤ 256) : junctionref5_nodes K L = some (nS L, ()) := by
  unfold junctionref5_nodes
  have h1 := h.len
  have h2 := h.fuel
  have e := rnodes_eq K L h.len hs L (K - L.length - 1) 0 0 rfl (by omega) (by omega) (by omega)
  rw [show L.length + (K - L.length - 1) + 1 = K by omega, show ((0 : Nat) : Int) = 0 from rfl] at e
  rw [e, Int.zero_add]
  rfl
theorem nexts_any (K : Nat) (L : List Nx) (hL : L.length ≤ 5000000000000) : ∀ (r : List Nx) (x i : Nat) (t : Int), L.drop i = r → i + r.length = L.length → ∃ z, check_nodes.l2 K (r.length + x + 1) t L (L.length : Int) (i : Int) = some ((z, ()), ())
  | [], x, i, t, hd, hi => by
    rw [check_nodes.l2, if_neg (by simp at hi; simp; omega)]
    exact ⟨_, rfl⟩
  | s :: r, x, i, t, hd, hi => by
    obtain ⟨h1, h2, h3, h4⟩ := head_drop (d := nx0) hd
    rw [show (s :: r).length + x + 1 = r.length + x + 1 + 1 by simp; omega, check_nodes.l2, if_pos (by simp; omega), if_pos (by omega), wr_in ((i : Int) + 1) (by omega) (by omega), show ((i : Int) + 1) = ((i + 1 : Nat) : Int) by omega]
    exact nexts_any K L hL r x (i + 1) _ h2 (by simp at hi; omega)
theorem nexts_eq (K : Nat) (L : List Nx) (hL : L.length ≤ 5000000000000) (hs : ∀ s ∈ L, s.f1.length ≤ 256) : ∀ (r : List Nx) (x i : Nat) (t : Int), L.drop i = r → i + r.length = L.length → 0 ≤ t → t + 256 * (r.length : Int) ≤ 9000000000000000000 → check_nodes.l2 K (r.length + x + 1) t L (L.length : Int) (i : Int) = some ((t + nX r, ()), ())
  | [], x, i, t, hd, hi, _, _ => by
    rw [check_nodes.l2, if_neg (by simp at hi; simp; omega)]
    simp [nX]
  | s :: r, x, i, t, hd, hi, ht, ht2 => by
    obtain ⟨h1, h2, h3, h4⟩ := head_drop (d := nx0) hd
    have h5 := hs s h3
    rw [show (s :: r).length + x + 1 = r.length + x + 1 + 1 by simp; omega, check_nodes.l2, if_pos (by simp; omega), if_pos (by omega), wr_in ((i : Int) + 1) (by omega) (by omega), show ((i : Int) + 1) = ((i + 1 : Nat) : Int) by omega]
    simp only [Int.toNat_natCast, show L.getD i (S95.mk 0 []) = s from h1]
    simp only [List.length_cons] at ht2
    rw [wr_in (t + (s.f1.length : Int)) (by omega) (by omega), nexts_eq K L hL hs r x (i + 1) _ h2 (by simp at hi; omega) (by omega) (by omega)]
    simp only [nX, List.map_cons, List.sum_cons]
    rw [Int.add_assoc]
theorem nodes3_any (K J : Nat) (t : Int) (a b c : List Sm) (ha : okL K a) (hb : okL K b) (hc : okL K c) : ∃ z, check_nodes.l1 K (J + 4) t a b c 0 = some ((z, ()), ()) := by
  have one : ∀ (L : List Sm) (h : okL K L) (t : Int), ∃ z, check_nodes.l0 K K t L (L.length : Int) 0 = some ((z, ()), ()) := fun L h t => by
    have h1 := h.len
    have h2 := h.fuel
    have e := nodes_any K L h.len L (K - L.length - 1) 0 t rfl (by omega)
    rwa [show L.length + (K - L.length - 1) + 1 = K by omega, show ((0 : Nat) : Int) = 0 from rfl] at e
  obtain ⟨z1, e1⟩ := one a ha t
  obtain ⟨z2, e2⟩ := one b hb z1
  obtain ⟨z3, e3⟩ := one c hc z2
  refine ⟨z3, ?_⟩
  rw [check_nodes.l1, if_pos (by decide), if_pos (by decide), e1, Option.bind_some, wr_in (0 + 1) (by omega) (by omega), check_nodes.l1, if_pos (by decide), if_neg (by decide), if_pos (by decide)]
  simp only
  rw [e2, Option.bind_some, wr_in (0 + 1 + 1) (by omega) (by omega), check_nodes.l1, if_pos (by decide), if_neg (by decide), if_neg (by decide), if_pos (by decide)]
  simp only
  rw [e3, Option.bind_some, wr_in (0 + 1 + 1 + 1) (by omega) (by omega), check_nodes.l1, if_neg (by decide)]
theorem nodes3_eq (K J : Nat) (a b c : List Sm) (ha : okL K a) (hb : okL K b) (hc : okL K c) (sa : ∀ s ∈ a, s.f3.length ≤ 256) (sb : ∀ s ∈ b, s.f3.length ≤ 256) (sc : ∀ s ∈ c, s.f3.length ≤ 256) : check_nodes.l1 K (J + 4) 0 a b c 0 = some ((nS a + nS b + nS c, ()), ()) := by
  have one : ∀ (L : List Sm) (h : okL K L) (hs : ∀ s ∈ L, s.f3.length ≤ 256) (t : Int), 0 ≤ t → t ≤ 1000000000000000000 → check_nodes.l0 K K t L (L.length : Int) 0 = some ((t + nS L, ()), ()) := fun L h hs t t0 t1 => by
    have h1 := h.len
    have h2 := h.fuel
    have e := nodes_eq K L h.len hs L (K - L.length - 1) 0 t rfl (by omega) t0 (by omega)
    rwa [show L.length + (K - L.length - 1) + 1 = K by omega, show ((0 : Nat) : Int) = 0 from rfl] at e
  have ra := nS_range a sa
  have rb := nS_range b sb
  have la := ha.len
  have lb := hb.len
  rw [check_nodes.l1, if_pos (by decide), if_pos (by decide), one a ha sa 0 (by omega) (by omega), Option.bind_some, wr_in (0 + 1) (by omega) (by omega), check_nodes.l1, if_pos (by decide), if_neg (by decide), if_pos (by decide)]
  simp only
  rw [one b hb sb _ (by omega) (by omega), Option.bind_some, wr_in (0 + 1 + 1) (by omega) (by omega), check_nodes.l1, if_pos (by decide), if_neg (by decide), if_neg (by decide), if_pos (by decide)]
  simp only
  rw [one c hc sc _ (by omega) (by omega), Option.bind_some, wr_in (0 + 1 + 1 + 1) (by omega) (by omega), check_nodes.l1, if_neg (by decide), Int.zero_add]
theorem cnodes_any (K : Nat) (s : Sg) (h : okG K s) : ∃ v, check_nodes K s.f0 s.f1 s.f2 s.f3 s.f4 s.f5 s.f6 = some (v, ()) := by
  unfold check_nodes
  have hf := h.fuel
  obtain ⟨z, e⟩ := nodes3_any K (K - 4) 0 s.f3 s.f4 s.f5 h.e h.d h.l
  rw [show K - 4 + 4 = K by omega] at e
  obtain ⟨y, e2⟩ := nexts_any K s.f6 h.len s.f6 (K - s.f6.length - 1) 0 z rfl (by omega)
  rw [show s.f6.length + (K - s.f6.length - 1) + 1 = K by omega, show ((0 : Nat) : Int) = 0 from rfl] at e2
  rw [e, Option.bind_some]
  simp only
  rw [e2]
  exact ⟨_, rfl⟩
theorem stage_lens {i : Nat} {s : Sg} (h : stageOk G D Tm Ct V St i s = true) : (∀ x ∈ s.f3, x.f3.length ≤ 256) ∧ (∀ x ∈ s.f4, x.f3.length ≤ 256) ∧ (∀ x ∈ s.f5, x.f3.length ≤ 256) ∧ (∀ x ∈ s.f6, x.f1.length ≤ 256) := by
  unfold stageOk lists3 at h
  simp only [Bool.and_eq_true] at h
  obtain ⟨⟨⟨_, _⟩, ⟨h1, h2⟩, h3⟩, h4⟩ := h
  refine ⟨list_len G D Tm Ct V _ _ h1, list_len G D Tm Ct V _ _ h2, list_len G D Tm Ct V _ _ h3, fun x hx => ?_⟩
  have := List.all_eq_true.1 h4 x hx
  unfold nextOk at this
  simp only [Bool.and_eq_true] at this
  exact sound_len G D Tm Ct V this.2
theorem cnodes_eq (K : Nat) (s : Sg) (h : okG K s) {i : Nat} (hs : stageOk G D Tm Ct V St i s = true) : check_nodes K s.f0 s.f1 s.f2 s.f3 s.f4 s.f5 s.f6 = some (cN s, ()) := by
  unfold check_nodes cN
  have hf := h.fuel
  have hl := h.len
  obtain ⟨h1, h2, h3, h4⟩ := stage_lens G D Tm Ct V St hs
  have r1 := nS_range _ h1
  have r2 := nS_range _ h2
  have r3 := nS_range _ h3
  have l1 := h.e.len
  have l2 := h.d.len
  have l3 := h.l.len
  have e := nodes3_eq K (K - 4) s.f3 s.f4 s.f5 h.e h.d h.l h1 h2 h3
  rw [show K - 4 + 4 = K by omega] at e
  have e2 := nexts_eq K s.f6 h.len h4 s.f6 (K - s.f6.length - 1) 0 (nS s.f3 + nS s.f4 + nS s.f5) rfl (by omega) (by omega) (by omega)
  rw [show s.f6.length + (K - s.f6.length - 1) + 1 = K by omega, show ((0 : Nat) : Int) = 0 from rfl] at e2
  rw [e, Option.bind_some]
  simp only
  rw [e2]
  rfl
theorem cN_range {i : Nat} {s : Sg} {K : Nat} (h : okG K s) (hs : stageOk G D Tm Ct V St i s = true) : 0 ≤ cN s ∧ cN s ≤ 6000000000000000 := by
  obtain ⟨h1, h2, h3, h4⟩ := stage_lens G D Tm Ct V St hs
  have r1 := nS_range _ h1
  have r2 := nS_range _ h2
  have r3 := nS_range _ h3
  have r4 := nX_range _ h4
  have l1 := h.e.len
  have l2 := h.d.len
  have l3 := h.l.len
  have l4 := h.len
  unfold cN
  omega
end
end Go.Am.Tryd
end

section
namespace Go.Am.Tryd
open Go.Proofs Go.Am Go.RowKit
set_option maxRecDepth 100000
set_option linter.unusedVariables false
def inB (x lo hi : Int) : Bool := decide (x ≥ lo) && decide (x ≤ hi)
theorem in_ok (K : Nat) (x lo hi : Int) : check_in K x lo hi = some (inB x lo hi, ()) := by
  unfold check_in inB
  cases decide (x ≥ lo) <;> rfl
theorem within_ok (K : Nat) (x lo hi : Int) : junctionref5_within K x lo hi = some (inB x lo hi, ()) := by
  unfold junctionref5_within inB
  cases decide (x ≥ lo) <;> rfl
theorem inB_dec (x lo hi : Int) : inB x lo hi = decide (lo ≤ x ∧ x ≤ hi) := by
  unfold inB
  by_cases h1 : lo ≤ x <;> by_cases h2 : x ≤ hi <;> simp [h1, h2]
section
variable (nm : ByteArray) (G : List S42) (C : List S47) (D : List S110) (Tm Ct : List ByteArray) (V : List S112) (St : List S98) (sta : Int)

abbrev gT (s : Sg) : ByteArray × Int × Int × List S165 × List S165 × List S165 × List S95 × Unit := (s.f0, s.f1, s.f2, s.f3, s.f4, s.f5, s.f6, ())
theorem id_ok (K : Nat) (i : Nat) (s : Sg) (hi : i < St.length) (hS : St.length ≤ 1000000000000) : check_soundStage.l0 K nm G C D Tm Ct V St sta (i : Int) s.f0 s.f1 s.f2 s.f3 s.f4 s.f5 s.f6 =
    some (if idOk St i s = true then .inr (((), ()), gT s, ()) else .inl ((false, ()), gT s, ())) := by
  unfold check_soundStage.l0 idOk
  rw [in_ok, inB_dec]
  by_cases h1 : 0 ≤ s.f1 ∧ s.f1 ≤ 255
  · rw [decide_eq_true h1]
    simp only [Option.bind_some, Bool.not_true, if_true, Bool.true_and]
    by_cases h2 : i = 0
    · subst h2
      simp
    · have h3 : decide ((i : Int) > 0) = true := decide_eq_true (by omega)
      rw [if_pos h3, wr_in ((i : Int) - 1) (by omega) (by omega), if_pos (by omega), show ((i : Int) - 1).toNat = i - 1 by omega]
      by_cases h4 : s.f1 ≤ (St.getD (i - 1) sg0).f1
      · rw [if_pos (by simpa using h4), if_neg (by rw [decide_eq_false h2, decide_eq_false (fun q => q h4)]; simp)]
      · rw [if_neg (by simpa using h4), if_pos (by rw [decide_eq_false h2, decide_eq_true h4]; rfl)]
  · rw [decide_eq_false h1]
    rfl
theorem rid_ok (K : Nat) (i : Nat) (s : Sg) (hi : i < St.length) (hS : St.length ≤ 1000000000000) : junctionref5_stages.l0 K nm G C D Tm Ct V St sta (i : Int) s.f0 s.f1 s.f2 s.f3 s.f4 s.f5 s.f6 =
    some (if idOk St i s = true then .inr (((), ()), gT s, ()) else .inl ((false, ()), gT s, ())) := by
  unfold junctionref5_stages.l0 idOk
  rw [within_ok, inB_dec]
  by_cases h1 : 0 ≤ s.f1 ∧ s.f1 ≤ 255
  · rw [decide_eq_true h1]
    simp only [Option.bind_some, Bool.not_true, if_true, Bool.true_and]
    by_cases h2 : i = 0
    · subst h2
      simp
    · have h3 : decide ((i : Int) > 0) = true := decide_eq_true (by omega)
      rw [if_pos h3, wr_in ((i : Int) - 1) (by omega) (by omega), if_pos (by omega), show ((i : Int) - 1).toNat = i - 1 by omega]
      by_cases h4 : s.f1 ≤ (St.getD (i - 1) sg0).f1
      · rw [if_pos (by simpa using h4), if_neg (by rw [decide_eq_false h2, decide_eq_false (fun q => q h4)]; simp)]
      · rw [if_neg (by simpa using h4), if_pos (by rw [decide_eq_false h2, decide_eq_true h4]; rfl)]
  · rw [decide_eq_false h1]
    rfl
theorem mask_ok (K : Nat) (s : Sg) : check_soundStage.l1 K nm G C D Tm Ct V St sta s.f0 s.f1 s.f2 s.f3 s.f4 s.f5 s.f6 = some (if maskOk G s = true then .inl (((), ()), gT s, ()) else .inr ((false, ()), gT s, ())) := by
  unfold check_soundStage.l1 maskOk
  cases decide ((G.length : Int) < 64) <;> cases (shr IntKind.u64 s.f2 (G.length : Int) != 0) <;> rfl
theorem rmask_ok (K : Nat) (s : Sg) : junctionref5_stages.l1 K (G.length : Int) s.f0 s.f1 s.f2 s.f3 s.f4 s.f5 s.f6 = some (if maskOk G s = true then .inl (((), ()), gT s, ()) else .inr ((false, ()), gT s, ())) := by
  unfold junctionref5_stages.l1 maskOk
  rw [if_neg (show ¬ (G.length : Int) < 0 by omega)]
  cases decide ((G.length : Int) < 64) <;> cases (shr IntKind.u64 s.f2 (G.length : Int) != 0) <;> rfl
theorem lists_ok (K : Nat) (s : Sg) (h : okG K s) : check_soundStage.l2 K nm G C D Tm Ct V St sta s.f0 s.f1 s.f2 s.f3 s.f4 s.f5 s.f6 = some (if lists3 G D Tm Ct V s = true then .inr (((), ()), gT s, ()) else .inl ((false, ()), gT s, ())) := by
  unfold check_soundStage.l2 lists3
  have l := fun L (q : okL K L) => list_ok nm G C D Tm Ct V St sta K L (by have := q.len; omega) q.st q.fuel
  rw [l _ h.e, l _ h.d, l _ h.l]
  cases listOk G D Tm Ct V [] s.f3 <;> cases listOk G D Tm Ct V [] s.f4 <;> cases listOk G D Tm Ct V [] s.f5 <;> rfl
theorem rlists_ok (K : Nat) (s : Sg) (h : okG K s) : junctionref5_stages.l2 K nm G C D Tm Ct V St sta s.f0 s.f1 s.f2 s.f3 s.f4 s.f5 s.f6 = some (if lists3 G D Tm Ct V s = true then .inr (((), ()), gT s, ()) else .inl ((false, ()), gT s, ())) := by
  unfold junctionref5_stages.l2 lists3
  have l := fun L (q : okL K L) => rlist_ok nm G C D Tm Ct V St sta K L (by have := q.len; omega) q.st q.fuel
  rw [l _ h.e, l _ h.d, l _ h.l]
  cases listOk G D Tm Ct V [] s.f3 <;> cases listOk G D Tm Ct V [] s.f4 <;> cases listOk G D Tm Ct V [] s.f5 <;> rfl
theorem nexts_loop (K : Nat) (i : Nat) (hS : St.length ≤ 1000000000000) (L : List Nx) (hL : L.length ≤ 5000000000000) (hx : ∀ x ∈ L, okX K x) : ∀ (r : List Nx) (x j : Nat), L.drop j = r → j + r.length = L.length →
    check_soundStage.l3 K (r.length + x + 1) nm G C D Tm Ct V St sta (i : Int) L (L.length : Int) (j : Int) = some (if r.all (nextOk G D Tm Ct V St (i : Int)) = true then .inr ((), ()) else .inl ((false, ()), ()))
  | [], x, j, hd, hi => by
    rw [check_soundStage.l3, if_neg (by simp at hi; simp; omega)]
    rfl
  | s :: r, x, j, hd, hi => by
    obtain ⟨h1, h2, h3, h4⟩ := head_drop (d := nx0) hd
    have hs := hx s h3
    rw [show (s :: r).length + x + 1 = r.length + x + 1 + 1 by simp; omega, check_soundStage.l3, if_pos (by simp; omega), if_pos (by omega), wr_in ((j : Int) + 1) (by omega) (by omega), show ((j : Int) + 1) = ((j + 1 : Nat) : Int) by omega]
    simp only [Int.toNat_natCast, show L.getD j (S95.mk 0 []) = s from h1]
    rw [in_ok, inB_dec, wr_in ((St.length : Int) - 1) (by omega) (by omega), expr_ok nm G C D Tm Ct V St sta K s.f1 2 hs.len hs.nd hs.fuel (.inr rfl)]
    rw [List.all_cons]
    simp only [Option.bind_some]
    rw [nexts_loop K i hS L hL hx r x (j + 1) h2 (by simp at hi; omega)]
    have hn : nextOk G D Tm Ct V St (i : Int) s = (decide (0 ≤ s.f0 ∧ s.f0 < (St.length : Int) ∧ s.f0 ≠ (i : Int)) && soundE G D Tm Ct V s.f1 2) := rfl
    rw [hn]
    clear hn
    generalize r.all (nextOk G D Tm Ct V St (i : Int)) = rest
    by_cases c1 : 0 ≤ s.f0 ∧ s.f0 ≤ (St.length : Int) - 1
    · by_cases c2 : s.f0 = (i : Int)
      · have q : decide (0 ≤ s.f0 ∧ s.f0 < (St.length : Int) ∧ s.f0 ≠ (i : Int)) = false := decide_eq_false (fun h => h.2.2 c2)
        rw [q, decide_eq_true c1]
        simp [c2]
      · have q : decide (0 ≤ s.f0 ∧ s.f0 < (St.length : Int) ∧ s.f0 ≠ (i : Int)) = true := decide_eq_true (by omega)
        have c3 : (s.f0 == (i : Int)) = false := by simpa using c2
        rw [q, decide_eq_true c1, c3]
        cases soundE G D Tm Ct V s.f1 2 <;> simp
    · have q : decide (0 ≤ s.f0 ∧ s.f0 < (St.length : Int) ∧ s.f0 ≠ (i : Int)) = false := decide_eq_false (by omega)
      rw [q, decide_eq_false c1]
      simp
theorem stage_ok (K : Nat) (i : Nat) (hS : St.length ≤ 1000000000000) (s : Sg) (hi : i < St.length) (hs : St.getD i sg0 = s) (h : okG K s) : check_soundStage K nm G C D Tm Ct V St sta (i : Int) = some (stageOk G D Tm Ct V St i s, ()) := by
  unfold check_soundStage stageOk
  rw [if_pos (by omega)]
  simp only [Int.toNat_natCast, show St.getD i (S98.mk ByteArray.empty 0 0 [] [] [] []) = s from hs]
  rw [id_ok nm G C D Tm Ct V St sta K i s hi hS]
  cases idOk St i s with
  | false => rfl
  | true =>
    simp only [if_true, Option.bind_some, onSum, Bool.true_and]
    rw [mask_ok nm G C D Tm Ct V St sta K s]
    cases maskOk G s with
    | false => rfl
    | true =>
      simp only [if_true, Option.bind_some, onSum, Bool.true_and]
      rw [lists_ok nm G C D Tm Ct V St sta K s h]
      cases lists3 G D Tm Ct V s with
      | false => rfl
      | true =>
        simp only [if_true, Option.bind_some, onSum, Bool.true_and]
        have hf := h.fuel
        have e := nexts_loop nm G C D Tm Ct V St sta K i hS s.f6 h.len h.nx s.f6 (K - s.f6.length - 1) 0 rfl (by omega)
        rw [show s.f6.length + (K - s.f6.length - 1) + 1 = K by omega, show ((0 : Nat) : Int) = 0 from rfl] at e
        rw [e]
        cases s.f6.all (nextOk G D Tm Ct V St (i : Int)) <;> rfl
theorem rnext_ok (K : Nat) (i : Nat) (x : Nx) (hx : okX K x) : junctionref5_stages.l3 K nm G C D Tm Ct V St sta (i : Int) x.f0 x.f1 = some (if nextOk G D Tm Ct V St (i : Int) x = true then .inr (((), ()), (x.f0, x.f1, ()), ()) else .inl ((false, ()), (x.f0, x.f1, ()), ())) := by
  unfold junctionref5_stages.l3 nextOk
  rw [rexpr_ok nm G C D Tm Ct V St sta K x.f1 2 hx.len hx.nd hx.fuel (.inr rfl)]
  by_cases c1 : x.f0 < 0
  · have q : decide (0 ≤ x.f0 ∧ x.f0 < (St.length : Int) ∧ x.f0 ≠ (i : Int)) = false := decide_eq_false (by omega)
    rw [q, decide_eq_true c1]
    rfl
  by_cases c2 : x.f0 ≥ (St.length : Int)
  · have q : decide (0 ≤ x.f0 ∧ x.f0 < (St.length : Int) ∧ x.f0 ≠ (i : Int)) = false := decide_eq_false (by omega)
    rw [q, decide_eq_false c1, decide_eq_true c2]
    rfl
  by_cases c3 : x.f0 = (i : Int)
  · have q : decide (0 ≤ x.f0 ∧ x.f0 < (St.length : Int) ∧ x.f0 ≠ (i : Int)) = false := decide_eq_false (fun h => h.2.2 c3)
    have c4 : (x.f0 == (i : Int)) = true := by simpa using c3
    rw [q, decide_eq_false c1, decide_eq_false c2, c4]
    rfl
  · have q : decide (0 ≤ x.f0 ∧ x.f0 < (St.length : Int) ∧ x.f0 ≠ (i : Int)) = true := decide_eq_true (by omega)
    have c4 : (x.f0 == (i : Int)) = false := by simpa using c3
    rw [q, decide_eq_false c1, decide_eq_false c2, c4]
    cases soundE G D Tm Ct V x.f1 2 <;> rfl
theorem rnexts_loop (K : Nat) (i : Nat) (s : Sg) (hL : s.f6.length ≤ 5000000000000) (hx : ∀ x ∈ s.f6, okX K x) : ∀ (r : List Nx) (x j : Nat) (t : Int), s.f6.drop j = r → j + r.length = s.f6.length → 0 ≤ t → t + 256 * (r.length : Int) ≤ 9000000000000000000 →
    (r.all (nextOk G D Tm Ct V St (i : Int)) = true ∧ junctionref5_stages.l4 K (r.length + x + 1) nm G C D Tm Ct V St sta t (i : Int) (j : Int) s.f0 s.f1 s.f2 s.f3 s.f4 s.f5 s.f6 = some (.inr ((t + nX r, ()), gT s, ()))) ∨
    (r.all (nextOk G D Tm Ct V St (i : Int)) = false ∧ ∃ y, junctionref5_stages.l4 K (r.length + x + 1) nm G C D Tm Ct V St sta t (i : Int) (j : Int) s.f0 s.f1 s.f2 s.f3 s.f4 s.f5 s.f6 = some (.inl ((false, ()), y)))
  | [], x, j, t, hd, hi, _, _ => by
    rw [junctionref5_stages.l4, if_neg (by simp at hi; simp; omega)]
    left
    simp [nX]
  | y :: r, x, j, t, hd, hi, h0, ht => by
    obtain ⟨h1, h2, h3, h4⟩ := head_drop (d := nx0) hd
    have hs := hx y h3
    rw [show (y :: r).length + x + 1 = r.length + x + 1 + 1 by simp; omega, junctionref5_stages.l4, if_pos (by simp; omega), if_pos (by omega), wr_in ((j : Int) + 1) (by omega) (by omega), show ((j : Int) + 1) = ((j + 1 : Nat) : Int) by omega]
    simp only [Int.toNat_natCast, show s.f6.getD j (S95.mk 0 []) = y from h1]
    rw [rnext_ok nm G C D Tm Ct V St sta K i y hs]
    simp only [List.all_cons]
    cases hn : nextOk G D Tm Ct V St (i : Int) y with
    | false =>
      right
      exact ⟨rfl, _, rfl⟩
    | true =>
      simp only [if_true, Option.bind_some, onSum, Bool.true_and]
      have hlen : y.f1.length ≤ 256 := by
        unfold nextOk at hn
        simp only [Bool.and_eq_true] at hn
        exact sound_len G D Tm Ct V hn.2
      simp only [List.length_cons] at ht
      rw [wr_in (t + (y.f1.length : Int)) (by omega) (by omega)]
      have := rnexts_loop K i s hL hx r x (j + 1) (t + (y.f1.length : Int)) h2 (by simp at hi; omega) (by omega) (by omega)
      have e : nX (y :: r) = (y.f1.length : Int) + nX r := by simp [nX]
      rw [e, ← Int.add_assoc]
      exact this

/-! ### All stages -/
def allOk : Nat → List Sg → Bool
  | _, [] => true
  | i, s :: r => stageOk G D Tm Ct V St i s && allOk (i + 1) r
def sumS (f : Sg → Int) (r : List Sg) : Int := (r.map f).sum
def stagesB : Bool := allOk G D Tm Ct V St 0 St && decide (sumS cS St ≤ 4096) && decide (sumS cX St ≤ 4096) && decide (sumS cN St ≤ 16384)
theorem sumS_cons (f : Sg → Int) (s : Sg) (r : List Sg) : sumS f (s :: r) = f s + sumS f r := by simp [sumS]
theorem sumS_nonneg (f : Sg → Int) (r : List Sg) (h : ∀ s ∈ r, 0 ≤ f s) : 0 ≤ sumS f r := by
  induction r with
  | nil => simp [sumS]
  | cons s r ih =>
    rw [sumS_cons]
    have := h s (by simp)
    have := ih fun x hx => h x (List.mem_cons_of_mem _ hx)
    omega
theorem allOk_mem : ∀ (r : List Sg) (i : Nat), allOk G D Tm Ct V St i r = true → ∀ s ∈ r, ∃ j, stageOk G D Tm Ct V St j s = true
  | [], _, _, s, hs => by simp at hs
  | x :: r, i, h, s, hs => by
    unfold allOk at h
    simp only [Bool.and_eq_true] at h
    rcases List.mem_cons.1 hs with rfl | hs
    · exact ⟨i, h.1⟩
    · exact allOk_mem r (i + 1) h.2 s hs
theorem stages_loop (K : Nat) (hS : St.length ≤ 256) (hG : ∀ s ∈ St, okG K s) : ∀ (r : List Sg) (x i : Nat) (a b c : Int), St.drop i = r → i + r.length = St.length → 0 ≤ a ∧ a ≤ 4096 → 0 ≤ b ∧ b ≤ 4096 → 0 ≤ c ∧ c ≤ 16384 →
    ((allOk G D Tm Ct V St i r = true ∧ a + sumS cS r ≤ 4096 ∧ b + sumS cX r ≤ 4096 ∧ c + sumS cN r ≤ 16384) ∧ ∃ y, check_Sound.l2 K (r.length + x + 1) a b c St (St.length : Int) (i : Int) nm G C D Tm Ct V St sta = some (.inr y)) ∨
    (¬ (allOk G D Tm Ct V St i r = true ∧ a + sumS cS r ≤ 4096 ∧ b + sumS cX r ≤ 4096 ∧ c + sumS cN r ≤ 16384) ∧ ∃ y, check_Sound.l2 K (r.length + x + 1) a b c St (St.length : Int) (i : Int) nm G C D Tm Ct V St sta = some (.inl ((false, ()), y)))
  | [], x, i, a, b, c, hd, hi, ha, hb, hc => by
    rw [check_Sound.l2, if_neg (by simp at hi; simp; omega)]
    left
    refine ⟨⟨rfl, ?_, ?_, ?_⟩, _, rfl⟩ <;> simp [sumS] <;> omega
  | s :: r, x, i, a, b, c, hd, hi, ha, hb, hc => by
    obtain ⟨h1, h2, h3, h4⟩ := head_drop (d := sg0) hd
    have hs := hG s h3
    have e1 := hs.e.len
    have e2 := hs.d.len
    have e3 := hs.l.len
    have e4 := hs.len
    rw [show (s :: r).length + x + 1 = r.length + x + 1 + 1 by simp; omega, check_Sound.l2, if_pos (by simp; omega), if_pos (by omega), wr_in ((i : Int) + 1) (by omega) (by omega), show ((i : Int) + 1) = ((i + 1 : Nat) : Int) by omega]
    simp only [Int.toNat_natCast, show St.getD i (S98.mk ByteArray.empty 0 0 [] [] [] []) = s from h1]
    rw [wr_in ((s.f3.length : Int) + (s.f4.length : Int)) (by omega) (by omega), wr_in ((s.f3.length : Int) + (s.f4.length : Int) + (s.f5.length : Int)) (by omega) (by omega), wr_in (a + ((s.f3.length : Int) + (s.f4.length : Int) + (s.f5.length : Int))) (by omega) (by omega), wr_in (b + (s.f6.length : Int)) (by omega) (by omega)]
    rw [stage_ok nm G C D Tm Ct V St sta K i (by omega) s h4 h1 hs]
    cases hst : stageOk G D Tm Ct V St i s with
    | false =>
      right
      obtain ⟨v, hv⟩ := cnodes_any K s hs
      refine ⟨fun h => by unfold allOk at h; rw [hst] at h; exact absurd h.1 (by simp), ?_⟩
      rw [hv]
      simp only [Option.bind_some]
      (repeat' split) <;> first | exact ⟨_, rfl⟩ | (rename_i hh; simp at hh)
    | true =>
      have hv := cnodes_eq G D Tm Ct V St K s hs hst
      have hr := cN_range G D Tm Ct V St hs hst
      have n1 : 0 ≤ cS s := by unfold cS; omega
      have n2 : 0 ≤ cX s := by unfold cX; omega
      rw [hv]
      simp only [Option.bind_some, Bool.not_true, Bool.false_eq_true, if_false]
      rw [wr_in (c + cN s) (by omega) (by omega)]
      change (_ ∧ ∃ y, (if decide (a + cS s > 4096) = false then (if decide (b + cX s > 4096) = false then (if decide (c + cN s > 16384) = false then check_Sound.l2 K (r.length + x + 1) (a + cS s) (b + cX s) (c + cN s) St (St.length : Int) ((i + 1 : Nat) : Int) nm G C D Tm Ct V St sta else _) else _) else _) = some (.inr y)) ∨ (_ ∧ ∃ y, (if decide (a + cS s > 4096) = false then (if decide (b + cX s > 4096) = false then (if decide (c + cN s > 16384) = false then check_Sound.l2 K (r.length + x + 1) (a + cS s) (b + cX s) (c + cN s) St (St.length : Int) ((i + 1 : Nat) : Int) nm G C D Tm Ct V St sta else _) else _) else _) = some (.inl ((false, ()), y)))
      have hall : allOk G D Tm Ct V St i (s :: r) = allOk G D Tm Ct V St (i + 1) r := by
        rw [allOk, hst, Bool.true_and]
      rw [hall, sumS_cons, sumS_cons, sumS_cons, ← Int.add_assoc, ← Int.add_assoc, ← Int.add_assoc]
      have mem : ∀ q ∈ r, q ∈ St := fun q hq => by
        have : q ∈ St.drop i := by rw [hd]; exact List.mem_cons_of_mem _ hq
        exact List.mem_of_mem_drop this
      have p1 : 0 ≤ sumS cS r := sumS_nonneg cS r fun q hq => by unfold cS; omega
      have p2 : 0 ≤ sumS cX r := sumS_nonneg cX r fun q hq => by unfold cX; omega
      have p3 : allOk G D Tm Ct V St (i + 1) r = true → 0 ≤ sumS cN r := fun h => sumS_nonneg cN r fun q hq => by
        obtain ⟨j, hj⟩ := allOk_mem G D Tm Ct V St r (i + 1) h q hq
        exact (cN_range G D Tm Ct V St (hG q (mem q hq)) hj).1
      by_cases q1 : a + cS s > 4096
      · right
        rw [decide_eq_true q1]
        exact ⟨fun h => by omega, _, rfl⟩
      by_cases q2 : b + cX s > 4096
      · right
        rw [decide_eq_false q1, decide_eq_true q2]
        exact ⟨fun h => by omega, _, rfl⟩
      by_cases q3 : c + cN s > 16384
      · right
        rw [decide_eq_false q1, decide_eq_false q2, decide_eq_true q3]
        exact ⟨fun h => by have := p3 h.1; omega, _, rfl⟩
      rw [decide_eq_false q1, decide_eq_false q2, decide_eq_false q3]
      simp only [if_true]
      exact stages_loop K hS hG r x (i + 1) _ _ _ h2 (by simp at hi; omega) (by omega) (by omega) (by omega)
end
end Go.Am.Tryd
end

section
namespace Go.Am.Tryd
open Go.Proofs Go.Am Go.RowKit
set_option maxRecDepth 100000
set_option linter.unusedVariables false
def gOk (g : Am.Tryd.S42) : Bool := inB g.f1 1 2 && (inB g.f2 1 3600 && (inB g.f3 0 60 && inB g.f4 0 60))
def cOk (n : Int) (c : Am.Tryd.S47) : Bool := !decide (c.f0 < 0) && (!decide (c.f1 ≤ c.f0) && (!decide (c.f1 ≥ n) && (inB c.f2 0 3600 && inB c.f3 0 3600)))
def aft (a b : Int) (c : Am.Tryd.S47) : Bool := !decide (c.f0 < a) && !(c.f0 == a && decide (c.f1 ≤ b))
def chain (n : Int) : Int → Int → List Am.Tryd.S47 → Bool
  | _, _, [] => true
  | a, b, c :: l => cOk n c && (aft a b c && chain n c.f0 c.f1 l)
def gridB (G : List Am.Tryd.S42) (C : List Am.Tryd.S47) : Bool := decide (G.length ≤ 64) && (G.all gOk && chain G.length (-1) (-1) C)
theorem getD_drop {α : Type} {L : List α} {i : Nat} {g d : α} {r : List α} (h : L.drop i = g :: r) : L.getD i d = g := by
  have hi : i < L.length := by
    rcases Nat.lt_or_ge i L.length with h' | h'
    · exact h'
    · rw [List.drop_eq_nil_of_le h'] at h; cases h
  rw [List.drop_eq_getElem_cons hi] at h
  rw [List.getD_eq_getElem?_getD, List.getElem?_eq_getElem hi]
  exact (List.cons.inj h).1
theorem drop_next {α : Type} {L : List α} {i : Nat} {g : α} {r : List α} (h : L.drop i = g :: r) : L.drop (i + 1) = r := by rw [← List.drop_drop, h]; rfl
theorem grid_groups (K : Nat) (G : List Am.Tryd.S42) (hG : G.length ≤ 64) : ∀ (r : List Am.Tryd.S42) (x i : Nat), G.drop i = r → i + r.length = G.length →
    check_Grid.l0 K (r.length + x + 1) G (G.length : Int) (i : Int) = some (if r.all gOk = true then .inr ((), ()) else .inl ((false, ()), ()))
  | [], x, i, hd, hi => by
    rw [check_Grid.l0, if_neg (by simp at hi ⊢; omega)]
    rfl
  | g :: r, x, i, hd, hi => by
    simp only [List.length_cons] at hi
    rw [List.length_cons, show r.length + 1 + x + 1 = r.length + x + 1 + 1 by omega, check_Grid.l0, if_pos (by simp; omega), if_pos (by omega), Int.toNat_natCast, getD_drop hd, in_ok, Option.bind_some, in_ok, Option.bind_some, in_ok, Option.bind_some, in_ok, Option.bind_some, IntWalk.i64_in _ (by omega), show ((i : Int) + 1) = ((i + 1 : Nat) : Int) by omega,
      grid_groups K G hG r x (i + 1) (drop_next hd) (by omega), List.all_cons]
    unfold gOk
    cases inB g.f1 1 2 <;> cases inB g.f2 1 3600 <;> cases inB g.f3 0 60 <;> cases inB g.f4 0 60 <;> rfl
theorem grid_pair (K : Nat) (G : List Am.Tryd.S42) (C : List Am.Tryd.S47) (c : Am.Tryd.S47) : check_Grid.l1 K G C c.f0 c.f1 c.f2 c.f3 = some (if cOk G.length c = true then .inr (((), ()), (c.f0, c.f1, c.f2, c.f3, ()), ()) else .inl ((false, ()), (c.f0, c.f1, c.f2, c.f3, ()), ())) := by
  unfold check_Grid.l1 cOk
  rw [in_ok, Option.bind_some, in_ok, Option.bind_some]
  cases decide (c.f0 < 0) <;> cases decide (c.f1 ≤ c.f0) <;> cases decide (c.f1 ≥ (G.length : Int)) <;> cases inB c.f2 0 3600 <;> cases inB c.f3 0 3600 <;> rfl
theorem grid_after (K : Nat) (a b : Int) (c : Am.Tryd.S47) : check_Grid.l2 K a b c.f0 c.f1 c.f2 c.f3 = some (if aft a b c = true then .inr (((), ()), (c.f0, c.f1, c.f2, c.f3, ()), ()) else .inl ((false, ()), (c.f0, c.f1, c.f2, c.f3, ()), ())) := by
  unfold check_Grid.l2 aft
  cases decide (c.f0 < a) <;> cases (c.f0 == a) <;> cases decide (c.f1 ≤ b) <;> rfl
theorem grid_pairs (K : Nat) (G : List Am.Tryd.S42) (C : List Am.Tryd.S47) (hC : C.length ≤ 1000000000000000) : ∀ (r : List Am.Tryd.S47) (x i : Nat) (a b : Int), C.drop i = r → i + r.length = C.length →
    check_Grid.l3 K (r.length + x + 1) G C a b C (C.length : Int) (i : Int) = some (if chain G.length a b r = true then .inr ((), ()) else .inl ((false, ()), ()))
  | [], x, i, a, b, hd, hi => by
    rw [check_Grid.l3, if_neg (by simp at hi ⊢; omega)]
    rfl
  | c :: r, x, i, a, b, hd, hi => by
    simp only [List.length_cons] at hi
    rw [List.length_cons, show r.length + 1 + x + 1 = r.length + x + 1 + 1 by omega, check_Grid.l3, if_pos (by simp; omega), if_pos (by omega), Int.toNat_natCast, getD_drop hd, grid_pair, Option.bind_some, chain]
    cases hc : cOk G.length c
    · rfl
    · simp only [if_true, onSum]
      rw [grid_after, Option.bind_some]
      cases ha : aft a b c
      · rfl
      · simp only [if_true, onSum]
        rw [IntWalk.i64_in _ (by omega), show ((i : Int) + 1) = ((i + 1 : Nat) : Int) by omega, grid_pairs K G C hC r x (i + 1) c.f0 c.f1 (drop_next hd) (by omega)]
        simp
theorem grid_ok (K : Nat) (G : List Am.Tryd.S42) (C : List Am.Tryd.S47) (hC : C.length ≤ 1000000000000000) (hK : C.length + 100 ≤ K) : check_Grid K G C = some (gridB G C, ()) := by
  unfold check_Grid gridB
  by_cases hG : G.length ≤ 64
  · have h1 := grid_groups K G hG G (K - G.length - 1) 0 rfl (by omega)
    rw [show G.length + (K - G.length - 1) + 1 = K by omega, show ((0 : Nat) : Int) = 0 from rfl] at h1
    have h2 := grid_pairs K G C hC C (K - C.length - 1) 0 (-1) (-1) rfl (by omega)
    rw [show C.length + (K - C.length - 1) + 1 = K by omega, show ((0 : Nat) : Int) = 0 from rfl] at h2
    rw [if_neg (by simp; omega), h1, Option.bind_some, h2, Option.bind_some]
    simp only [hG, decide_true, Bool.true_and]
    cases G.all gOk <;> cases chain G.length (-1) (-1) C <;> rfl
  · rw [if_pos (by simp; omega)]
    simp [hG]

/-! ### The document's -/
theorem rgrid_group (K : Nat) (G : List Am.Tryd.S42) (C : List Am.Tryd.S47) (i : Nat) (g : Am.Tryd.S42) (r : List Am.Tryd.S42) (hd : G.drop i = g :: r) (hi : i < G.length) : junctionref5_Grid.l0 K G C (i : Int) = some (if gOk g = true then .inr ((), ()) else .inl ((false, ()), ())) := by
  unfold junctionref5_Grid.l0 gOk
  rw [if_pos (by omega), Int.toNat_natCast, getD_drop hd, within_ok, Option.bind_some, within_ok, Option.bind_some, within_ok, Option.bind_some, within_ok, Option.bind_some]
  cases inB g.f1 1 2 <;> cases inB g.f2 1 3600 <;> cases inB g.f3 0 60 <;> cases inB g.f4 0 60 <;> rfl
theorem rgrid_groups (K : Nat) (G : List Am.Tryd.S42) (C : List Am.Tryd.S47) (hG : G.length ≤ 64) : ∀ (r : List Am.Tryd.S42) (x i : Nat), G.drop i = r → i + r.length = G.length →
    junctionref5_Grid.l1 K (r.length + x + 1) G C (G.length : Int) (i : Int) = some (if r.all gOk = true then .inr ((), ()) else .inl ((false, ()), ()))
  | [], x, i, hd, hi => by
    rw [junctionref5_Grid.l1, if_neg (by simp at hi ⊢; omega)]
    rfl
  | g :: r, x, i, hd, hi => by
    simp only [List.length_cons] at hi
    rw [List.length_cons, show r.length + 1 + x + 1 = r.length + x + 1 + 1 by omega, junctionref5_Grid.l1, if_pos (by simp; omega), rgrid_group K G C i g r hd (by omega), Option.bind_some, List.all_cons]
    cases hg : gOk g
    · rfl
    · simp only [if_true, onSum]
      rw [IntWalk.i64_in _ (by omega), show ((i : Int) + 1) = ((i + 1 : Nat) : Int) by omega, rgrid_groups K G C hG r x (i + 1) (drop_next hd) (by omega)]
      simp
theorem rgrid_pair (K : Nat) (n : Int) (c : Am.Tryd.S47) : junctionref5_Grid.l2 K n c.f0 c.f1 c.f2 c.f3 = some (if cOk n c = true then .inr (((), ()), (c.f0, c.f1, c.f2, c.f3, ()), ()) else .inl ((false, ()), (c.f0, c.f1, c.f2, c.f3, ()), ())) := by
  unfold junctionref5_Grid.l2 cOk
  rw [within_ok, Option.bind_some, within_ok, Option.bind_some]
  cases decide (c.f0 < 0) <;> cases decide (c.f1 ≤ c.f0) <;> cases decide (c.f1 ≥ n) <;> cases inB c.f2 0 3600 <;> cases inB c.f3 0 3600 <;> rfl
theorem rgrid_pairs (K : Nat) (G : List Am.Tryd.S42) (C : List Am.Tryd.S47) (n : Int) (hC : C.length ≤ 1000000000000000) : ∀ (r : List Am.Tryd.S47) (x i : Nat) (a b : Int), C.drop i = r → i + r.length = C.length →
    (i = 0 → a = -1 ∧ b = -1) → (∀ j, i = j + 1 → (C.getD j ⟨0, 0, 0, 0⟩).f0 = a ∧ (C.getD j ⟨0, 0, 0, 0⟩).f1 = b) →
    junctionref5_Grid.l4 K (r.length + x + 1) G C n (i : Int) = some (if chain n a b r = true then .inr ((), ()) else .inl ((false, ()), ()))
  | [], x, i, a, b, hd, hi, h0, h1 => by
    rw [junctionref5_Grid.l4, if_neg (by simp at hi ⊢; omega)]
    rfl
  | c :: r, x, i, a, b, hd, hi, h0, h1 => by
    simp only [List.length_cons] at hi
    have hn := rgrid_pairs K G C n hC r x (i + 1) c.f0 c.f1 (drop_next hd) (by omega) (fun h => by omega) (fun j hj => by
      obtain rfl : i = j := by omega
      rw [getD_drop hd]; exact ⟨rfl, rfl⟩)
    rw [List.length_cons, show r.length + 1 + x + 1 = r.length + x + 1 + 1 by omega, junctionref5_Grid.l4, if_pos (by simp; omega)]
    unfold junctionref5_Grid.l3
    rw [if_pos (by omega), Int.toNat_natCast, getD_drop hd, rgrid_pair, Option.bind_some, chain]
    cases hc : cOk n c
    · rfl
    · simp only [if_true, onSum]
      have hc0 : 0 ≤ c.f0 := by
        unfold cOk at hc
        simp only [Bool.and_eq_true, Bool.not_eq_true', decide_eq_false_iff_not] at hc
        omega
      by_cases hz : i = 0
      · obtain ⟨rfl, rfl⟩ := h0 hz
        have ha : aft (-1) (-1) c = true := by
          unfold aft
          have h1 : ¬ c.f0 < -1 := by omega
          have h2 : c.f0 ≠ -1 := by omega
          simp [h1, h2]
        rw [if_neg (by simp [hz]), Option.bind_some, ha]
        rw [IntWalk.i64_in _ (by omega), show ((i : Int) + 1) = ((i + 1 : Nat) : Int) by omega, hn]
        simp
      · obtain ⟨j, rfl⟩ : ∃ j, i = j + 1 := ⟨i - 1, by omega⟩
        obtain ⟨rfl, rfl⟩ := h1 j rfl
        rw [if_pos (show decide (((j + 1 : Nat) : Int) > 0) = true by simp), IntWalk.i64_in _ (by omega), show (((j + 1 : Nat) : Int) - 1) = (j : Int) by omega, if_pos (by omega), Int.toNat_natCast]
        generalize C.getD j ⟨0, 0, 0, 0⟩ = p at *
        rw [IntWalk.i64_in (((j + 1 : Nat) : Int) + 1) (by omega), show (((j + 1 : Nat) : Int) + 1) = ((j + 1 + 1 : Nat) : Int) by omega, hn]
        unfold aft
        cases decide (c.f0 < p.f0) <;> cases (c.f0 == p.f0) <;> cases decide (c.f1 ≤ p.f1) <;> simp
theorem rgrid_ok (K : Nat) (G : List Am.Tryd.S42) (C : List Am.Tryd.S47) (hC : C.length ≤ 1000000000000000) (hK : C.length + 100 ≤ K) : junctionref5_Grid K G C = some (gridB G C, ()) := by
  unfold junctionref5_Grid gridB
  by_cases hG : G.length ≤ 64
  · have h1 := rgrid_groups K G C hG G (K - G.length - 1) 0 rfl (by omega)
    rw [show G.length + (K - G.length - 1) + 1 = K by omega, show ((0 : Nat) : Int) = 0 from rfl] at h1
    have h2 := rgrid_pairs K G C G.length hC C (K - C.length - 1) 0 (-1) (-1) rfl (by omega) (fun _ => ⟨rfl, rfl⟩) (fun j hj => by omega)
    rw [show C.length + (K - C.length - 1) + 1 = K by omega, show ((0 : Nat) : Int) = 0 from rfl] at h2
    rw [if_neg (by simp; omega), h1, Option.bind_some, h2, Option.bind_some]
    simp only [hG, decide_true, Bool.true_and]
    cases G.all gOk <;> cases chain G.length (-1) (-1) C <;> rfl
  · rw [if_pos (by simp; omega)]
    simp [hG]
end Go.Am.Tryd
end

section
namespace Go.Am.Tryd
open Go.Proofs Go.Am Go.RowKit
set_option maxRecDepth 100000
set_option linter.unusedVariables false
section
variable (nm : ByteArray) (G : List S42) (C : List S47) (D : List S110) (Tm Ct : List ByteArray) (V : List S112) (St : List S98) (sta : Int)

theorem rstage_step (K : Nat) (hS : St.length ≤ 256) (hG : ∀ s ∈ St, okG K s) : ∀ (r : List Sg) (x i : Nat) (a b c : Int), St.drop i = r → i + r.length = St.length → (0 ≤ a ∧ a ≤ 20000000000000 * (i : Int)) → (0 ≤ b ∧ b ≤ 20000000000000 * (i : Int)) → (0 ≤ c ∧ c ≤ 6000000000000000 * (i : Int)) →
    (allOk G D Tm Ct V St i r = true ∧ junctionref5_stages.l5 K (r.length + x + 1) nm G C D Tm Ct V St sta a b c (i : Int) = some (.inr ((c + sumS cN r, b + sumS cX r, a + sumS cS r, ()), ()))) ∨
    (allOk G D Tm Ct V St i r = false ∧ junctionref5_stages.l5 K (r.length + x + 1) nm G C D Tm Ct V St sta a b c (i : Int) = some (.inl ((false, ()), ())))
  | [], x, i, a, b, c, hd, hi, ha, hb, hc => by
    rw [junctionref5_stages.l5, if_neg (by simp at hi; simp; omega)]
    left
    simp [sumS, allOk]
  | s :: r, x, i, a, b, c, hd, hi, ha, hb, hc => by
    obtain ⟨h1, h2, h3, h4⟩ := head_drop (d := sg0) hd
    have hs := hG s h3
    have e1 := hs.e.len
    have e2 := hs.d.len
    have e3 := hs.l.len
    have e4 := hs.len
    have hf := hs.fuel
    rw [show (s :: r).length + x + 1 = r.length + x + 1 + 1 by simp; omega, junctionref5_stages.l5, if_pos (by simp; omega), if_pos (by omega), wr_in ((i : Int) + 1) (by omega) (by omega), show ((i : Int) + 1) = ((i + 1 : Nat) : Int) by omega]
    simp only [Int.toNat_natCast, show St.getD i (S98.mk ByteArray.empty 0 0 [] [] [] []) = s from h1]
    rw [rid_ok nm G C D Tm Ct V St sta K i s h4 (by omega), allOk]
    cases hid : idOk St i s with
    | false =>
      right
      refine ⟨by unfold stageOk; rw [hid]; rfl, rfl⟩
    | true =>
      simp only [if_true, Option.bind_some, onSum]
      rw [rmask_ok G K s]
      cases hm : maskOk G s with
      | false =>
        right
        refine ⟨by unfold stageOk; rw [hid, hm]; rfl, rfl⟩
      | true =>
        simp only [if_true, Option.bind_some, onSum]
        rw [rlists_ok nm G C D Tm Ct V St sta K s hs]
        cases hl : lists3 G D Tm Ct V s with
        | false =>
          right
          refine ⟨by unfold stageOk; rw [hid, hm, hl]; rfl, rfl⟩
        | true =>
          simp only [if_true, Option.bind_some, onSum]
          have hl' := hl
          unfold lists3 at hl'
          simp only [Bool.and_eq_true] at hl'
          have q1 := list_len G D Tm Ct V _ _ hl'.1.1
          have q2 := list_len G D Tm Ct V _ _ hl'.1.2
          have q3 := list_len G D Tm Ct V _ _ hl'.2
          have r1 := nS_range _ q1
          have r2 := nS_range _ q2
          have r3 := nS_range _ q3
          rw [rnodes_ok K s.f3 hs.e q1, rnodes_ok K s.f4 hs.d q2, rnodes_ok K s.f5 hs.l q3]
          simp only [Option.bind_some]
          have hi' : i ≤ 256 := by simp at hi; omega
          rw [wr_in (c + nS s.f3) (by omega) (by omega), wr_in (c + nS s.f3 + nS s.f4) (by omega) (by omega), wr_in (c + nS s.f3 + nS s.f4 + nS s.f5) (by omega) (by omega)]
          have hx := rnexts_loop nm G C D Tm Ct V St sta K i s hs.len hs.nx s.f6 (K - s.f6.length - 1) 0 (c + nS s.f3 + nS s.f4 + nS s.f5) rfl (by omega) (by omega) (by omega)
          rw [show s.f6.length + (K - s.f6.length - 1) + 1 = K by omega, show ((0 : Nat) : Int) = 0 from rfl] at hx
          rcases hx with ⟨hn, hx⟩ | ⟨hn, y, hx⟩
          · rw [hx]
            simp only [Option.bind_some, onSum]
            have hst : stageOk G D Tm Ct V St i s = true := by unfold stageOk; rw [hid, hm, hl, hn]; rfl
            have hr := cN_range G D Tm Ct V St hs hst
            rw [wr_in (a + (s.f3.length : Int)) (by omega) (by omega), wr_in (a + (s.f3.length : Int) + (s.f4.length : Int)) (by omega) (by omega), wr_in (a + (s.f3.length : Int) + (s.f4.length : Int) + (s.f5.length : Int)) (by omega) (by omega), wr_in (b + (s.f6.length : Int)) (by omega) (by omega)]
            rw [hst, Bool.true_and, sumS_cons, sumS_cons, sumS_cons]
            rw [show a + (s.f3.length : Int) + (s.f4.length : Int) + (s.f5.length : Int) = a + cS s by unfold cS; omega, show b + (s.f6.length : Int) = b + cX s from rfl, show c + nS s.f3 + nS s.f4 + nS s.f5 + nX s.f6 = c + cN s by unfold cN; omega]
            rw [← Int.add_assoc, ← Int.add_assoc, ← Int.add_assoc]
            have n1 : 0 ≤ cS s ∧ cS s ≤ 15000000000000 := by unfold cS; omega
            have n2 : 0 ≤ cX s ∧ cX s ≤ 5000000000000 := by unfold cX; omega
            exact rstage_step K hS hG r x (i + 1) _ _ _ h2 (by simp at hi; omega) (by omega) (by omega) (by omega)
          · right
            rw [hx]
            exact ⟨by unfold stageOk; rw [hid, hm, hl, hn]; rfl, rfl⟩
theorem rstages_ok (K : Nat) (hS : St.length ≤ 256) (hG : ∀ s ∈ St, okG K s) (hK : 1000 ≤ K) : junctionref5_stages K nm G C D Tm Ct V St sta = some (stagesB G D Tm Ct V St, ()) := by
  unfold junctionref5_stages stagesB
  have h := rstage_step nm G C D Tm Ct V St sta K hS hG St (K - St.length - 1) 0 0 0 0 rfl (by omega) (by omega) (by omega) (by omega)
  rw [show St.length + (K - St.length - 1) + 1 = K by omega, show ((0 : Nat) : Int) = 0 from rfl, Int.zero_add, Int.zero_add, Int.zero_add] at h
  rcases h with ⟨h1, h2⟩ | ⟨h1, h2⟩
  · rw [h1, h2]
    simp only [Option.bind_some, onSum, Bool.true_and]
    cases decide (sumS cS St ≤ 4096) <;> cases decide (sumS cX St ≤ 4096) <;> cases decide (sumS cN St ≤ 16384) <;> rfl
  · rw [h1, h2]
    rfl

/-! ### Detectors -/
def detOk (d : S110) : Bool := inB d.f2 0 3600 && inB d.f3 0 3600
theorem dets_loop (K : Nat) (hD : D.length ≤ 64) : ∀ (r : List S110) (x i : Nat), D.drop i = r → i + r.length = D.length → check_Sound.l1 K (r.length + x + 1) D (D.length : Int) (i : Int) = some (if r.all detOk = true then .inr ((), ()) else .inl ((false, ()), ()))
  | [], x, i, hd, hi => by
    rw [check_Sound.l1, if_neg (by simp at hi; simp; omega)]
    rfl
  | s :: r, x, i, hd, hi => by
    obtain ⟨h1, h2, h3, h4⟩ := head_drop (d := S110.mk ByteArray.empty false 0 0) hd
    rw [show (s :: r).length + x + 1 = r.length + x + 1 + 1 by simp; omega, check_Sound.l1, if_pos (by simp; omega), if_pos (by omega), wr_in ((i : Int) + 1) (by omega) (by omega), show ((i : Int) + 1) = ((i + 1 : Nat) : Int) by omega]
    simp only [Int.toNat_natCast, h1]
    rw [in_ok, in_ok, dets_loop K hD r x (i + 1) h2 (by simp at hi; omega), List.all_cons]
    unfold detOk
    cases inB s.f2 0 3600 <;> cases inB s.f3 0 3600 <;> rfl
theorem rdets_loop (K : Nat) (hD : D.length ≤ 64) : ∀ (r : List S110) (x i : Nat), D.drop i = r → i + r.length = D.length → junctionref5_Sound.l3 K (r.length + x + 1) nm G C D Tm Ct V St sta (i : Int) = some (if r.all detOk = true then .inr ((), ()) else .inl ((false, ()), ()))
  | [], x, i, hd, hi => by
    rw [junctionref5_Sound.l3, if_neg (by simp at hi; simp; omega)]
    rfl
  | s :: r, x, i, hd, hi => by
    obtain ⟨h1, h2, h3, h4⟩ := head_drop (d := S110.mk ByteArray.empty false 0 0) hd
    rw [show (s :: r).length + x + 1 = r.length + x + 1 + 1 by simp; omega, junctionref5_Sound.l3, if_pos (by simp; omega), wr_in ((i : Int) + 1) (by omega) (by omega), show ((i : Int) + 1) = ((i + 1 : Nat) : Int) by omega]
    unfold junctionref5_Sound.l2
    have p : 0 ≤ (i : Int) ∧ (i : Int) < (D.length : Int) := by omega
    rw [if_pos p]
    simp only [Int.toNat_natCast, h1, if_pos p]
    rw [within_ok, within_ok, rdets_loop K hD r x (i + 1) h2 (by simp at hi; omega), List.all_cons]
    unfold detOk
    cases inB s.f2 0 3600 <;> cases inB s.f3 0 3600 <;> rfl

/-! ### All of it -/
/-- How large a plan may be for this fuel. -/
structure okP (K : Nat) : Prop where
  fuel : C.length + 5000 ≤ K
  con : C.length ≤ 1000000000000000
  nm : okT K nm
  gs : ∀ s ∈ G, okT K s.f0
  ds : ∀ s ∈ D, okT K s.f0
  tm : ∀ s ∈ Tm, okT K s
  ct : ∀ s ∈ Ct, okT K s
  vs : ∀ s ∈ V, okT K s.f0
  ss : ∀ s ∈ St, okT K s.f0
  st : ∀ s ∈ St, okG K s
  sl : St.length ≤ 100000000000000
def sizesB : Bool := !decide ((D.length : Int) > 64) && (!decide ((Tm.length : Int) > 64) && (!decide ((Ct.length : Int) > 64) && !decide ((V.length : Int) > 64)))
def startB : Bool := decide (1 ≤ (St.length : Int) ∧ (St.length : Int) ≤ 256) && decide (0 ≤ sta ∧ sta ≤ (St.length : Int) - 1)
noncomputable def soundP (K : Nat) : Bool := gridB G C && sizesB D Tm Ct V && startB St sta && D.all detOk && nmB K nm && namesF K [] (thingsA G D Tm Ct V St) && stagesB G D Tm Ct V St
theorem grid_len {G : List S42} {C : List S47} (h : gridB G C = true) : G.length ≤ 64 := by
  unfold gridB at h
  simp only [Bool.and_eq_true, decide_eq_true_eq] at h
  exact h.1
theorem things_mem {P : ByteArray → Prop} (hg : ∀ s ∈ G, P s.f0) (hd : ∀ s ∈ D, P s.f0) (ht : ∀ s ∈ Tm, P s) (hc : ∀ s ∈ Ct, P s) (hv : ∀ s ∈ V, P s.f0) (hs : ∀ s ∈ St, P s.f0) : ∀ x ∈ thingsA G D Tm Ct V St, P x := by
  intro x hx
  unfold thingsA at hx
  simp only [List.mem_append, List.mem_map] at hx
  rcases hx with ((((hx | hx) | ⟨y, hy, rfl⟩) | ⟨y, hy, rfl⟩) | ⟨y, hy, rfl⟩) | ⟨y, hy, rfl⟩
  · exact ht x hx
  · exact hc x hx
  · exact hg y hy
  · exact hd y hy
  · exact hv y hy
  · exact hs y hy
theorem things_perm : (thingsA G D Tm Ct V St).Perm (thingsB G D Tm Ct V St) := by
  unfold thingsA thingsB
  refine List.Perm.append_right _ (List.Perm.append_right _ ?_)
  have e1 : Tm ++ Ct ++ G.map S42.f0 ++ D.map S110.f0 = (Tm ++ Ct) ++ (G.map S42.f0 ++ D.map S110.f0) := by simp
  have e2 : G.map S42.f0 ++ D.map S110.f0 ++ Tm ++ Ct = (G.map S42.f0 ++ D.map S110.f0) ++ (Tm ++ Ct) := by simp
  rw [e1, e2]
  exact List.perm_append_comm
theorem named_ok (K : Nat) (h : okP nm G C D Tm Ct V St K) (h1 : G.length ≤ 64) (h2 : D.length ≤ 64) (h3 : Tm.length ≤ 64) (h4 : Ct.length ≤ 64) (h5 : V.length ≤ 64) (h6 : St.length ≤ 256) :
    check_named K nm G C D Tm Ct V St sta = some (namesF K [] (thingsA G D Tm Ct V St) && nmB K nm, ()) := by
  unfold check_named
  have hK := h.fuel
  rw [things_ok nm G C D Tm Ct V St sta K (by omega) (by omega) (by omega) (by omega) (by omega) (by omega) (by omega), Option.bind_some]
  have hlen : (thingsA G D Tm Ct V St).length ≤ 600 := by unfold thingsA; simp; omega
  obtain ⟨z, e1, e2⟩ := named_loop K (thingsA G D Tm Ct V St) (by omega) (things_mem G D Tm Ct V St h.gs h.ds h.tm h.ct h.vs h.ss) (thingsA G D Tm Ct V St) (K - (thingsA G D Tm Ct V St).length - 1) 0 [] rfl (by omega)
  rw [show (thingsA G D Tm Ct V St).length + (K - (thingsA G D Tm Ct V St).length - 1) + 1 = K by omega, show ((0 : Nat) : Int) = 0 from rfl] at e1
  simp only
  rw [e1]
  obtain ⟨a, _, k1, _, k3, _⟩ := nm_ok h.nm
  rcases e2 with ⟨y, rfl, e2⟩ | ⟨y, rfl, e2⟩
  · have e2 : namesF K [] (thingsA G D Tm Ct V St) = false := e2
    rw [e2]; rfl
  · have e2 : namesF K [] (thingsA G D Tm Ct V St) = true := e2
    rw [e2, k1]
    simp only [Option.bind_some, onSum, Bool.true_and]
    rw [k3]
/-- **The program's answer.** -/
theorem sound_ok (K : Nat) (h : okP nm G C D Tm Ct V St K) : check_Sound K nm G C D Tm Ct V St sta = some (soundP nm G C D Tm Ct V St sta K, ()) := by
  have hK := h.fuel
  have hsl := h.sl
  have l0 : check_Sound.l0 K nm G C D Tm Ct V St sta = some (if (gridB G C && (sizesB D Tm Ct V && (startB St sta && (namesF K [] (thingsA G D Tm Ct V St) && nmB K nm)))) = true then .inr (((), ()), (nm, G, C, D, Tm, Ct, V, St, sta, ()), ()) else .inl ((false, ()), (nm, G, C, D, Tm, Ct, V, St, sta, ()), ())) := by
    unfold check_Sound.l0
    rw [grid_ok K G C h.con (by omega), in_ok, in_ok, inB_dec, inB_dec, wr_in ((St.length : Int) - 1) (by omega) (by omega)]
    unfold sizesB startB
    cases hg : gridB G C
    · rfl
    cases h1 : decide ((D.length : Int) > 64)
    rotate_left
    · rfl
    cases h2 : decide ((Tm.length : Int) > 64)
    rotate_left
    · rfl
    cases h3 : decide ((Ct.length : Int) > 64)
    rotate_left
    · rfl
    cases h4 : decide ((V.length : Int) > 64)
    rotate_left
    · rfl
    cases h5 : decide (1 ≤ (St.length : Int) ∧ (St.length : Int) ≤ 256)
    · rfl
    cases h6 : decide (0 ≤ sta ∧ sta ≤ (St.length : Int) - 1)
    · rfl
    simp only [decide_eq_false_iff_not, decide_eq_true_eq] at h1 h2 h3 h4 h5
    simp only [Option.bind_some, Bool.not_true, Bool.not_false, if_true, Bool.true_and]
    rw [named_ok nm G C D Tm Ct V St sta K h (grid_len hg) (by omega) (by omega) (by omega) (by omega) (by omega)]
    cases namesF K [] (thingsA G D Tm Ct V St) <;> cases nmB K nm <;> rfl
  unfold check_Sound soundP
  rw [l0]
  cases hg : gridB G C
  · rfl
  cases hz : sizesB D Tm Ct V
  · rfl
  cases hs : startB St sta
  · rfl
  cases hn : namesF K [] (thingsA G D Tm Ct V St)
  · cases D.all detOk <;> cases nmB K nm <;> rfl
  cases hm : nmB K nm
  · cases D.all detOk <;> rfl
  simp only [Bool.true_and, Bool.and_self, if_true, Option.bind_some, onSum, Bool.and_true]
  have hD : D.length ≤ 64 := by
    unfold sizesB at hz
    simp only [Bool.and_eq_true, Bool.not_eq_true', decide_eq_false_iff_not] at hz
    omega
  have hS : 1 ≤ St.length ∧ St.length ≤ 256 := by
    unfold startB at hs
    simp only [Bool.and_eq_true, decide_eq_true_eq] at hs
    omega
  have e1 := dets_loop D K hD D (K - D.length - 1) 0 rfl (by omega)
  rw [show D.length + (K - D.length - 1) + 1 = K by omega, show ((0 : Nat) : Int) = 0 from rfl] at e1
  rw [e1]
  cases hd : D.all detOk
  · rfl
  simp only [if_true, Option.bind_some, onSum, Bool.true_and]
  have e2 := stages_loop nm G C D Tm Ct V St sta K hS.2 h.st St (K - St.length - 1) 0 0 0 0 rfl (by omega) (by omega) (by omega) (by omega)
  rw [show St.length + (K - St.length - 1) + 1 = K by omega, show ((0 : Nat) : Int) = 0 from rfl, Int.zero_add, Int.zero_add, Int.zero_add] at e2
  rcases e2 with ⟨h1, y, h2⟩ | ⟨h1, y, h2⟩
  · rw [h2]
    have : stagesB G D Tm Ct V St = true := by
      unfold stagesB
      simp only [Bool.and_eq_true, decide_eq_true_eq]
      exact ⟨⟨⟨h1.1, h1.2.1⟩, h1.2.2.1⟩, h1.2.2.2⟩
    rw [this]
    rfl
  · rw [h2]
    have : stagesB G D Tm Ct V St = false := by
      rw [Bool.eq_false_iff]
      intro q
      unfold stagesB at q
      simp only [Bool.and_eq_true, decide_eq_true_eq] at q
      exact h1 ⟨q.1.1.1, q.1.1.2, q.1.2, q.2⟩
    rw [this]
    rfl
/-- **The document's answer.** -/
theorem rsound_ok (K : Nat) (h : okP nm G C D Tm Ct V St K) : junctionref5_Sound K nm G C D Tm Ct V St sta = some (soundP nm G C D Tm Ct V St sta K, ()) := by
  have hK := h.fuel
  have hsl := h.sl
  have l0 : junctionref5_Sound.l0 K nm G C D Tm Ct V St sta = some (if (gridB G C && sizesB D Tm Ct V) = true then .inr ((), ()) else .inl ((false, ()), ())) := by
    unfold junctionref5_Sound.l0
    rw [rgrid_ok K G C h.con (by omega)]
    unfold sizesB
    cases gridB G C
    · rfl
    cases decide ((D.length : Int) > 64) <;> cases decide ((Tm.length : Int) > 64) <;> cases decide ((Ct.length : Int) > 64) <;> cases decide ((V.length : Int) > 64) <;> rfl
  have l1 : junctionref5_Sound.l1 K nm G C D Tm Ct V St sta = some (if startB St sta = true then .inr ((), ()) else .inl ((false, ()), ())) := by
    unfold junctionref5_Sound.l1
    rw [within_ok, inB_dec]
    unfold startB
    cases decide (1 ≤ (St.length : Int) ∧ (St.length : Int) ≤ 256)
    · rfl
    by_cases c1 : sta < 0
    · rw [decide_eq_true c1, decide_eq_false (show ¬ (0 ≤ sta ∧ sta ≤ (St.length : Int) - 1) by omega)]
      rfl
    · by_cases c2 : sta ≥ (St.length : Int)
      · rw [decide_eq_false c1, decide_eq_true c2, decide_eq_false (show ¬ (0 ≤ sta ∧ sta ≤ (St.length : Int) - 1) by omega)]
        rfl
      · rw [decide_eq_false c1, decide_eq_false c2, decide_eq_true (show (0 ≤ sta ∧ sta ≤ (St.length : Int) - 1) by omega)]
        rfl
  unfold junctionref5_Sound soundP
  rw [l0]
  cases hg : gridB G C
  · rfl
  cases hz : sizesB D Tm Ct V
  · rfl
  simp only [Bool.true_and, Bool.and_self, if_true, Option.bind_some, onSum]
  rw [l1]
  cases hs : startB St sta
  · rfl
  simp only [Bool.true_and, Bool.and_self, if_true, Option.bind_some, onSum]
  have hD : D.length ≤ 64 ∧ Tm.length ≤ 64 ∧ Ct.length ≤ 64 ∧ V.length ≤ 64 := by
    unfold sizesB at hz
    simp only [Bool.and_eq_true, Bool.not_eq_true', decide_eq_false_iff_not] at hz
    omega
  have hS : 1 ≤ St.length ∧ St.length ≤ 256 := by
    unfold startB at hs
    simp only [Bool.and_eq_true, decide_eq_true_eq] at hs
    omega
  have hGl := grid_len hg
  have e1 := rdets_loop nm G C D Tm Ct V St sta K hD.1 D (K - D.length - 1) 0 rfl (by omega)
  rw [show D.length + (K - D.length - 1) + 1 = K by omega, show ((0 : Nat) : Int) = 0 from rfl] at e1
  rw [e1]
  cases hd : D.all detOk
  · rfl
  simp only [if_true, Option.bind_some, onSum, Bool.true_and]
  have e0 : namesF K [] [nm] = nmB K nm := by unfold namesF namesF; simp
  rw [unlike_ok K [nm] (by simp) (by simp; omega) (fun s hs => by obtain rfl := List.mem_singleton.1 hs; exact h.nm), e0]
  cases hm : nmB K nm
  · rfl
  simp only [if_true, Option.bind_some, Bool.true_and]
  rw [rthings_ok nm G C D Tm Ct V St sta K (by omega) (by omega) (by omega) (by omega) (by omega) (by omega) (by omega), Option.bind_some]
  have hmem : ∀ s ∈ thingsB G D Tm Ct V St, okT K s := fun s hs => things_mem G D Tm Ct V St h.gs h.ds h.tm h.ct h.vs h.ss s ((things_perm G D Tm Ct V St).mem_iff.2 hs)
  have hlen : (thingsB G D Tm Ct V St).length ≤ 600 := by unfold thingsB; simp; omega
  simp only
  rw [unlike_ok K _ (by omega) (by omega) hmem, ← namesF_perm K (things_perm G D Tm Ct V St)]
  cases hn : namesF K [] (thingsA G D Tm Ct V St)
  · rfl
  simp only [if_true, Option.bind_some, Bool.true_and]
  rw [rstages_ok nm G C D Tm Ct V St sta K hS.2 h.st (by omega)]
  rfl
end
end Go.Am.Tryd
end

section
namespace Go.Am.Tryd
open Go.Proofs Go.Am Go.RowKit
set_option maxRecDepth 100000
set_option linter.unusedVariables false
def at' (b : List Bool) (i : Nat) : Prop := b.getD i false = true
instance (b : List Bool) (i : Nat) : Decidable (at' b i) := inferInstanceAs (Decidable (_ = true))
theorem at_set (b : List Bool) (i j : Nat) (hi : i < b.length) : at' (b.set i true) j ↔ (j = i ∨ at' b j) := by
  unfold at'
  simp only [List.getD_eq_getElem?_getD, List.getElem?_set]
  by_cases h : i = j
  · subst h; simp [hi]
  · simp [h, Ne.symm h]
def cnt : List Bool → Nat
  | [] => 0
  | true :: l => cnt l
  | false :: l => cnt l + 1
theorem cnt_set : ∀ (b : List Bool) (i : Nat), i < b.length → b.getD i false = false → cnt (b.set i true) + 1 = cnt b
  | [], i, h, _ => by simp at h
  | c :: b, 0, h, hc => by
    simp at hc
    subst hc
    rfl
  | c :: b, i + 1, h, hc => by
    have := cnt_set b i (by simpa using h) (by simpa using hc)
    cases c <;> simp only [List.set_cons_succ, cnt] <;> omega
theorem cnt_le : ∀ b : List Bool, cnt b ≤ b.length
  | [] => Nat.le_refl _
  | true :: b => by have := cnt_le b; simp only [cnt, List.length_cons]; omega
  | false :: b => by have := cnt_le b; simp only [cnt, List.length_cons]; omega
def push : List Bool → List Int → List Nx → List Bool × List Int
  | b, w, [] => (b, w)
  | b, w, x :: r => if b.getD x.f0.toNat false = true then push b w r else push (b.set x.f0.toNat true) (w ++ [x.f0]) r
theorem push_spec (N : Nat) : ∀ (r : List Nx) (b : List Bool) (w : List Int), b.length = N → (∀ x ∈ r, 0 ≤ x.f0 ∧ x.f0 < (N : Int)) →
    (push b w r).1.length = N ∧ (∀ i, at' b i → at' (push b w r).1 i) ∧ (∀ x ∈ r, at' (push b w r).1 x.f0.toNat) ∧ (∀ i, at' (push b w r).1 i → at' b i ∨ ((∃ x ∈ r, x.f0.toNat = i) ∧ (i : Int) ∈ (push b w r).2)) ∧
    (∀ v ∈ w, v ∈ (push b w r).2) ∧ (∀ v ∈ (push b w r).2, v ∈ w ∨ ∃ x ∈ r, x.f0 = v) ∧ 2 * cnt (push b w r).1 + (push b w r).2.length ≤ 2 * cnt b + w.length
  | [], b, w, hb, hr => ⟨hb, fun _ h => h, fun x hx => by simp at hx, fun _ h => .inl h, fun _ h => h, fun _ h => .inl h, Nat.le_refl _⟩
  | x :: r, b, w, hb, hr => by
    have hx := hr x (by simp)
    have hr' : ∀ y ∈ r, 0 ≤ y.f0 ∧ y.f0 < (N : Int) := fun y hy => hr y (List.mem_cons_of_mem _ hy)
    unfold push
    by_cases c : b.getD x.f0.toNat false = true
    · rw [if_pos c]
      obtain ⟨p1, p2, p3, p4, p5, p6, p7⟩ := push_spec N r b w hb hr'
      refine ⟨p1, p2, fun y hy => ?_, fun i hi => ?_, p5, fun v hv => ?_, p7⟩
      · rcases List.mem_cons.1 hy with rfl | hy
        · exact p2 _ c
        · exact p3 y hy
      · rcases p4 i hi with h | ⟨⟨y, hy, e⟩, h⟩
        · exact .inl h
        · exact .inr ⟨⟨y, List.mem_cons_of_mem _ hy, e⟩, h⟩
      · rcases p6 v hv with h | ⟨y, hy, e⟩
        · exact .inl h
        · exact .inr ⟨y, List.mem_cons_of_mem _ hy, e⟩
    · rw [if_neg c]
      have hlt : x.f0.toNat < b.length := by omega
      have hc := cnt_set b x.f0.toNat hlt (by simpa using c)
      obtain ⟨p1, p2, p3, p4, p5, p6, p7⟩ := push_spec N r (b.set x.f0.toNat true) (w ++ [x.f0]) (by rw [List.length_set]; exact hb) hr'
      have hself : at' (b.set x.f0.toNat true) x.f0.toNat := (at_set b _ _ hlt).2 (.inl rfl)
      refine ⟨p1, fun i hi => p2 i ((at_set b _ _ hlt).2 (.inr hi)), fun y hy => ?_, fun i hi => ?_, fun v hv => p5 v (List.mem_append_left _ hv), fun v hv => ?_, ?_⟩
      · rcases List.mem_cons.1 hy with rfl | hy
        · exact p2 _ hself
        · exact p3 y hy
      · rcases p4 i hi with h | ⟨⟨y, hy, e⟩, h⟩
        · rcases (at_set b _ _ hlt).1 h with rfl | h
          · refine .inr ⟨⟨x, by simp, rfl⟩, p5 _ ?_⟩
            rw [Int.toNat_of_nonneg hx.1]
            simp
          · exact .inl h
        · exact .inr ⟨⟨y, List.mem_cons_of_mem _ hy, e⟩, h⟩
      · rcases p6 v hv with h | ⟨y, hy, e⟩
        · rcases List.mem_append.1 h with h | h
          · exact .inl h
          · obtain rfl := List.mem_singleton.1 h
            exact .inr ⟨x, by simp, rfl⟩
        · exact .inr ⟨y, List.mem_cons_of_mem _ hy, e⟩
      · simp only [List.length_append, List.length_cons, List.length_nil] at p7
        omega
theorem push_loop (K N : Nat) (hN : N ≤ 256) (L : List Nx) (hL : L.length ≤ 5000000000000) : ∀ (r : List Nx) (x i : Nat) (b : List Bool) (w : List Int), L.drop i = r → i + r.length = L.length → b.length = N → (∀ x ∈ r, 0 ≤ x.f0 ∧ x.f0 < (N : Int)) → 2 * cnt b + w.length ≤ 1000 →
    safety_reached.l0 K (r.length + x + 1) L (L.length : Int) (i : Int) b w = some (((), (), ()), (push b w r).1, (push b w r).2, ())
  | [], x, i, b, w, hd, hi, hb, hr, hc => by
    rw [safety_reached.l0, if_neg (by simp at hi; simp; omega)]
    rfl
  | s :: r, x, i, b, w, hd, hi, hb, hr, hc => by
    obtain ⟨h1, h2, h3, h4⟩ := head_drop (d := nx0) hd
    have hx := hr s (by simp)
    have hr' : ∀ y ∈ r, 0 ≤ y.f0 ∧ y.f0 < (N : Int) := fun y hy => hr y (List.mem_cons_of_mem _ hy)
    rw [show (s :: r).length + x + 1 = r.length + x + 1 + 1 by simp; omega, safety_reached.l0, if_pos (by simp; omega), if_pos (by omega), wr_in ((i : Int) + 1) (by omega) (by omega), show ((i : Int) + 1) = ((i + 1 : Nat) : Int) by omega]
    simp only [Int.toNat_natCast, show L.getD i (S95.mk 0 []) = s from h1]
    have hrange : 0 ≤ s.f0 ∧ s.f0 < (b.length : Int) := by rw [hb]; exact hx
    rw [if_pos hrange]
    unfold push
    by_cases c : b.getD s.f0.toNat false = true
    · rw [if_neg (by rw [c]; simp), if_pos c]
      exact push_loop K N hN L hL r x (i + 1) b w h2 (by simp at hi; omega) hb hr' hc
    · rw [if_pos (by simpa using c), if_pos hrange, if_neg c, room_pos (by unfold capBytes; simp; omega)]
      have hcs := cnt_set b s.f0.toNat (by omega) (by simpa using c)
      exact push_loop K N hN L hL r x (i + 1) _ _ h2 (by simp at hi; omega) (by rw [List.length_set]; exact hb) hr' (by simp; omega)
section
variable (nm : ByteArray) (G : List S42) (C : List S47) (D : List S110) (Tm Ct : List ByteArray) (V : List S112) (St : List S98) (sta : Int)

structure Clo (S : List Bool) : Prop where
  len : S.length = St.length
  start : at' S sta.toNat
  nexts : ∀ i, i < St.length → at' S i → ∀ x ∈ (St.getD i sg0).f6, at' S x.f0.toNat
/-- What is asked of the plan's numbers. -/
structure okR (K : Nat) : Prop where
  len : 1 ≤ St.length ∧ St.length ≤ 256
  start : 0 ≤ sta ∧ sta < (St.length : Int)
  nexts : ∀ i, i < St.length → ∀ x ∈ (St.getD i sg0).f6, 0 ≤ x.f0 ∧ x.f0 < (St.length : Int)
  nlen : ∀ i, i < St.length → (St.getD i sg0).f6.length ≤ 5000000000000 ∧ (St.getD i sg0).f6.length + 10 ≤ K
  fuel : 5000 ≤ K
structure Inv (b : List Bool) (w : List Int) : Prop where
  len : b.length = St.length
  start : at' b sta.toNat
  work : ∀ v ∈ w, 0 ≤ v ∧ v < (St.length : Int) ∧ at' b v.toNat
  done : ∀ i, i < St.length → at' b i → (i : Int) ∈ w ∨ ∀ x ∈ (St.getD i sg0).f6, at' b x.f0.toNat
  least : ∀ S, Clo St sta S → ∀ i, at' b i → at' S i
theorem walk (K : Nat) (h : okR St sta K) : ∀ (m x : Nat) (b : List Bool) (w : List Int), 2 * cnt b + w.length ≤ m → m ≤ 1000 → Inv St sta b w → ∃ b', safety_reached.l1 K (m + x + 1) nm G C D Tm Ct V St sta b w = some (((), ()), b', [], ()) ∧ Inv St sta b' []
  | m, x, b, [], hm, hm2, inv => by
    rw [safety_reached.l1, if_neg (by simp)]
    exact ⟨b, rfl, inv⟩
  | 0, x, b, v :: w, hm, hm2, inv => by simp at hm
  | m + 1, x, b, v0 :: w1, hm, hm2, inv => by
    generalize hw : v0 :: w1 = w at *
    have hpos : 0 < w.length := by rw [← hw]; simp
    have hN := h.len
    rw [show m + 1 + x + 1 = m + x + 1 + 1 by omega, safety_reached.l1, if_pos (by simp; omega), wr_in ((w.length : Int) - 1) (by omega) (by omega), if_pos (by omega), if_pos (by omega), show ((w.length : Int) - 1).toNat = w.length - 1 by omega]
    have hlt : w.length - 1 < w.length := by omega
    have hmem : w.getD (w.length - 1) 0 ∈ w := by
      rw [List.getD_eq_getElem?_getD, List.getElem?_eq_getElem hlt]
      exact List.getElem_mem hlt
    have hsplit : w = w.take (w.length - 1) ++ [w.getD (w.length - 1) 0] := by
      conv => lhs; rw [← List.take_length (l := w)]
      rw [show w.length = w.length - 1 + 1 by omega, List.take_add_one, List.getElem?_eq_getElem hlt, List.getD_eq_getElem?_getD, show w.length - 1 + 1 - 1 = w.length - 1 by omega, List.getElem?_eq_getElem hlt]
      simp
    generalize w.getD (w.length - 1) 0 = s at *
    have hs := inv.work s hmem
    rw [if_pos (show 0 ≤ s ∧ s < (St.length : Int) from ⟨hs.1, hs.2.1⟩)]
    have hsN : s.toNat < St.length := by omega
    obtain ⟨n1, n2⟩ := h.nlen s.toNat hsN
    have hnx := h.nexts s.toNat hsN
    have hw0 : (w.take (w.length - 1)).length + 1 = w.length := by simp; omega
    generalize w.take (w.length - 1) = w0 at *
    have hloop := push_loop K St.length (by omega) (St.getD s.toNat sg0).f6 n1 (St.getD s.toNat sg0).f6 (K - (St.getD s.toNat sg0).f6.length - 1) 0 b w0 rfl (by omega) inv.len hnx (by omega)
    rw [show (St.getD s.toNat sg0).f6.length + (K - (St.getD s.toNat sg0).f6.length - 1) + 1 = K by omega, show ((0 : Nat) : Int) = 0 from rfl] at hloop
    change ∃ b', (Option.bind (safety_reached.l0 K K (St.getD s.toNat sg0).f6 ((St.getD s.toNat sg0).f6.length : Int) 0 b w0) _) = _ ∧ _
    rw [hloop, Option.bind_some]
    obtain ⟨p1, p2, p3, p4, p5, p6, p7⟩ := push_spec St.length (St.getD s.toNat sg0).f6 b w0 inv.len hnx
    refine walk K h m x (push b w0 (St.getD s.toNat sg0).f6).1 (push b w0 (St.getD s.toNat sg0).f6).2 (by omega) (by omega) ⟨p1, p2 _ inv.start, fun v hv => ?_, fun i hi hb => ?_, fun S hS i hi => ?_⟩
    · rcases p6 v hv with h' | ⟨y, hy, rfl⟩
      · have := inv.work v (by rw [hsplit]; exact List.mem_append_left _ h')
        exact ⟨this.1, this.2.1, p2 _ this.2.2⟩
      · exact ⟨(hnx y hy).1, (hnx y hy).2, p3 y hy⟩
    · rcases p4 i hb with h' | ⟨_, h'⟩
      · rcases inv.done i hi h' with q | q
        · rw [hsplit] at q
          rcases List.mem_append.1 q with q | q
          · exact .inl (p5 _ q)
          · have e : (i : Int) = s := List.mem_singleton.1 q
            right
            intro y hy
            refine p3 y ?_
            rw [← e]
            simpa using hy
        · exact .inr fun y hy => p2 _ (q y hy)
      · exact .inl h'
    · rcases p4 i hi with h' | ⟨⟨y, hy, rfl⟩, _⟩
      · exact inv.least S hS i h'
      · exact hS.nexts s.toNat hsN (inv.least S hS _ hs.2.2) y hy
theorem reached_ok (K : Nat) (h : okR St sta K) : ∃ b, safety_reached K nm G C D Tm Ct V St sta = some (b, ()) ∧ Clo St sta b ∧ ∀ S, Clo St sta S → ∀ i, at' b i → at' S i := by
  have hN := h.len
  have hs := h.start
  unfold safety_reached
  rw [if_pos (by simp; omega), show ((St.length : Int)).toNat = St.length from Int.toNat_natCast _, if_pos (by simp; omega)]
  have hrep : ∀ i, ¬ at' (List.replicate St.length false) i := fun i => by
    unfold at'
    simp only [List.getD_eq_getElem?_getD, List.getElem?_replicate]
    split <;> simp
  have hlt : sta.toNat < (List.replicate St.length false).length := by simp; omega
  have inv : Inv St sta ((List.replicate St.length false).set sta.toNat true) [sta] := by
    have hat : ∀ i, at' ((List.replicate St.length false).set sta.toNat true) i → i = sta.toNat := fun i hi => by
      rcases (at_set _ _ _ hlt).1 hi with h | h
      · exact h
      · exact absurd h (hrep i)
    refine ⟨by simp, (at_set _ _ _ hlt).2 (.inl rfl), fun v hv => ?_, fun i hi hb => ?_, fun S hS i hi => ?_⟩
    · obtain rfl := List.mem_singleton.1 hv
      exact ⟨hs.1, hs.2, (at_set _ _ _ hlt).2 (.inl rfl)⟩
    · left
      rw [hat i hb, Int.toNat_of_nonneg hs.1]
      simp
    · rw [hat i hi]
      exact hS.start
  have hc := cnt_le ((List.replicate St.length false).set sta.toNat true)
  simp only [List.length_set, List.length_replicate] at hc
  obtain ⟨b, h1, h2⟩ := walk nm G C D Tm Ct V St sta K h 1000 (K - 1001) _ [sta] (by simp; omega) (Nat.le_refl _) inv
  have hK := h.fuel
  rw [show 1000 + (K - 1001) + 1 = K by omega] at h1
  rw [h1]
  refine ⟨b, rfl, ⟨h2.len, h2.start, fun i hi hb x hx => ?_⟩, h2.least⟩
  rcases h2.done i hi hb with q | q
  · simp at q
  · exact q x hx

/-! ### Closed sets, as the law asks -/
theorem clo_l2 (K : Nat) (h : okR St sta K) (S : List Bool) (hS : S.length = St.length) (i : Nat) (hi : i < St.length) : ∀ (r : List Nx) (x k : Nat), (St.getD i sg0).f6.drop k = r → k + r.length = (St.getD i sg0).f6.length →
    ((at' S i → ∀ y ∈ r, at' S y.f0.toNat) ∧ junctionlaw6_closed.l2 K (r.length + x + 1) S nm G C D Tm Ct V St sta (i : Int) (k : Int) = some (.inr ((), ()))) ∨
    (¬ (at' S i → ∀ y ∈ r, at' S y.f0.toNat) ∧ junctionlaw6_closed.l2 K (r.length + x + 1) S nm G C D Tm Ct V St sta (i : Int) (k : Int) = some (.inl ((false, ()), ())))
  | [], x, k, hd, hk => by
    rw [junctionlaw6_closed.l2, if_pos (by omega)]
    simp only [Int.toNat_natCast]
    have hk' : k = (St.getD i sg0).f6.length := hk
    rw [if_neg (by simp only [decide_eq_true_eq]; change ¬ (k : Int) < ((St.getD i sg0).f6.length : Int); omega)]
    exact .inl ⟨fun _ y hy => by simp at hy, rfl⟩
  | y :: r, x, k, hd, hk => by
    obtain ⟨h1, h2, h3, h4⟩ := head_drop (d := nx0) hd
    have hy := h.nexts i hi y h3
    obtain ⟨n1, _⟩ := h.nlen i hi
    rw [show (y :: r).length + x + 1 = r.length + x + 1 + 1 by simp; omega, junctionlaw6_closed.l2, if_pos (by omega)]
    simp only [Int.toNat_natCast]
    rw [if_pos (by simp only [decide_eq_true_eq]; change (k : Int) < ((St.getD i sg0).f6.length : Int); omega), wr_in ((k : Int) + 1) (by omega) (by omega), show ((k : Int) + 1) = ((k + 1 : Nat) : Int) by omega]
    have l1 : junctionlaw6_closed.l1 K S nm G C D Tm Ct V St sta (i : Int) (k : Int) = some (if at' S i ∧ ¬ at' S y.f0.toNat then .inr ((false, ()), ()) else .inl ((), ())) := by
      unfold junctionlaw6_closed.l1
      rw [if_pos (by omega)]
      simp only [Int.toNat_natCast]
      by_cases c : S.getD i false = true
      · rw [if_pos c, if_pos (by omega)]
        rw [if_pos (show 0 ≤ (k : Int) ∧ (k : Int) < ((St.getD i sg0).f6.length : Int) by omega)]
        simp only [show (St.getD i (S98.mk ByteArray.empty 0 0 [] [] [] [])).f6.getD k (S95.mk 0 []) = y from h1]
        rw [if_pos (by rw [hS]; exact hy)]
        by_cases c2 : S.getD y.f0.toNat false = true
        · rw [if_neg (by rw [c2]; simp), if_neg (fun q => q.2 c2)]
        · rw [if_pos (by simpa using c2), if_pos ⟨c, c2⟩]
      · rw [if_neg c, if_neg (fun q => c q.1)]
    rw [l1, Option.bind_some]
    by_cases c : at' S i ∧ ¬ at' S y.f0.toNat
    · right
      rw [if_pos c]
      exact ⟨fun q => c.2 (q c.1 y (by simp)), rfl⟩
    · rw [if_neg c]
      simp only [onSum]
      rcases clo_l2 K h S hS i hi r x (k + 1) h2 (by rw [List.length_cons] at hk; omega) with ⟨q1, q2⟩ | ⟨q1, q2⟩
      · left
        refine ⟨fun ha z hz => ?_, q2⟩
        rcases List.mem_cons.1 hz with rfl | hz
        · exact Decidable.byContradiction fun q => c ⟨ha, q⟩
        · exact q1 ha z hz
      · right
        exact ⟨fun q => q1 fun ha z hz => q ha z (List.mem_cons_of_mem _ hz), q2⟩
theorem clo_l3 (K : Nat) (h : okR St sta K) (S : List Bool) (hS : S.length = St.length) : ∀ (m x i : Nat), i + m = St.length →
    ((∀ j, i ≤ j → j < St.length → at' S j → ∀ y ∈ (St.getD j sg0).f6, at' S y.f0.toNat) ∧ junctionlaw6_closed.l3 K (m + x + 1) S nm G C D Tm Ct V St sta (i : Int) = some (.inr ((), ()))) ∨
    (¬ (∀ j, i ≤ j → j < St.length → at' S j → ∀ y ∈ (St.getD j sg0).f6, at' S y.f0.toNat) ∧ junctionlaw6_closed.l3 K (m + x + 1) S nm G C D Tm Ct V St sta (i : Int) = some (.inl ((false, ()), ())))
  | 0, x, i, hi => by
    rw [junctionlaw6_closed.l3, if_neg (by simp; omega)]
    exact .inl ⟨fun j h1 h2 => by omega, rfl⟩
  | m + 1, x, i, hi => by
    have hN := h.len
    obtain ⟨n1, n2⟩ := h.nlen i (by omega)
    rw [show m + 1 + x + 1 = m + x + 1 + 1 by omega, junctionlaw6_closed.l3, if_pos (by simp; omega), wr_in ((i : Int) + 1) (by omega) (by omega), show ((i : Int) + 1) = ((i + 1 : Nat) : Int) by omega]
    have l2 := clo_l2 nm G C D Tm Ct V St sta K h S hS i (by omega) (St.getD i sg0).f6 (K - (St.getD i sg0).f6.length - 1) 0 rfl (by omega)
    rw [show (St.getD i sg0).f6.length + (K - (St.getD i sg0).f6.length - 1) + 1 = K by omega, show ((0 : Nat) : Int) = 0 from rfl] at l2
    rcases l2 with ⟨p1, p2⟩ | ⟨p1, p2⟩
    · rw [p2]
      simp only [Option.bind_some, onSum]
      rcases clo_l3 K h S hS m x (i + 1) (by omega) with ⟨q1, q2⟩ | ⟨q1, q2⟩
      · left
        refine ⟨fun j h1 h2 => ?_, q2⟩
        by_cases e : j = i
        · subst e; exact p1
        · exact q1 j (by omega) h2
      · right
        exact ⟨fun q => q1 fun j h1 h2 => q j (by omega) h2, q2⟩
    · right
      rw [p2]
      exact ⟨fun q => p1 (q i (Nat.le_refl _) (by omega)), rfl⟩
theorem closed_ok (K : Nat) (h : okR St sta K) (S : List Bool) (hSl : S.length ≤ 1000000000000000) : ∃ b, junctionlaw6_closed K nm G C D Tm Ct V St sta S = some (b, ()) ∧ (b = true ↔ Clo St sta S) := by
  have hN := h.len
  have hs := h.start
  have hK := h.fuel
  unfold junctionlaw6_closed junctionlaw6_closed.l0
  by_cases c : S.length = St.length
  · have hz : ((S.length : Int) != (St.length : Int)) = false := by rw [c]; simp
    rw [hz, if_pos rfl, if_pos (by omega)]
    by_cases c2 : S.getD sta.toNat false = true
    · rw [if_neg (by rw [c2]; simp)]
      simp only [Option.bind_some, onSum]
      have l3 := clo_l3 nm G C D Tm Ct V St sta K h S c St.length (K - St.length - 1) 0 (by omega)
      rw [show St.length + (K - St.length - 1) + 1 = K by omega, show ((0 : Nat) : Int) = 0 from rfl] at l3
      rcases l3 with ⟨p1, p2⟩ | ⟨p1, p2⟩
      · rw [p2]
        exact ⟨true, rfl, fun _ => ⟨c, c2, fun i hi => p1 i (Nat.zero_le _) hi⟩, fun _ => rfl⟩
      · rw [p2]
        exact ⟨false, rfl, (fun q => by cases q), fun q => absurd (fun j _ hj => q.nexts j hj) p1⟩
    · rw [if_pos (by simpa using c2)]
      exact ⟨false, rfl, (fun q => by cases q), fun q => absurd q.start c2⟩
  · have hz : ((S.length : Int) != (St.length : Int)) = true := by simp only [bne_iff_ne, ne_eq]; omega
    rw [hz, if_neg (by simp)]
    exact ⟨false, rfl, (fun q => by cases q), fun q => absurd q.len c⟩
theorem sub_loop (K : Nat) (S b : List Bool) (hS : S.length = b.length) (hb : b.length ≤ 256) (hsub : ∀ i, at' b i → at' S i) : ∀ (m x i : Nat), i + m = b.length → junctionlaw6_SafetyWalks.l2 K (m + x + 1) S b (i : Int) = some (.inr ((), ()))
  | 0, x, i, hi => by
    rw [junctionlaw6_SafetyWalks.l2, if_neg (by simp; omega)]
  | m + 1, x, i, hi => by
    rw [show m + 1 + x + 1 = m + x + 1 + 1 by omega, junctionlaw6_SafetyWalks.l2, if_pos (by simp; omega), wr_in ((i : Int) + 1) (by omega) (by omega), show ((i : Int) + 1) = ((i + 1 : Nat) : Int) by omega]
    have l1 : junctionlaw6_SafetyWalks.l1 K S b (i : Int) = some (.inl ((), ())) := by
      unfold junctionlaw6_SafetyWalks.l1
      rw [if_pos (by omega)]
      simp only [Int.toNat_natCast]
      by_cases c : b.getD i false = true
      · rw [if_pos c, if_pos (by omega), if_neg (by rw [show S.getD i false = true from hsub i c]; simp)]
      · rw [if_neg c]
    rw [l1]
    exact sub_loop K S b hS hb hsub m x (i + 1) (by omega)
theorem walks_law' (K : Nat) (h : okP nm G C D Tm Ct V St K) (S : List Bool) (hSl : S.length ≤ 1000000000000000) : junctionlaw6_SafetyWalks K nm G C D Tm Ct V St sta S = some (true, ()) := by
  have hK := h.fuel
  unfold junctionlaw6_SafetyWalks safety_Reach
  rw [sound_ok nm G C D Tm Ct V St sta K h, rsound_ok nm G C D Tm Ct V St sta K h]
  cases hsd : soundP nm G C D Tm Ct V St sta K
  · rfl
  simp only [Option.bind_some, Bool.not_true, Bool.false_eq_true, if_false]
  have hR : okR St sta K := by
    unfold soundP at hsd
    simp only [Bool.and_eq_true] at hsd
    obtain ⟨⟨⟨⟨⟨⟨_, _⟩, hst⟩, _⟩, _⟩, _⟩, hsg⟩ := hsd
    unfold startB at hst
    simp only [Bool.and_eq_true, decide_eq_true_eq] at hst
    unfold stagesB at hsg
    simp only [Bool.and_eq_true] at hsg
    have hall := hsg.1.1.1
    have hmem : ∀ i, i < St.length → St.getD i sg0 ∈ St := fun i hi => by
      rw [List.getD_eq_getElem?_getD, List.getElem?_eq_getElem hi]
      exact List.getElem_mem hi
    refine ⟨by omega, by omega, fun i hi x hx => ?_, fun i hi => ?_, by omega⟩
    · obtain ⟨j, hj⟩ := allOk_mem G D Tm Ct V St St 0 hall _ (hmem i hi)
      unfold stageOk at hj
      simp only [Bool.and_eq_true] at hj
      have := List.all_eq_true.1 hj.2 x hx
      unfold nextOk at this
      simp only [Bool.and_eq_true, decide_eq_true_eq] at this
      exact ⟨this.1.1, this.1.2.1⟩
    · have := h.st _ (hmem i hi)
      exact ⟨this.len, this.fuel⟩
  obtain ⟨b, h1, h2, h3⟩ := reached_ok nm G C D Tm Ct V St sta K hR
  have hN := hR.len
  rw [h1]
  simp only [Option.bind_some]
  unfold junctionlaw6_SafetyWalks.l0
  obtain ⟨c, k1, k2⟩ := closed_ok nm G C D Tm Ct V St sta K hR b (by rw [h2.len]; omega)
  rw [if_pos (by rfl), k1, k2.2 h2]
  simp only [Option.bind_some, Bool.not_true, Bool.false_eq_true, if_false, onSum]
  obtain ⟨c', k3, k4⟩ := closed_ok nm G C D Tm Ct V St sta K hR S hSl
  rw [k3]
  cases hc : c'
  · rfl
  have hClo := k4.1 hc
  simp only [Option.bind_some, Bool.not_true, Bool.false_eq_true, if_false]
  have l2 := sub_loop K S b (by rw [hClo.len, h2.len]) (by rw [h2.len]; omega) (h3 S hClo) b.length (K - b.length - 1) 0 (by omega)
  rw [show b.length + (K - b.length - 1) + 1 = K by have := h2.len; omega, show ((0 : Nat) : Int) = 0 from rfl] at l2
  rw [l2]
  rfl
end
end Go.Am.Tryd
end

section
namespace Go.Am.Tryd
open Go.Proofs Go.Am Go.RowKit
set_option maxRecDepth 100000
set_option linter.unusedVariables false
def Ev (P : Nat → Prop) : Prop := ∃ K0, ∀ K, K0 ≤ K → P K
theorem Ev.and {P Q : Nat → Prop} (h : Ev P) (k : Ev Q) : Ev fun K => P K ∧ Q K := by
  obtain ⟨a, ha⟩ := h
  obtain ⟨b, hb⟩ := k
  exact ⟨a + b, fun K hK => ⟨ha K (by omega), hb K (by omega)⟩⟩
theorem Ev.mono {P Q : Nat → Prop} (h : Ev P) (k : ∀ K, P K → Q K) : Ev Q := by
  obtain ⟨a, ha⟩ := h
  exact ⟨a, fun K hK => k K (ha K hK)⟩
theorem Ev.list {α : Type} {P : Nat → α → Prop} : ∀ (l : List α), (∀ x ∈ l, Ev fun K => P K x) → Ev fun K => ∀ x ∈ l, P K x
  | [], _ => ⟨0, fun K _ x hx => by simp at hx⟩
  | y :: l, h => by
    refine ((h y (by simp)).and (Ev.list l fun x hx => h x (List.mem_cons_of_mem _ hx))).mono fun K hK x hx => ?_
    rcases List.mem_cons.1 hx with rfl | hx
    · exact hK.1
    · exact hK.2 x hx
theorem ev_ge (n : Nat) : Ev fun K => n ≤ K := ⟨n, fun _ h => h⟩
theorem ev_T {s : ByteArray} (h : s.size ≤ 140737488351232) : Ev fun K => okT K s := (ev_ge (s.size + 101)).mono fun K hK => ⟨by omega, by omega⟩
theorem ok_N {x : S120} (h : okT120 x) : okN x := by
  have := (Lit.wf_int_iff .i32 x.f1).1 h.2.1
  simp [IntKind.min, IntKind.max, IntKind.signed, IntKind.bits] at this
  unfold okN
  omega
theorem ev_S {s : Sm} (h : okT165 s) : Ev fun K => okS K s := by
  obtain ⟨_, _, hw, ⟨h1, h2⟩, _⟩ := h
  have hw := (Lit.wf_int_iff .i64 s.f2).1 hw
  simp [IntKind.min, IntKind.max, IntKind.signed, IntKind.bits] at hw
  exact (ev_ge (s.f3.length + 400)).mono fun K hK => ⟨by omega, fun x hx => ok_N (h2 x hx), hK, by omega⟩
theorem ev_L {l : List Sm} (h : l.length * 72 ≤ 140737488351232 ∧ ∀ y ∈ l, okT165 y) : Ev fun K => okL K l :=
  ((Ev.list l fun x hx => ev_S (h.2 x hx)).and (ev_ge (l.length + 10))).mono fun K hK => ⟨by omega, hK.1, hK.2⟩
theorem ev_X {x : Nx} (h : okT95 x) : Ev fun K => okX K x := by
  obtain ⟨_, h1, h2⟩ := h
  exact (ev_ge (x.f1.length + 400)).mono fun K hK => ⟨by omega, fun y hy => ok_N (h2 y hy), hK⟩
theorem ev_G {s : Sg} (h : okT98 s) : Ev fun K => okG K s ∧ okT K s.f0 := by
  obtain ⟨h0, _, _, h3, h4, h5, h6, h7⟩ := h
  exact ((((ev_L h3).and (ev_L h4)).and (ev_L h5)).and (((Ev.list s.f6 fun x hx => ev_X (h7 x hx)).and (ev_ge (s.f6.length + 10))).and (ev_T h0))).mono fun K hK =>
    ⟨⟨hK.1.1.1, hK.1.1.2, hK.1.2, by omega, hK.2.1.1, hK.2.1.2⟩, hK.2.2⟩
theorem ev_P {nm : ByteArray} {G : List S42} {C : List S47} {D : List S110} {Tm Ct : List ByteArray} {V : List S112} {St : List S98} (h0 : nm.size ≤ 140737488351232)
    (h1 : G.length * 48 ≤ 140737488351232 ∧ ∀ y ∈ G, okT42 y) (h2 : C.length * 32 ≤ 140737488351232 ∧ ∀ y ∈ C, okT47 y) (h3 : D.length * 40 ≤ 140737488351232 ∧ ∀ y ∈ D, okT110 y)
    (h4 : Tm.length * 16 ≤ 140737488351232 ∧ ∀ y ∈ Tm, okT9 y) (h5 : Ct.length * 16 ≤ 140737488351232 ∧ ∀ y ∈ Ct, okT9 y) (h6 : V.length * 24 ≤ 140737488351232 ∧ ∀ y ∈ V, okT112 y)
    (h7 : St.length * 128 ≤ 140737488351232 ∧ ∀ y ∈ St, okT98 y) : Ev fun K => okP nm G C D Tm Ct V St K := by
  have a1 : Ev fun K => ∀ s ∈ G, okT K s.f0 := Ev.list G fun s hs => ev_T (h1.2 s hs).1
  have a2 : Ev fun K => ∀ s ∈ D, okT K s.f0 := Ev.list D fun s hs => ev_T (h3.2 s hs).1
  have a3 : Ev fun K => ∀ s ∈ Tm, okT K s := Ev.list Tm fun s hs => ev_T (h4.2 s hs)
  have a4 : Ev fun K => ∀ s ∈ Ct, okT K s := Ev.list Ct fun s hs => ev_T (h5.2 s hs)
  have a5 : Ev fun K => ∀ s ∈ V, okT K s.f0 := Ev.list V fun s hs => ev_T (h6.2 s hs).1
  have a6 : Ev fun K => ∀ s ∈ St, okG K s ∧ okT K s.f0 := Ev.list St fun s hs => ev_G (h7.2 s hs)
  refine ((((a1.and a2).and (a3.and a4)).and (a5.and a6)).and ((ev_ge (C.length + 5000)).and (ev_T h0))).mono fun K hK => ?_
  obtain ⟨⟨⟨⟨b1, b2⟩, b3, b4⟩, b5, b6⟩, b7, b8⟩ := hK
  exact ⟨b7, by omega, b8, b1, b2, b3, b4, b5, fun s hs => (b6 s hs).2, fun s hs => (b6 s hs).1, by omega⟩
theorem walks_law (nm : ByteArray) (G : List S42) (C : List S47) (D : List S110) (Tm Ct : List ByteArray) (V : List S112) (St : List S98) (sta : Int) (S : List Bool) {q8 q10 : Prop} (h0 : nm.size ≤ 140737488351232)
    (h1 : G.length * 48 ≤ 140737488351232 ∧ ∀ y ∈ G, okT42 y) (h2 : C.length * 32 ≤ 140737488351232 ∧ ∀ y ∈ C, okT47 y) (h3 : D.length * 40 ≤ 140737488351232 ∧ ∀ y ∈ D, okT110 y)
    (h4 : Tm.length * 16 ≤ 140737488351232 ∧ ∀ y ∈ Tm, okT9 y) (h5 : Ct.length * 16 ≤ 140737488351232 ∧ ∀ y ∈ Ct, okT9 y) (h6 : V.length * 24 ≤ 140737488351232 ∧ ∀ y ∈ V, okT112 y)
    (h7 : St.length * 128 ≤ 140737488351232 ∧ ∀ y ∈ St, okT98 y) (h8 : q8) (h9 : S.length * 1 ≤ 140737488351232 ∧ q10) : ∃ K, junctionlaw6_SafetyWalks K nm G C D Tm Ct V St sta S = some (true, ()) := by
  obtain ⟨K, hK⟩ := ev_P h0 h1 h2 h3 h4 h5 h6 h7
  exact ⟨K, walks_law' nm G C D Tm Ct V St sta K (hK K (Nat.le_refl _)) S (by omega)⟩
end Go.Am.Tryd
end
