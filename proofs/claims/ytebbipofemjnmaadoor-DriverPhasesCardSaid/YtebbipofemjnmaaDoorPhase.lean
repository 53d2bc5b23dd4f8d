/- The words for the layers, of every fault: the walk of the program's Phase over its table. -/
import Derived.Test.YtebbipofemjnmaaDoorP2
import Derived.Test.YtebbipofemjnmaaDoorP3
import Derived.Test.YtebbipofemjnmaaDoorP4
import Derived.Test.YtebbipofemjnmaaDoorP12
import Derived.Outline
import Derived.Deep.RegionWith
import Derived.Deep.RegionHeld3
namespace Go.Proofs.YtebbipofemjnmaaDoor.Phase
open Go.RowKit Go.Proofs.YtebbipofemjnmaaDoorW.PrintWords Go.Proofs.YtebbipofemjnmaaDoorW.PrintLast Go.Proofs.YtebbipofemjnmaaDoorW.PrintMore Go.Proofs.YtebbipofemjnmaaDoor.P

def lays : List ByteArray := [⟨#[]⟩, ⟨#[97, 114, 105, 116, 104]⟩, ⟨#[108, 101, 120]⟩, ⟨#[116, 114, 101, 101]⟩, ⟨#[]⟩, ⟨#[99, 104, 101, 99, 107]⟩, ⟨#[115, 97, 102, 101, 116, 121]⟩, ⟨#[104, 101, 97, 100, 115]⟩, ⟨#[115, 105, 109]⟩, ⟨#[]⟩, ⟨#[114, 111, 109]⟩, ⟨#[99, 111, 100, 101]⟩, ⟨#[108, 111, 97, 100]⟩, ⟨#[]⟩, ⟨#[100, 114, 105, 118, 101, 114]⟩, ⟨#[119, 97, 116, 99, 104]⟩, ⟨#[98, 97, 110, 107]⟩, ⟨#[119, 105, 114, 101]⟩, ⟨#[116, 105, 109, 101, 116, 97, 98, 108, 101]⟩, ⟨#[115, 116, 97, 116, 105, 111, 110]⟩]
/-- What the table holds. -/
def Lays (w : World) : Prop := ∀ i, i < 20 → w.cell? ⟨0, i, none⟩ = some (.string (lays.getD i ⟨#[]⟩))
theorem cell_in {w : World} {p : Addr} {v : Value} (h : w.cell? p = some v) : p.block < w.heap.size := by
  by_cases hp : p.block < w.heap.size
  · exact hp
  · simp [World.cell?, Array.getElem?_eq_none (Nat.not_lt.1 hp)] at h
def wordsOf (c : Int) : Option ByteArray := (driver_words1.f c).bind fun a => (driver_words2.f c).bind fun b => (driver_words3.f c).bind fun d => if a.size + b.size ≤ 1000 then if (a ++ b).size + d.size ≤ 1000 then some ((a ++ b) ++ d) else none else none
set_option maxHeartbeats 1000000 in
set_option maxRecDepth 100000 in
theorem wordsOf_calls (c : Int) (r : ByteArray) (w : World) (h : wordsOf c = some r) :
    Calls Tryd.prog 19 #[.int .i64 c] w fun e w' => e = .returned (.string r) ∧ Drawn0 w w' := by
  unfold wordsOf at h
  cases h1 : driver_words1.f c with
  | none => rw [h1] at h; simp at h
  | some a =>
  cases h2 : driver_words2.f c with
  | none => rw [h1, h2] at h; simp at h
  | some b =>
  cases h3 : driver_words3.f c with
  | none => rw [h1, h2, h3] at h; simp at h
  | some d =>
  rw [h1, h2, h3] at h
  simp only [Option.bind_some] at h
  split at h
  · rename_i l1
    split at h
    · rename_i l2
      obtain rfl := Option.some.inj h
      have H1 := Aside0.mk h1
      have H2 := Aside0.mk h2
      have H3 := Aside0.mk h3
      clear h h1 h2 h3
      go_enter Tryd.func19, Tryd.ntmps19
      go_wp2_with (first | (go_at_call 32; (with_reducible refine (driver_words1.calls c a _ H1.out).mono ?_); rintro e w' ⟨rfl, ⟨nd, rfl⟩⟩) | (go_at_call 33; (with_reducible refine (driver_words2.calls c b _ H2.out).mono ?_); rintro e w' ⟨rfl, ⟨nd2, rfl⟩⟩) | (go_at_call 34; (with_reducible refine (driver_words3.calls c d _ H3.out).mono ?_); rintro e w' ⟨rfl, ⟨nd3, rfl⟩⟩))
      go_ret
      exact ⟨by first | rfl | (simp; done), by repeat (first | exact Drawn0.refl _ | apply Drawn0.step)⟩
    · simp at h
  · simp at h
def phase (c : Int) : Option ByteArray := if c = 0 then some ⟨#[111, 107]⟩ else (wordsOf c).bind fun t => if t.toList = [] then some ⟨#[117, 110, 107, 110, 111, 119, 110]⟩ else if 0 ≤ Int.tdiv c 10 then if Int.tdiv c 10 < 20 then some (lays.getD (Int.tdiv c 10).toNat ⟨#[]⟩) else none else none

set_option maxHeartbeats 1000000 in
set_option maxRecDepth 100000 in
theorem phase_calls (c x y : Int) (r : ByteArray) (w : World) (hG : Lays w) (h : phase c = some r) :
    Calls Tryd.prog 9 #[.agg #[.int .i64 c, .int .i64 x, .int .i64 y]] w fun e w' => e = .returned (.string r) ∧ Below w.heap.size w w' := by
  have HG := Aside0.mk hG
  clear hG
  unfold phase at h
  by_cases c0 : c = 0
  · subst c0
    simp only [if_true, Option.some.injEq] at h
    subst h
    go_enter Tryd.func9, Tryd.ntmps9
    go_wp2
    go_ret
    exact ⟨rfl, (Below.refl _ _).alloc (Nat.le_refl _) _⟩
  · rw [if_neg c0] at h
    have c0b : (c == 0) = false := beq_eq_false_iff_ne.mpr c0
    cases h1 : wordsOf c with
    | none => rw [h1] at h; simp at h
    | some t =>
    rw [h1] at h
    simp only [Option.bind_some] at h
    have H1 := Aside0.mk h1
    clear h1
    by_cases ht : t.toList = []
    · rw [if_pos ht] at h
      obtain rfl := Option.some.inj h
      have htb : t.toList.isEmpty = true := by rw [ht]; rfl
      have htb2 : (t.toList == []) = true := by rw [ht]; rfl
      clear h ht
      go_enter Tryd.func9, Tryd.ntmps9
      go_wp2_with (go_at_call 19; (with_reducible refine (wordsOf_calls c t _ H1.out).mono ?_); rintro e w' ⟨rfl, ⟨nd, rfl⟩⟩)
      go_ret
      exact ⟨rfl, by repeat (first | (with_reducible first | exact Below.refl _ _ | apply below_alloc | apply pw_below_drewN | apply below_drew1) | exact Below.refl _ _)⟩
    · rw [if_neg ht] at h
      have htb : t.toList.isEmpty = false := by simp [ht]
      by_cases q0 : 0 ≤ Int.tdiv c 10
      · rw [if_pos q0] at h
        by_cases q1 : Int.tdiv c 10 < 20
        · rw [if_pos q1] at h
          obtain rfl := Option.some.inj h
          clear h
          have hw : wrap64 (Int.tdiv c 10) = Int.tdiv c 10 := by unfold wrap64; omega
          obtain ⟨i, hi⟩ : ∃ i : Nat, Int.tdiv c 10 = (i : Int) := ⟨(Int.tdiv c 10).toNat, by omega⟩
          rw [hi] at hw q1
          have hi2 : i < 20 := by omega
          have hcell0 := HG.out i hi2
          have hcell : ∀ o, (w.alloc o).cell? ⟨0, i, none⟩ = some (Value.string (lays.getD i { data := #[] })) := fun o => by
            rw [← hcell0]
            exact Below.cell (p := ⟨0, i, none⟩) ((Below.refl _ _).alloc (Nat.le_refl _) o) (cell_in hcell0)
          clear hcell0
          go_enter Tryd.func9, Tryd.ntmps9
          go_wp2_with (go_at_call 19; (with_reducible refine (wordsOf_calls c t _ H1.out).mono ?_); rintro e w' ⟨rfl, ⟨nd, rfl⟩⟩)
          go_ret
          rw [hi]
          exact ⟨rfl, by repeat (first | (with_reducible first | exact Below.refl _ _ | apply below_alloc | apply pw_below_drewN | apply below_drew1) | exact Below.refl _ _)⟩
        · rw [if_neg q1] at h
          exact absurd h (by simp)
      · rw [if_neg q0] at h
        exact absurd h (by simp)
theorem Lays.below {w w' : World} (h : Lays w) (hb : Below w.heap.size w w') : Lays w' := fun i hi => by
  rw [← h i hi]
  exact hb.cell (p := ⟨0, i, none⟩) (cell_in (h i hi))

theorem bcell {W w1 : World} (hb : Below W.heap.size W w1) : (∀ b o, b < W.heap.size → w1.cell? ⟨b, o, none⟩ = W.cell? ⟨b, o, none⟩) ∧ (∀ b o, b < W.heap.size → w1.frozen? ⟨b, o, none⟩ = W.frozen? ⟨b, o, none⟩) :=
  ⟨fun b o h => hb.cell (p := ⟨b, o, none⟩) h, fun b o h => hb.frozen (p := ⟨b, o, none⟩) h⟩
set_option maxHeartbeats 1000000 in
set_option maxRecDepth 100000 in
theorem law_calls (c x y : Int) (r : ByteArray) (w : World) (hG : Lays w) (h1 : phase c = some r) (h2 : junctionref14_Phase.f c x y = some r) :
    Calls Tryd.prog 3 #[.agg #[.int .i64 c, .int .i64 x, .int .i64 y]] w fun e w' => e = .returned (.bool true) ∧ Below w.heap.size w w' := by
  have HG := Aside0.mk hG
  have H1 := Aside0.mk h1
  have H2 := Aside0.mk h2
  clear hG h1 h2
  go_enter Tryd.func3, Tryd.ntmps3
  go_wp2
  go_region_with (first | (go_at_call 9; (with_reducible refine (phase_calls c x y r _ (HG.out.below (by repeat (first | (with_reducible first | exact Below.refl _ _ | apply below_alloc | apply pw_below_drewN | apply below_drew1) | exact Below.refl _ _))) H1.out).mono ?_); rintro e w' ⟨rfl, hb⟩; obtain ⟨hc, hf⟩ := bcell hb) | (go_at_call 10; (with_reducible refine (junctionref14_Phase.calls c x y r _ H2.out).mono ?_); rintro e w' ⟨rfl, hb2⟩; obtain ⟨hc2, hf2⟩ := bcell hb2))
  all_goals
    go_wp2
    go_ret
    exact ⟨by first | rfl | (simp; done), below_step (below_step (by repeat (first | (with_reducible first | exact Below.refl _ _ | apply below_alloc | apply pw_below_drewN | apply below_drew1) | exact Below.refl _ _)) hb) hb2⟩
end Go.Proofs.YtebbipofemjnmaaDoor.Phase
