/- The reference's Lamps: bytes of a string, written one by one, and back. -/
import Derived.Test.YtkhmoopgjgokcaaRepeat
import Derived.Laws.IdiomStrings
import Derived.Lib.ConvBytes
namespace Go.Proofs.Ytkhmoopgjgokcaa.P
open Go.RowKit Go.Proofs.YtkhmoopgjgokcaaW.PrintWords Go.Proofs.YtkhmoopgjgokcaaW.PrintLast Go.Proofs.YtkhmoopgjgokcaaW.PrintMore

def junctionref15_Lamps.f (a0 : ByteArray) (a1 : Bool) (a2 : Int) : Option ByteArray :=
  if a1 = true then (if a0.size ≤ 9223372036854775806 then some ⟨(List.replicate a0.size (if Int.tmod a2 2 = 0 then (114 : UInt8) else 46)).toArray⟩ else none) else some a0

theorem lamps_off (s : ByteArray) (t : Int) (w : World) :
    Calls Try.prog 11 #[.string s, .bool false, .int .i64 t] w fun e w' => e = .returned (.string s) ∧ Below w.heap.size w w' := by
  have HB := Aside0.mk (Below.refl w.heap.size w)
  go_enter Try.func11, Try.ntmps11
  go_wp2
  go_ret
  exact ⟨rfl, HB.out⟩

theorem back_ (w : World) (n c : Nat) (N : Nat) (v : UInt8) (h : ∀ j < n, w.cell? ⟨N, j, none⟩ = some (.int .u8 (v.toNat : Int))) :
    (convert 93 9 (.slice (some ⟨N, 0, none⟩) n c)).run Try.prog w = .ok (.string ⟨(List.replicate n v).toArray⟩) w := by
  have := run_convert_bytes_back (P := Try.prog) w 93 9 5 ⟨N, 0, none⟩ c (List.replicate n v) Try.underlying93 Try.underlying5 Try.underlying9 (fun j hj => by
    simp at hj
    rw [add_plain, h j hj]
    simp)
  simpa using this

/-- Behind x rounds: the first x bytes are v; all can be written. -/
def Wr (wr : World) (N n x : Nat) (v : Int) : Prop :=
  (∀ j < n, (∃ y, wr.cell? ⟨N, j, none⟩ = some y) ∧ wr.frozen? ⟨N, j, none⟩ = false) ∧ (∀ j < x, wr.cell? ⟨N, j, none⟩ = some (.int .u8 v)) ∧ N < wr.heap.size

theorem wr_start (w : World) (s : ByteArray) (v : Int) : Wr (Lib.bytesWorld w 5 s) w.heap.size s.size 0 v := by
  refine ⟨fun j hj => ⟨⟨_, Lib.bytesWorld_cell w 5 s j hj⟩, ?_⟩, fun j hj => absurd hj (by omega), by rw [Lib.bytesWorld_size]; omega⟩
  have e := Lib.bytesWorld_at_new w 5 s
  have hs : s.size ≤ (Lib.bytesCells w 5 s).size := by
    have : s.data.size = s.size := rfl
    simp [Lib.bytesCells, -ByteArray.size_data]
    omega
  unfold World.frozen?
  rw [e]
  simp
  omega

theorem Wr.put {wr : World} {N n x : Nat} {v : Int} (h : Wr wr N n x v) (hx : x < n) : Wr (wr.setCell ⟨N, x, none⟩ (.int .u8 v)) N n (x + 1) v := by
  obtain ⟨h1, h2, h3⟩ := h
  obtain ⟨⟨y, hy⟩, _⟩ := h1 x hx
  refine ⟨fun j hj => ⟨?_, by rw [World.frozen?_setCell]; exact (h1 j hj).2⟩, fun j hj => ?_, by show N < (wr.heap.modify _ _).size; rw [Array.size_modify]; exact h3⟩
  · by_cases e : j = x
    · subst e
      exact ⟨_, World.cell?_setCell_same _ _ _ hy⟩
    · obtain ⟨z, hz⟩ := (h1 j hj).1
      exact ⟨z, by rw [World.cell?_setCell_other _ _ _ _ (by intro e; injection e; omega)]; exact hz⟩
  · by_cases e : j = x
    · subst e
      exact World.cell?_setCell_same _ _ _ hy
    · rw [World.cell?_setCell_other _ _ _ _ (by intro e; injection e; omega)]
      exact h2 j (by omega)

theorem Wr.lax {wr : World} {N n x : Nat} {v u : Int} (h : Wr wr N n x v) (hx : x < n) : Wr (wr.setCell ⟨N, x, none⟩ (.int .u8 u)) N n x v := by
  obtain ⟨h1, h2, h3⟩ := h
  obtain ⟨⟨y, hy⟩, _⟩ := h1 x hx
  refine ⟨fun j hj => ⟨?_, by rw [World.frozen?_setCell]; exact (h1 j hj).2⟩, fun j hj => ?_, by show N < (wr.heap.modify _ _).size; rw [Array.size_modify]; exact h3⟩
  · by_cases e : j = x
    · subst e
      exact ⟨_, World.cell?_setCell_same _ _ _ hy⟩
    · obtain ⟨z, hz⟩ := (h1 j hj).1
      exact ⟨z, by rw [World.cell?_setCell_other _ _ _ _ (by intro e; injection e; omega)]; exact hz⟩
  · rw [World.cell?_setCell_other _ _ _ _ (by intro e; injection e; omega)]
    exact h2 j hj

set_option maxHeartbeats 1000000 in
set_option maxRecDepth 100000 in
theorem lamps_odd (s : ByteArray) (t : Int) (w : World) (hs : s.size ≤ 9223372036854775806) (ht : (Int.tmod t 2 == 0) = false) :
    Calls Try.prog 11 #[.string s, .bool true, .int .i64 t] w fun e w' => e = .returned (.string ⟨(List.replicate s.size 46).toArray⟩) ∧ Below w.heap.size w w' := by
  have hconv := Lib.run_convert_string_bytes (P := Try.prog) w 9 93 5 s Try.underlying9 Try.underlying93 Try.underlying5
  have W0 := Aside0.mk (wr_start w s 46)
  have B0 := Aside0.mk (bytes_below (Below.refl w.heap.size w) (Nat.le_refl _) 5 s)
  have hw0 := Lib.bytesWorld_size w 5 s
  generalize hc : grownCap w s.size 0 5 = c at *
  clear hc
  generalize Lib.bytesWorld w 5 s = W at *
  go_enter Try.func11, Try.ntmps11
  go_wp2
  go_loopw [8] (fun i wr => ∃ x : Nat, x ≤ s.size ∧ i = .int .i64 x ∧ Aside0 (Wr wr w.heap.size s.size x 46) ∧ Aside0 (Below w.heap.size w wr)) (fun i _ => s.size - (intOf i).toNat)
  case atStart => exact ⟨0, by omega, rfl, W0, B0⟩
  case round =>
    obtain ⟨x, hx, rfl, HW, HB⟩ := hrel
    by_cases hlt : x < s.size
    · obtain ⟨⟨y, hy⟩, hf⟩ := HW.out.1 x hlt
      go_wp2
      go_roundw
      case rel => exact ⟨x + 1, by omega, by simp, ⟨HW.out.put hlt⟩, ⟨HB.out.setCell (Nat.le_refl _) _⟩⟩
      case measure => simp [intOf]; omega
    · have hxe : x = s.size := by omega
      subst hxe
      have hb := back_ wr s.size c w.heap.size 46 HW.out.2.1
      go_wp2
      go_ret
      exact ⟨rfl, HB.out⟩

set_option maxHeartbeats 1000000 in
set_option maxRecDepth 100000 in
theorem lamps_even (s : ByteArray) (t : Int) (w : World) (hs : s.size ≤ 9223372036854775806) (ht : (Int.tmod t 2 == 0) = true) :
    Calls Try.prog 11 #[.string s, .bool true, .int .i64 t] w fun e w' => e = .returned (.string ⟨(List.replicate s.size 114).toArray⟩) ∧ Below w.heap.size w w' := by
  have hconv := Lib.run_convert_string_bytes (P := Try.prog) w 9 93 5 s Try.underlying9 Try.underlying93 Try.underlying5
  have W0 := Aside0.mk (wr_start w s 114)
  have B0 := Aside0.mk (bytes_below (Below.refl w.heap.size w) (Nat.le_refl _) 5 s)
  have hw0 := Lib.bytesWorld_size w 5 s
  generalize hc : grownCap w s.size 0 5 = c at *
  clear hc
  generalize Lib.bytesWorld w 5 s = W at *
  go_enter Try.func11, Try.ntmps11
  go_wp2
  go_loopw [8] (fun i wr => ∃ x : Nat, x ≤ s.size ∧ i = .int .i64 x ∧ Aside0 (Wr wr w.heap.size s.size x 114) ∧ Aside0 (Below w.heap.size w wr)) (fun i _ => s.size - (intOf i).toNat)
  case atStart => exact ⟨0, by omega, rfl, W0, B0⟩
  case round =>
    obtain ⟨x, hx, rfl, HW, HB⟩ := hrel
    by_cases hlt : x < s.size
    · obtain ⟨⟨y, hy⟩, hf⟩ := HW.out.1 x hlt
      go_wp2
      go_roundw
      case rel => exact ⟨x + 1, by omega, by simp, ⟨(HW.out.lax hlt).put hlt⟩, ⟨(HB.out.setCell (Nat.le_refl _) _).setCell (Nat.le_refl _) _⟩⟩
      case measure => simp [intOf]; omega
    · have hxe : x = s.size := by omega
      subst hxe
      have hb := back_ wr s.size c w.heap.size 114 HW.out.2.1
      go_wp2
      go_ret
      exact ⟨rfl, HB.out⟩

theorem junctionref15_Lamps.calls (a0 : ByteArray) (a1 : Bool) (a2 : Int) (r : ByteArray) (w : World) (h : junctionref15_Lamps.f a0 a1 a2 = some r) :
    Calls Try.prog 11 #[.string a0, .bool a1, .int .i64 a2] w fun e w' => e = .returned (.string r) ∧ Below w.heap.size w w' := by
  unfold junctionref15_Lamps.f at h
  cases a1 with
  | false =>
    obtain rfl := Option.some.inj h
    exact lamps_off _ _ _
  | true =>
    simp only [if_true] at h
    split at h
    · rename_i hs
      obtain rfl := Option.some.inj h
      by_cases ht : Int.tmod a2 2 = 0
      · rw [if_pos ht]
        exact lamps_even a0 a2 w hs (beq_iff_eq.2 ht)
      · rw [if_neg ht]
        exact lamps_odd a0 a2 w hs (beq_eq_false_iff_ne.2 ht)
    · exact absurd h (by simp)

end Go.Proofs.Ytkhmoopgjgokcaa.P
