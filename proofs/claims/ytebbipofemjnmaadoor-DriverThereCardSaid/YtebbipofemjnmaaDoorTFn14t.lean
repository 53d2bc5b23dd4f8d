/- The functions of the program that DriverTraces reaches, over data: written by the generator; Lean checks it. -/
import Derived.Test.YtebbipofemjnmaaDoorTHand14t
namespace Go.Am.Tryd
open Go.Proofs Go.Am
set_option maxRecDepth 1000000
set_option linter.unusedVariables false
noncomputable def junctionref1_size.c : Go.Code := match Tryd.f48.body with | some c => c | none => .skip
theorem junctionref1_size.hb : Tryd.f48.body = some junctionref1_size.c := by kernel_rfl
noncomputable def junctionref1_size.x (k : Nat) (ls : List (LamS κ)) : Ctx κ := mkCtx [] [] ls
def junctionref1_size.i : List (Pat κ) := [.int .i64]
def junctionref1_size.p : Pat κ := .int .i64
def junctionref1_size.b : List (BPat κ) := []
noncomputable def junctionref1_size (k : Nat) (t0 : Int) : Option (Int × Unit) :=
    if Decidable.decide (t0 < (0 : Int)) = Bool.true then Option.some (Go.IntKind.wrap Go.IntKind.i64 ((0 : Int) - t0), ()) else Option.some (t0, ())
noncomputable def junctionref1_size.f (k : Nat) : dens junctionref1_size.i → Option (junctionref1_size.p.den × densB junctionref1_size.b) := fun d => junctionref1_size k d.1
noncomputable def junctionref1_size.ctx (k : Nat) : Ctx κ := junctionref1_size.x k []
theorem junctionref1_size.xOk (k : Nat) : (junctionref1_size.ctx k).Ok := ctxOk trivial trivial
theorem junctionref1_size.call (k : Nat) : CallV Tryd.prog E glob 48 junctionref1_size.i junctionref1_size.p junctionref1_size.b (junctionref1_size.f k) :=
  fn_okZ (kindOf := kindOf) (C := junctionref1_size.ctx k) (n := .none) (junctionref1_size.xOk k) Tryd.func48 junctionref1_size.hb (fits_of (l := []) (by kernel_rfl) trivial) (fun _ => by kernel_rfl)
noncomputable def junctionref1_size.ent (k : Nat) : EntS κ := ⟨48, [], entOf junctionref1_size.i junctionref1_size.p junctionref1_size.b true (junctionref1_size.f k) E⟩
theorem junctionref1_size.entOk (k : Nat) : EntOk Tryd.prog E glob 48 (junctionref1_size.ent k).run := ent_free encOk (callable_of Tryd.func48 (by kernel_rfl) (by kernel_rfl)) (by rfl) trivial (junctionref1_size.call k)
noncomputable def junctionref1_size.qent (k : Nat) : QEntS κ := ⟨48, qentOf junctionref1_size.i junctionref1_size.p (junctionref1_size.f k) E⟩
theorem junctionref1_size.qentOk (k : Nat) : QEntOk Tryd.prog E glob 48 (junctionref1_size.qent k).run := qent_ok encOk (callable_of Tryd.func48 (by kernel_rfl) (by kernel_rfl)) (junctionref1_size.call k)
noncomputable def junctionref1_Text.c : Go.Code := match Tryd.f42.body with | some c => c | none => .skip
theorem junctionref1_Text.hb : Tryd.f42.body = some junctionref1_Text.c := by kernel_rfl
noncomputable def junctionref1_Text.x (k : Nat) (ls : List (LamS κ)) : Ctx κ := mkCtx [junctionref1_size.ent k] [junctionref1_size.qent k] ls
def junctionref1_Text.i : List (Pat κ) := [.int .i32]
def junctionref1_Text.s0 : Sh κ := ⟨0, [3, 4], [.int .i64, .str], []⟩
def junctionref1_Text.o0 : List (Ex × Sh κ) := [(.exit 0, ⟨0, [4], [.str], []⟩)]
noncomputable def junctionref1_Text.l0 (k : Nat) : Nat → Int → ByteArray → Option ((ByteArray × Unit) × Unit)
  | 0, _, _ => none
  | j + 1, t3, t4 =>
    if Decidable.decide (t3 > (0 : Int)) = Bool.true then
      Go.Am.tooLong
        (ByteArray.size
            (Go.strOfNums (List.map (fun x => x) [Go.IntKind.wrap Go.IntKind.u8 (Go.IntKind.wrap Go.IntKind.i64 ((48 : Int) + Go.Am.rem t3 (10 : Int)))])) +
          ByteArray.size t4)
        (junctionref1_Text.l0 k j (Go.Am.quo Go.IntKind.i64 t3 (10 : Int))
          (Go.strOfNums (List.map (fun x => x) [Go.IntKind.wrap Go.IntKind.u8 (Go.IntKind.wrap Go.IntKind.i64 ((48 : Int) + Go.Am.rem t3 (10 : Int)))]) ++ t4))
    else Option.some ((t4, ()), ())
def junctionref1_Text.w0 : List Nat := [10, 11, 12, 13, 14, 15, 16, 17, 18, 19, 4, 20, 21, 3]
noncomputable def junctionref1_Text.e0 (k j : Nat) : junctionref1_Text.s0.den → Option (OutT junctionref1_Text.o0) := fun d => junctionref1_Text.l0 k j d.1.1 d.1.2.1
noncomputable def junctionref1_Text.m0 (k : Nat) : LamS κ := ⟨lamK 27 junctionref1_Text.w0 junctionref1_Text.s0 junctionref1_Text.o0 (junctionref1_Text.e0 k k)⟩
def junctionref1_Text.p : Pat κ := .str
def junctionref1_Text.b : List (BPat κ) := []
noncomputable def junctionref1_Text (k : Nat) (t0 : Int) : Option (ByteArray × Unit) :=
    if (t0 == (0 : Int)) = Bool.true then Option.some (ByteArray.mk #[(48 : UInt8)], ())
    else
      Option.bind (Go.Am.Tryd.junctionref1_size k (Go.IntKind.wrap Go.IntKind.i64 t0)) fun r0 =>
        Option.bind (Go.Am.Tryd.junctionref1_Text.l0 k k (Prod.fst r0) (ByteArray.mk #[])) fun r1 =>
          if Decidable.decide (t0 < (0 : Int)) = Bool.true then
            Go.Am.tooLong (ByteArray.size (ByteArray.mk #[(45 : UInt8)]) + ByteArray.size (Prod.fst (Prod.fst r1)))
              (Option.some (ByteArray.mk #[(45 : UInt8)] ++ Prod.fst (Prod.fst r1), ()))
          else Option.some (Prod.fst (Prod.fst r1), ())
noncomputable def junctionref1_Text.f (k : Nat) : dens junctionref1_Text.i → Option (junctionref1_Text.p.den × densB junctionref1_Text.b) := fun d => junctionref1_Text k d.1
noncomputable def junctionref1_Text.ctx (k : Nat) : Ctx κ := junctionref1_Text.x k [junctionref1_Text.m0 k]
theorem junctionref1_Text.xOk (k : Nat) : (junctionref1_Text.ctx k).Ok := ctxOk ⟨junctionref1_size.entOk k, trivial⟩ ⟨junctionref1_size.qentOk k, trivial⟩
theorem junctionref1_Text.k0 (k : Nat) : LamOk (junctionref1_Text.ctx k) ((junctionref1_Text.ctx k).Λ 0) (.loop (sub [1, 1, 1, 1, 0, 0, 0] junctionref1_Text.c)) :=
  loop_ok (kindOf := kindOf) (C := junctionref1_Text.ctx k) (n := .none) (L := junctionref1_Text.e0 k) (junctionref1_Text.xOk k) (by kernel_rfl) (by kernel_rfl) (fits_of (l := []) (by kernel_rfl) trivial) (fun _ => by kernel_rfl) (fun _ _ => by kernel_rfl) k
theorem junctionref1_Text.call (k : Nat) : CallV Tryd.prog E glob 42 junctionref1_Text.i junctionref1_Text.p junctionref1_Text.b (junctionref1_Text.f k) :=
  fn_okZ (kindOf := kindOf) (C := junctionref1_Text.ctx k) (n := (.pair .none (.pair .none (.pair .none (.pair .none (.pair (.pair (.cut 0) .none) .none)))))) (junctionref1_Text.xOk k) Tryd.func42 junctionref1_Text.hb (fits_of (l := [(0, .loop (sub [1, 1, 1, 1, 0, 0, 0] junctionref1_Text.c))]) (by kernel_rfl) ⟨junctionref1_Text.k0 k, trivial⟩) (fun _ => by kernel_rfl)
noncomputable def junctionref1_Text.ent (k : Nat) : EntS κ := ⟨42, [], entOf junctionref1_Text.i junctionref1_Text.p junctionref1_Text.b true (junctionref1_Text.f k) E⟩
theorem junctionref1_Text.entOk (k : Nat) : EntOk Tryd.prog E glob 42 (junctionref1_Text.ent k).run := ent_free encOk (callable_of Tryd.func42 (by kernel_rfl) (by kernel_rfl)) (by rfl) trivial (junctionref1_Text.call k)
noncomputable def junctionref1_Text.qent (k : Nat) : QEntS κ := ⟨42, qentOf junctionref1_Text.i junctionref1_Text.p (junctionref1_Text.f k) E⟩
theorem junctionref1_Text.qentOk (k : Nat) : QEntOk Tryd.prog E glob 42 (junctionref1_Text.qent k).run := qent_ok encOk (callable_of Tryd.func42 (by kernel_rfl) (by kernel_rfl)) (junctionref1_Text.call k)
noncomputable def junctionref14_Decimal_1.c : Go.Code := match Tryd.f27.body with | some c => c | none => .skip
theorem junctionref14_Decimal_1.hb : Tryd.f27.body = some junctionref14_Decimal_1.c := by kernel_rfl
noncomputable def junctionref14_Decimal_1.x (k : Nat) (ls : List (LamS κ)) : Ctx κ := mkCtx [junctionref14_Decimal_0.ent k, junctionref1_Text.ent k] [junctionref14_Decimal_0.qent k, junctionref1_Text.qent k] ls
def junctionref14_Decimal_1.i : List (Pat κ) := [.int .i64]
def junctionref14_Decimal_1.s0 : Sh κ := ⟨0, [0], [.int .i64], []⟩
def junctionref14_Decimal_1.o0 : List (Ex × Sh κ) := [(.normal, ⟨0, [9], [.bool], []⟩)]
noncomputable def junctionref14_Decimal_1.l0 (k : Nat) (t0 : Int) : Option ((Bool × Unit) × Unit) :=
    if Decidable.decide (t0 ≥ (-2147483648 : Int)) = Bool.true then Option.some ((Decidable.decide (t0 ≤ (2147483647 : Int)), ()), ())
    else Option.some ((Bool.false, ()), ())
def junctionref14_Decimal_1.w0 : List Nat := [4, 5, 6, 7, 8, 9]
noncomputable def junctionref14_Decimal_1.e0 (k : Nat) : junctionref14_Decimal_1.s0.den → Option (OutT junctionref14_Decimal_1.o0) := fun d => junctionref14_Decimal_1.l0 k d.1.1
noncomputable def junctionref14_Decimal_1.m0 (k : Nat) : LamS κ := ⟨lamK 28 junctionref14_Decimal_1.w0 junctionref14_Decimal_1.s0 junctionref14_Decimal_1.o0 (junctionref14_Decimal_1.e0 k)⟩
def junctionref14_Decimal_1.s1 : Sh κ := ⟨0, [3], [.int .i64], []⟩
def junctionref14_Decimal_1.o1 : List (Ex × Sh κ) := [(.normal, ⟨0, [3], [.int .i64], []⟩)]
noncomputable def junctionref14_Decimal_1.l1 (k : Nat) (t3 : Int) : Option ((Int × Unit) × Unit) :=
    if Decidable.decide (t3 < (0 : Int)) = Bool.true then Option.some ((Go.IntKind.wrap Go.IntKind.i64 ((0 : Int) - t3), ()), ()) else Option.some ((t3, ()), ())
def junctionref14_Decimal_1.w1 : List Nat := [15, 16, 17, 18, 3]
noncomputable def junctionref14_Decimal_1.e1 (k : Nat) : junctionref14_Decimal_1.s1.den → Option (OutT junctionref14_Decimal_1.o1) := fun d => junctionref14_Decimal_1.l1 k d.1.1
noncomputable def junctionref14_Decimal_1.m1 (k : Nat) : LamS κ := ⟨lamK 28 junctionref14_Decimal_1.w1 junctionref14_Decimal_1.s1 junctionref14_Decimal_1.o1 (junctionref14_Decimal_1.e1 k)⟩
def junctionref14_Decimal_1.s2 : Sh κ := ⟨0, [0, 3], [.int .i64, .int .i64], []⟩
def junctionref14_Decimal_1.o2 : List (Ex × Sh κ) := [(.normal, ⟨0, [2], [.str], []⟩)]
noncomputable def junctionref14_Decimal_1.l2 (k : Nat) (t0 : Int) (t3 : Int) : Option ((ByteArray × Unit) × Unit) :=
    Option.bind (Go.Am.Tryd.junctionref14_Decimal_0 k (Go.Am.quo Go.IntKind.i64 t0 (10 : Int))) fun r0 =>
      Go.Am.tooLong
        (ByteArray.size (Prod.fst r0) +
          ByteArray.size (Go.strOfNums (List.map (fun x => x) [Go.IntKind.wrap Go.IntKind.u8 (Go.IntKind.wrap Go.IntKind.i64 ((48 : Int) + t3))])))
        (Option.some
          ((Prod.fst r0 ++ Go.strOfNums (List.map (fun x => x) [Go.IntKind.wrap Go.IntKind.u8 (Go.IntKind.wrap Go.IntKind.i64 ((48 : Int) + t3))]), ()), ()))
def junctionref14_Decimal_1.w2 : List Nat := [19, 20, 21, 22, 23, 24, 25, 26, 27, 2]
noncomputable def junctionref14_Decimal_1.e2 (k : Nat) : junctionref14_Decimal_1.s2.den → Option (OutT junctionref14_Decimal_1.o2) := fun d => junctionref14_Decimal_1.l2 k d.1.1 d.1.2.1
noncomputable def junctionref14_Decimal_1.m2 (k : Nat) : LamS κ := ⟨lamK 28 junctionref14_Decimal_1.w2 junctionref14_Decimal_1.s2 junctionref14_Decimal_1.o2 (junctionref14_Decimal_1.e2 k)⟩
def junctionref14_Decimal_1.t2 : Sched := (.take 0 (.take 1 (.take 3 (.take 4 (.take 5 (.all (.cons 2 (.all (.cons 6 (.all (.cons 7 (.take 8 (.take 9 .done)) .nil)) .nil)) (.cons 6 (.all (.cons 2 (.all (.cons 7 (.take 8 (.take 9 .done)) .nil)) (.cons 7 (.all (.cons 2 (.take 8 (.take 9 .done)) .nil)) .nil))) .nil))))))))
noncomputable def junctionref14_Decimal_1.p2 (k : Nat) (t0 : Int) (t3 : Int) (o : (ByteArray × Unit) × Unit) : Prop :=
    Go.Am.holds
        (Option.bind (Go.Am.Tryd.junctionref14_Decimal_0 k (Go.Am.quo Go.IntKind.i64 t0 (10 : Int))) fun r2 =>
          Option.some
            ((Go.Am.holds
                  (Go.Am.tooLong
                    (ByteArray.size (Prod.fst r2) +
                      ByteArray.size (Go.strOfNums (List.map (fun x => x) [Go.IntKind.wrap Go.IntKind.u8 (Go.IntKind.wrap Go.IntKind.i64 ((48 : Int) + t3))])))
                    (Option.some
                      (Option.some
                          ((Prod.fst r2 ++ Go.strOfNums (List.map (fun x => x) [Go.IntKind.wrap Go.IntKind.u8 (Go.IntKind.wrap Go.IntKind.i64 ((48 : Int) + t3))]),
                              ()),
                            ()) =
                        Option.some o))) ∧
                True) ∧
              True)) ∧
      (Go.Am.holds
            (Option.bind (Go.Am.Tryd.junctionref14_Decimal_0 k (Go.Am.quo Go.IntKind.i64 t0 (10 : Int))) fun r1 =>
              Option.some
                (Go.Am.holds
                    (Go.Am.tooLong
                      (ByteArray.size (Prod.fst r1) +
                        ByteArray.size (Go.strOfNums (List.map (fun x => x) [Go.IntKind.wrap Go.IntKind.u8 (Go.IntKind.wrap Go.IntKind.i64 ((48 : Int) + t3))])))
                      (Option.some
                        (Option.some
                            ((Prod.fst r1 ++
                                  Go.strOfNums (List.map (fun x => x) [Go.IntKind.wrap Go.IntKind.u8 (Go.IntKind.wrap Go.IntKind.i64 ((48 : Int) + t3))]),
                                ()),
                              ()) =
                          Option.some o))) ∧
                  True)) ∧
          (Go.Am.holds
                (Option.bind (Go.Am.Tryd.junctionref14_Decimal_0 k (Go.Am.quo Go.IntKind.i64 t0 (10 : Int))) fun r0 =>
                  Option.some
                    (Go.Am.holds
                      (Go.Am.tooLong
                        (ByteArray.size (Prod.fst r0) +
                          ByteArray.size (Go.strOfNums (List.map (fun x => x) [Go.IntKind.wrap Go.IntKind.u8 (Go.IntKind.wrap Go.IntKind.i64 ((48 : Int) + t3))])))
                        (Option.some
                          (Option.some
                              ((Prod.fst r0 ++
                                    Go.strOfNums (List.map (fun x => x) [Go.IntKind.wrap Go.IntKind.u8 (Go.IntKind.wrap Go.IntKind.i64 ((48 : Int) + t3))]),
                                  ()),
                                ()) =
                            Option.some o))))) ∧
              True) ∧
            True) ∧
        True
theorem junctionref14_Decimal_1.q2 (k : Nat) (t0 : Int) (t3 : Int) (o : (ByteArray × Unit) × Unit) (h : junctionref14_Decimal_1.l2 k t0 t3 = some o) : junctionref14_Decimal_1.p2 k t0 t3 o := by
  unfold junctionref14_Decimal_1.l2 at h
  unfold junctionref14_Decimal_1.p2
  repeat' (first | split at h | (rw [Option.bind_eq_some_iff] at h; obtain ⟨_, _, h⟩ := h) | (rw [room_some] at h; obtain ⟨_, h⟩ := h) | (rw [tooLong_some] at h; obtain ⟨_, h⟩ := h))
  all_goals first | (cases h; done) | (cases h; simp only [Option.bind_some, room_pos, tooLong_pos, if_true, and_self, and_true, not_false_eq_true, holds, *]; done) | (cases h; simp [holds, room_pos, tooLong_pos, *])
def junctionref14_Decimal_1.p : Pat κ := .str
def junctionref14_Decimal_1.b : List (BPat κ) := []
noncomputable def junctionref14_Decimal_1 (k : Nat) (t0 : Int) : Option (ByteArray × Unit) :=
    Option.bind (Go.Am.Tryd.junctionref14_Decimal_1.l0 k t0) fun r0 =>
      if Prod.fst (Prod.fst r0) = Bool.true then
        Option.bind (Go.Am.Tryd.junctionref1_Text k (Go.IntKind.wrap Go.IntKind.i32 t0)) fun r1 => Option.some (Prod.fst r1, ())
      else
        Option.bind (Go.Am.Tryd.junctionref14_Decimal_1.l1 k (Go.Am.rem t0 (10 : Int))) fun r2 =>
          Option.bind (Go.Am.Tryd.junctionref14_Decimal_1.l2 k t0 (Prod.fst (Prod.fst r2))) fun r3 => Option.some (Prod.fst (Prod.fst r3), ())
noncomputable def junctionref14_Decimal_1.f (k : Nat) : dens junctionref14_Decimal_1.i → Option (junctionref14_Decimal_1.p.den × densB junctionref14_Decimal_1.b) := fun d => junctionref14_Decimal_1 k d.1
noncomputable def junctionref14_Decimal_1.ctx (k : Nat) : Ctx κ := junctionref14_Decimal_1.x k [junctionref14_Decimal_1.m0 k, junctionref14_Decimal_1.m1 k, junctionref14_Decimal_1.m2 k]
theorem junctionref14_Decimal_1.xOk (k : Nat) : (junctionref14_Decimal_1.ctx k).Ok := ctxOk ⟨junctionref14_Decimal_0.entOk k, junctionref1_Text.entOk k, trivial⟩ ⟨junctionref14_Decimal_0.qentOk k, junctionref1_Text.qentOk k, trivial⟩
theorem junctionref14_Decimal_1.k0 (k : Nat) : LamOk (junctionref14_Decimal_1.ctx k) ((junctionref14_Decimal_1.ctx k).Λ 0) (sub [1, 0, 0] junctionref14_Decimal_1.c) :=
  cut_ok (kindOf := kindOf) (C := junctionref14_Decimal_1.ctx k) (n := .none) (L := junctionref14_Decimal_1.e0 k) (junctionref14_Decimal_1.xOk k) (by kernel_rfl) (by kernel_rfl) (fits_of (l := []) (by kernel_rfl) trivial) (fun _ => by kernel_rfl)
theorem junctionref14_Decimal_1.k1 (k : Nat) : LamOk (junctionref14_Decimal_1.ctx k) ((junctionref14_Decimal_1.ctx k).Λ 1) (sub [1, 1, 1, 0] junctionref14_Decimal_1.c) :=
  cut_ok (kindOf := kindOf) (C := junctionref14_Decimal_1.ctx k) (n := .none) (L := junctionref14_Decimal_1.e1 k) (junctionref14_Decimal_1.xOk k) (by kernel_rfl) (by kernel_rfl) (fits_of (l := []) (by kernel_rfl) trivial) (fun _ => by kernel_rfl)
theorem junctionref14_Decimal_1.k2 (k : Nat) : LamOk (junctionref14_Decimal_1.ctx k) ((junctionref14_Decimal_1.ctx k).Λ 2) (sub [1, 1, 1, 1, 0] junctionref14_Decimal_1.c) :=
  tree_ok (kindOf := kindOf) (C := junctionref14_Decimal_1.ctx k) (L := junctionref14_Decimal_1.e2 k) (tr := junctionref14_Decimal_1.t2) (junctionref14_Decimal_1.xOk k) (by kernel_rfl) (by kernel_rfl) (by kernel_rfl) (by kernel_rfl) fun d o h => (show runs (junctionref14_Decimal_1.ctx k) kindOf _ junctionref14_Decimal_1.t2 _ _ = junctionref14_Decimal_1.p2 k d.1.1 d.1.2.1 o by kernel_rfl).mpr (junctionref14_Decimal_1.q2 k d.1.1 d.1.2.1 o (by unfold junctionref14_Decimal_1.e2 at h; exact h))
theorem junctionref14_Decimal_1.call (k : Nat) : CallV Tryd.prog E glob 27 junctionref14_Decimal_1.i junctionref14_Decimal_1.p junctionref14_Decimal_1.b (junctionref14_Decimal_1.f k) :=
  fn_okZ (kindOf := kindOf) (C := junctionref14_Decimal_1.ctx k) (n := (.pair .none (.pair (.pair (.cut 0) .none) (.pair .none (.pair (.cut 1) (.pair (.cut 2) .none)))))) (junctionref14_Decimal_1.xOk k) Tryd.func27 junctionref14_Decimal_1.hb (fits_of (l := [(0, (sub [1, 0, 0] junctionref14_Decimal_1.c)), (1, (sub [1, 1, 1, 0] junctionref14_Decimal_1.c)), (2, (sub [1, 1, 1, 1, 0] junctionref14_Decimal_1.c))]) (by kernel_rfl) ⟨junctionref14_Decimal_1.k0 k, junctionref14_Decimal_1.k1 k, junctionref14_Decimal_1.k2 k, trivial⟩) (fun _ => by kernel_rfl)
noncomputable def junctionref14_Decimal_1.ent (k : Nat) : EntS κ := ⟨27, [], entOf junctionref14_Decimal_1.i junctionref14_Decimal_1.p junctionref14_Decimal_1.b true (junctionref14_Decimal_1.f k) E⟩
theorem junctionref14_Decimal_1.entOk (k : Nat) : EntOk Tryd.prog E glob 27 (junctionref14_Decimal_1.ent k).run := ent_free encOk (callable_of Tryd.func27 (by kernel_rfl) (by kernel_rfl)) (by rfl) trivial (junctionref14_Decimal_1.call k)
noncomputable def junctionref14_Decimal_1.qent (k : Nat) : QEntS κ := ⟨27, qentOf junctionref14_Decimal_1.i junctionref14_Decimal_1.p (junctionref14_Decimal_1.f k) E⟩
theorem junctionref14_Decimal_1.qentOk (k : Nat) : QEntOk Tryd.prog E glob 27 (junctionref14_Decimal_1.qent k).run := qent_ok encOk (callable_of Tryd.func27 (by kernel_rfl) (by kernel_rfl)) (junctionref14_Decimal_1.call k)
noncomputable def junctionref14_Decimal_2.c : Go.Code := match Tryd.f27.body with | some c => c | none => .skip
theorem junctionref14_Decimal_2.hb : Tryd.f27.body = some junctionref14_Decimal_2.c := by kernel_rfl
noncomputable def junctionref14_Decimal_2.x (k : Nat) (ls : List (LamS κ)) : Ctx κ := mkCtx [junctionref1_Text.ent k, junctionref14_Decimal_1.ent k] [junctionref1_Text.qent k, junctionref14_Decimal_1.qent k] ls
def junctionref14_Decimal_2.i : List (Pat κ) := [.int .i64]
def junctionref14_Decimal_2.s0 : Sh κ := ⟨0, [0], [.int .i64], []⟩
def junctionref14_Decimal_2.o0 : List (Ex × Sh κ) := [(.normal, ⟨0, [9], [.bool], []⟩)]
noncomputable def junctionref14_Decimal_2.l0 (k : Nat) (t0 : Int) : Option ((Bool × Unit) × Unit) :=
    if Decidable.decide (t0 ≥ (-2147483648 : Int)) = Bool.true then Option.some ((Decidable.decide (t0 ≤ (2147483647 : Int)), ()), ())
    else Option.some ((Bool.false, ()), ())
def junctionref14_Decimal_2.w0 : List Nat := [4, 5, 6, 7, 8, 9]
noncomputable def junctionref14_Decimal_2.e0 (k : Nat) : junctionref14_Decimal_2.s0.den → Option (OutT junctionref14_Decimal_2.o0) := fun d => junctionref14_Decimal_2.l0 k d.1.1
noncomputable def junctionref14_Decimal_2.m0 (k : Nat) : LamS κ := ⟨lamK 28 junctionref14_Decimal_2.w0 junctionref14_Decimal_2.s0 junctionref14_Decimal_2.o0 (junctionref14_Decimal_2.e0 k)⟩
def junctionref14_Decimal_2.s1 : Sh κ := ⟨0, [3], [.int .i64], []⟩
def junctionref14_Decimal_2.o1 : List (Ex × Sh κ) := [(.normal, ⟨0, [3], [.int .i64], []⟩)]
noncomputable def junctionref14_Decimal_2.l1 (k : Nat) (t3 : Int) : Option ((Int × Unit) × Unit) :=
    if Decidable.decide (t3 < (0 : Int)) = Bool.true then Option.some ((Go.IntKind.wrap Go.IntKind.i64 ((0 : Int) - t3), ()), ()) else Option.some ((t3, ()), ())
def junctionref14_Decimal_2.w1 : List Nat := [15, 16, 17, 18, 3]
noncomputable def junctionref14_Decimal_2.e1 (k : Nat) : junctionref14_Decimal_2.s1.den → Option (OutT junctionref14_Decimal_2.o1) := fun d => junctionref14_Decimal_2.l1 k d.1.1
noncomputable def junctionref14_Decimal_2.m1 (k : Nat) : LamS κ := ⟨lamK 28 junctionref14_Decimal_2.w1 junctionref14_Decimal_2.s1 junctionref14_Decimal_2.o1 (junctionref14_Decimal_2.e1 k)⟩
def junctionref14_Decimal_2.s2 : Sh κ := ⟨0, [0, 3], [.int .i64, .int .i64], []⟩
def junctionref14_Decimal_2.o2 : List (Ex × Sh κ) := [(.normal, ⟨0, [2], [.str], []⟩)]
noncomputable def junctionref14_Decimal_2.l2 (k : Nat) (t0 : Int) (t3 : Int) : Option ((ByteArray × Unit) × Unit) :=
    Option.bind (Go.Am.Tryd.junctionref14_Decimal_1 k (Go.Am.quo Go.IntKind.i64 t0 (10 : Int))) fun r0 =>
      Go.Am.tooLong
        (ByteArray.size (Prod.fst r0) +
          ByteArray.size (Go.strOfNums (List.map (fun x => x) [Go.IntKind.wrap Go.IntKind.u8 (Go.IntKind.wrap Go.IntKind.i64 ((48 : Int) + t3))])))
        (Option.some
          ((Prod.fst r0 ++ Go.strOfNums (List.map (fun x => x) [Go.IntKind.wrap Go.IntKind.u8 (Go.IntKind.wrap Go.IntKind.i64 ((48 : Int) + t3))]), ()), ()))
def junctionref14_Decimal_2.w2 : List Nat := [19, 20, 21, 22, 23, 24, 25, 26, 27, 2]
noncomputable def junctionref14_Decimal_2.e2 (k : Nat) : junctionref14_Decimal_2.s2.den → Option (OutT junctionref14_Decimal_2.o2) := fun d => junctionref14_Decimal_2.l2 k d.1.1 d.1.2.1
noncomputable def junctionref14_Decimal_2.m2 (k : Nat) : LamS κ := ⟨lamK 28 junctionref14_Decimal_2.w2 junctionref14_Decimal_2.s2 junctionref14_Decimal_2.o2 (junctionref14_Decimal_2.e2 k)⟩
def junctionref14_Decimal_2.t2 : Sched := (.take 0 (.take 1 (.take 3 (.take 4 (.take 5 (.all (.cons 2 (.all (.cons 6 (.all (.cons 7 (.take 8 (.take 9 .done)) .nil)) .nil)) (.cons 6 (.all (.cons 2 (.all (.cons 7 (.take 8 (.take 9 .done)) .nil)) (.cons 7 (.all (.cons 2 (.take 8 (.take 9 .done)) .nil)) .nil))) .nil))))))))
noncomputable def junctionref14_Decimal_2.p2 (k : Nat) (t0 : Int) (t3 : Int) (o : (ByteArray × Unit) × Unit) : Prop :=
    Go.Am.holds
        (Option.bind (Go.Am.Tryd.junctionref14_Decimal_1 k (Go.Am.quo Go.IntKind.i64 t0 (10 : Int))) fun r2 =>
          Option.some
            ((Go.Am.holds
                  (Go.Am.tooLong
                    (ByteArray.size (Prod.fst r2) +
                      ByteArray.size (Go.strOfNums (List.map (fun x => x) [Go.IntKind.wrap Go.IntKind.u8 (Go.IntKind.wrap Go.IntKind.i64 ((48 : Int) + t3))])))
                    (Option.some
                      (Option.some
                          ((Prod.fst r2 ++ Go.strOfNums (List.map (fun x => x) [Go.IntKind.wrap Go.IntKind.u8 (Go.IntKind.wrap Go.IntKind.i64 ((48 : Int) + t3))]),
                              ()),
                            ()) =
                        Option.some o))) ∧
                True) ∧
              True)) ∧
      (Go.Am.holds
            (Option.bind (Go.Am.Tryd.junctionref14_Decimal_1 k (Go.Am.quo Go.IntKind.i64 t0 (10 : Int))) fun r1 =>
              Option.some
                (Go.Am.holds
                    (Go.Am.tooLong
                      (ByteArray.size (Prod.fst r1) +
                        ByteArray.size (Go.strOfNums (List.map (fun x => x) [Go.IntKind.wrap Go.IntKind.u8 (Go.IntKind.wrap Go.IntKind.i64 ((48 : Int) + t3))])))
                      (Option.some
                        (Option.some
                            ((Prod.fst r1 ++
                                  Go.strOfNums (List.map (fun x => x) [Go.IntKind.wrap Go.IntKind.u8 (Go.IntKind.wrap Go.IntKind.i64 ((48 : Int) + t3))]),
                                ()),
                              ()) =
                          Option.some o))) ∧
                  True)) ∧
          (Go.Am.holds
                (Option.bind (Go.Am.Tryd.junctionref14_Decimal_1 k (Go.Am.quo Go.IntKind.i64 t0 (10 : Int))) fun r0 =>
                  Option.some
                    (Go.Am.holds
                      (Go.Am.tooLong
                        (ByteArray.size (Prod.fst r0) +
                          ByteArray.size (Go.strOfNums (List.map (fun x => x) [Go.IntKind.wrap Go.IntKind.u8 (Go.IntKind.wrap Go.IntKind.i64 ((48 : Int) + t3))])))
                        (Option.some
                          (Option.some
                              ((Prod.fst r0 ++
                                    Go.strOfNums (List.map (fun x => x) [Go.IntKind.wrap Go.IntKind.u8 (Go.IntKind.wrap Go.IntKind.i64 ((48 : Int) + t3))]),
                                  ()),
                                ()) =
                            Option.some o))))) ∧
              True) ∧
            True) ∧
        True
theorem junctionref14_Decimal_2.q2 (k : Nat) (t0 : Int) (t3 : Int) (o : (ByteArray × Unit) × Unit) (h : junctionref14_Decimal_2.l2 k t0 t3 = some o) : junctionref14_Decimal_2.p2 k t0 t3 o := by
  unfold junctionref14_Decimal_2.l2 at h
  unfold junctionref14_Decimal_2.p2
  repeat' (first | split at h | (rw [Option.bind_eq_some_iff] at h; obtain ⟨_, _, h⟩ := h) | (rw [room_some] at h; obtain ⟨_, h⟩ := h) | (rw [tooLong_some] at h; obtain ⟨_, h⟩ := h))
  all_goals first | (cases h; done) | (cases h; simp only [Option.bind_some, room_pos, tooLong_pos, if_true, and_self, and_true, not_false_eq_true, holds, *]; done) | (cases h; simp [holds, room_pos, tooLong_pos, *])
def junctionref14_Decimal_2.p : Pat κ := .str
def junctionref14_Decimal_2.b : List (BPat κ) := []
noncomputable def junctionref14_Decimal_2 (k : Nat) (t0 : Int) : Option (ByteArray × Unit) :=
    Option.bind (Go.Am.Tryd.junctionref14_Decimal_2.l0 k t0) fun r0 =>
      if Prod.fst (Prod.fst r0) = Bool.true then
        Option.bind (Go.Am.Tryd.junctionref1_Text k (Go.IntKind.wrap Go.IntKind.i32 t0)) fun r1 => Option.some (Prod.fst r1, ())
      else
        Option.bind (Go.Am.Tryd.junctionref14_Decimal_2.l1 k (Go.Am.rem t0 (10 : Int))) fun r2 =>
          Option.bind (Go.Am.Tryd.junctionref14_Decimal_2.l2 k t0 (Prod.fst (Prod.fst r2))) fun r3 => Option.some (Prod.fst (Prod.fst r3), ())
noncomputable def junctionref14_Decimal_2.f (k : Nat) : dens junctionref14_Decimal_2.i → Option (junctionref14_Decimal_2.p.den × densB junctionref14_Decimal_2.b) := fun d => junctionref14_Decimal_2 k d.1
noncomputable def junctionref14_Decimal_2.ctx (k : Nat) : Ctx κ := junctionref14_Decimal_2.x k [junctionref14_Decimal_2.m0 k, junctionref14_Decimal_2.m1 k, junctionref14_Decimal_2.m2 k]
theorem junctionref14_Decimal_2.xOk (k : Nat) : (junctionref14_Decimal_2.ctx k).Ok := ctxOk ⟨junctionref1_Text.entOk k, junctionref14_Decimal_1.entOk k, trivial⟩ ⟨junctionref1_Text.qentOk k, junctionref14_Decimal_1.qentOk k, trivial⟩
theorem junctionref14_Decimal_2.k0 (k : Nat) : LamOk (junctionref14_Decimal_2.ctx k) ((junctionref14_Decimal_2.ctx k).Λ 0) (sub [1, 0, 0] junctionref14_Decimal_2.c) :=
  cut_ok (kindOf := kindOf) (C := junctionref14_Decimal_2.ctx k) (n := .none) (L := junctionref14_Decimal_2.e0 k) (junctionref14_Decimal_2.xOk k) (by kernel_rfl) (by kernel_rfl) (fits_of (l := []) (by kernel_rfl) trivial) (fun _ => by kernel_rfl)
theorem junctionref14_Decimal_2.k1 (k : Nat) : LamOk (junctionref14_Decimal_2.ctx k) ((junctionref14_Decimal_2.ctx k).Λ 1) (sub [1, 1, 1, 0] junctionref14_Decimal_2.c) :=
  cut_ok (kindOf := kindOf) (C := junctionref14_Decimal_2.ctx k) (n := .none) (L := junctionref14_Decimal_2.e1 k) (junctionref14_Decimal_2.xOk k) (by kernel_rfl) (by kernel_rfl) (fits_of (l := []) (by kernel_rfl) trivial) (fun _ => by kernel_rfl)
theorem junctionref14_Decimal_2.k2 (k : Nat) : LamOk (junctionref14_Decimal_2.ctx k) ((junctionref14_Decimal_2.ctx k).Λ 2) (sub [1, 1, 1, 1, 0] junctionref14_Decimal_2.c) :=
  tree_ok (kindOf := kindOf) (C := junctionref14_Decimal_2.ctx k) (L := junctionref14_Decimal_2.e2 k) (tr := junctionref14_Decimal_2.t2) (junctionref14_Decimal_2.xOk k) (by kernel_rfl) (by kernel_rfl) (by kernel_rfl) (by kernel_rfl) fun d o h => (show runs (junctionref14_Decimal_2.ctx k) kindOf _ junctionref14_Decimal_2.t2 _ _ = junctionref14_Decimal_2.p2 k d.1.1 d.1.2.1 o by kernel_rfl).mpr (junctionref14_Decimal_2.q2 k d.1.1 d.1.2.1 o (by unfold junctionref14_Decimal_2.e2 at h; exact h))
theorem junctionref14_Decimal_2.call (k : Nat) : CallV Tryd.prog E glob 27 junctionref14_Decimal_2.i junctionref14_Decimal_2.p junctionref14_Decimal_2.b (junctionref14_Decimal_2.f k) :=
  fn_okZ (kindOf := kindOf) (C := junctionref14_Decimal_2.ctx k) (n := (.pair .none (.pair (.pair (.cut 0) .none) (.pair .none (.pair (.cut 1) (.pair (.cut 2) .none)))))) (junctionref14_Decimal_2.xOk k) Tryd.func27 junctionref14_Decimal_2.hb (fits_of (l := [(0, (sub [1, 0, 0] junctionref14_Decimal_2.c)), (1, (sub [1, 1, 1, 0] junctionref14_Decimal_2.c)), (2, (sub [1, 1, 1, 1, 0] junctionref14_Decimal_2.c))]) (by kernel_rfl) ⟨junctionref14_Decimal_2.k0 k, junctionref14_Decimal_2.k1 k, junctionref14_Decimal_2.k2 k, trivial⟩) (fun _ => by kernel_rfl)
noncomputable def junctionref14_Decimal_2.ent (k : Nat) : EntS κ := ⟨27, [], entOf junctionref14_Decimal_2.i junctionref14_Decimal_2.p junctionref14_Decimal_2.b true (junctionref14_Decimal_2.f k) E⟩
theorem junctionref14_Decimal_2.entOk (k : Nat) : EntOk Tryd.prog E glob 27 (junctionref14_Decimal_2.ent k).run := ent_free encOk (callable_of Tryd.func27 (by kernel_rfl) (by kernel_rfl)) (by rfl) trivial (junctionref14_Decimal_2.call k)
noncomputable def junctionref14_Decimal_2.qent (k : Nat) : QEntS κ := ⟨27, qentOf junctionref14_Decimal_2.i junctionref14_Decimal_2.p (junctionref14_Decimal_2.f k) E⟩
theorem junctionref14_Decimal_2.qentOk (k : Nat) : QEntOk Tryd.prog E glob 27 (junctionref14_Decimal_2.qent k).run := qent_ok encOk (callable_of Tryd.func27 (by kernel_rfl) (by kernel_rfl)) (junctionref14_Decimal_2.call k)
noncomputable def junctionref14_Decimal_3.c : Go.Code := match Tryd.f27.body with | some c => c | none => .skip
theorem junctionref14_Decimal_3.hb : Tryd.f27.body = some junctionref14_Decimal_3.c := by kernel_rfl
noncomputable def junctionref14_Decimal_3.x (k : Nat) (ls : List (LamS κ)) : Ctx κ := mkCtx [junctionref1_Text.ent k, junctionref14_Decimal_2.ent k] [junctionref1_Text.qent k, junctionref14_Decimal_2.qent k] ls
def junctionref14_Decimal_3.i : List (Pat κ) := [.int .i64]
def junctionref14_Decimal_3.s0 : Sh κ := ⟨0, [0], [.int .i64], []⟩
def junctionref14_Decimal_3.o0 : List (Ex × Sh κ) := [(.normal, ⟨0, [9], [.bool], []⟩)]
noncomputable def junctionref14_Decimal_3.l0 (k : Nat) (t0 : Int) : Option ((Bool × Unit) × Unit) :=
    if Decidable.decide (t0 ≥ (-2147483648 : Int)) = Bool.true then Option.some ((Decidable.decide (t0 ≤ (2147483647 : Int)), ()), ())
    else Option.some ((Bool.false, ()), ())
def junctionref14_Decimal_3.w0 : List Nat := [4, 5, 6, 7, 8, 9]
noncomputable def junctionref14_Decimal_3.e0 (k : Nat) : junctionref14_Decimal_3.s0.den → Option (OutT junctionref14_Decimal_3.o0) := fun d => junctionref14_Decimal_3.l0 k d.1.1
noncomputable def junctionref14_Decimal_3.m0 (k : Nat) : LamS κ := ⟨lamK 28 junctionref14_Decimal_3.w0 junctionref14_Decimal_3.s0 junctionref14_Decimal_3.o0 (junctionref14_Decimal_3.e0 k)⟩
def junctionref14_Decimal_3.s1 : Sh κ := ⟨0, [3], [.int .i64], []⟩
def junctionref14_Decimal_3.o1 : List (Ex × Sh κ) := [(.normal, ⟨0, [3], [.int .i64], []⟩)]
noncomputable def junctionref14_Decimal_3.l1 (k : Nat) (t3 : Int) : Option ((Int × Unit) × Unit) :=
    if Decidable.decide (t3 < (0 : Int)) = Bool.true then Option.some ((Go.IntKind.wrap Go.IntKind.i64 ((0 : Int) - t3), ()), ()) else Option.some ((t3, ()), ())
def junctionref14_Decimal_3.w1 : List Nat := [15, 16, 17, 18, 3]
noncomputable def junctionref14_Decimal_3.e1 (k : Nat) : junctionref14_Decimal_3.s1.den → Option (OutT junctionref14_Decimal_3.o1) := fun d => junctionref14_Decimal_3.l1 k d.1.1
noncomputable def junctionref14_Decimal_3.m1 (k : Nat) : LamS κ := ⟨lamK 28 junctionref14_Decimal_3.w1 junctionref14_Decimal_3.s1 junctionref14_Decimal_3.o1 (junctionref14_Decimal_3.e1 k)⟩
def junctionref14_Decimal_3.s2 : Sh κ := ⟨0, [0, 3], [.int .i64, .int .i64], []⟩
def junctionref14_Decimal_3.o2 : List (Ex × Sh κ) := [(.normal, ⟨0, [2], [.str], []⟩)]
noncomputable def junctionref14_Decimal_3.l2 (k : Nat) (t0 : Int) (t3 : Int) : Option ((ByteArray × Unit) × Unit) :=
    Option.bind (Go.Am.Tryd.junctionref14_Decimal_2 k (Go.Am.quo Go.IntKind.i64 t0 (10 : Int))) fun r0 =>
      Go.Am.tooLong
        (ByteArray.size (Prod.fst r0) +
          ByteArray.size (Go.strOfNums (List.map (fun x => x) [Go.IntKind.wrap Go.IntKind.u8 (Go.IntKind.wrap Go.IntKind.i64 ((48 : Int) + t3))])))
        (Option.some
          ((Prod.fst r0 ++ Go.strOfNums (List.map (fun x => x) [Go.IntKind.wrap Go.IntKind.u8 (Go.IntKind.wrap Go.IntKind.i64 ((48 : Int) + t3))]), ()), ()))
def junctionref14_Decimal_3.w2 : List Nat := [19, 20, 21, 22, 23, 24, 25, 26, 27, 2]
noncomputable def junctionref14_Decimal_3.e2 (k : Nat) : junctionref14_Decimal_3.s2.den → Option (OutT junctionref14_Decimal_3.o2) := fun d => junctionref14_Decimal_3.l2 k d.1.1 d.1.2.1
noncomputable def junctionref14_Decimal_3.m2 (k : Nat) : LamS κ := ⟨lamK 28 junctionref14_Decimal_3.w2 junctionref14_Decimal_3.s2 junctionref14_Decimal_3.o2 (junctionref14_Decimal_3.e2 k)⟩
def junctionref14_Decimal_3.t2 : Sched := (.take 0 (.take 1 (.take 3 (.take 4 (.take 5 (.all (.cons 2 (.all (.cons 6 (.all (.cons 7 (.take 8 (.take 9 .done)) .nil)) .nil)) (.cons 6 (.all (.cons 2 (.all (.cons 7 (.take 8 (.take 9 .done)) .nil)) (.cons 7 (.all (.cons 2 (.take 8 (.take 9 .done)) .nil)) .nil))) .nil))))))))
noncomputable def junctionref14_Decimal_3.p2 (k : Nat) (t0 : Int) (t3 : Int) (o : (ByteArray × Unit) × Unit) : Prop :=
    Go.Am.holds
        (Option.bind (Go.Am.Tryd.junctionref14_Decimal_2 k (Go.Am.quo Go.IntKind.i64 t0 (10 : Int))) fun r2 =>
          Option.some
            ((Go.Am.holds
                  (Go.Am.tooLong
                    (ByteArray.size (Prod.fst r2) +
                      ByteArray.size (Go.strOfNums (List.map (fun x => x) [Go.IntKind.wrap Go.IntKind.u8 (Go.IntKind.wrap Go.IntKind.i64 ((48 : Int) + t3))])))
                    (Option.some
                      (Option.some
                          ((Prod.fst r2 ++ Go.strOfNums (List.map (fun x => x) [Go.IntKind.wrap Go.IntKind.u8 (Go.IntKind.wrap Go.IntKind.i64 ((48 : Int) + t3))]),
                              ()),
                            ()) =
                        Option.some o))) ∧
                True) ∧
              True)) ∧
      (Go.Am.holds
            (Option.bind (Go.Am.Tryd.junctionref14_Decimal_2 k (Go.Am.quo Go.IntKind.i64 t0 (10 : Int))) fun r1 =>
              Option.some
                (Go.Am.holds
                    (Go.Am.tooLong
                      (ByteArray.size (Prod.fst r1) +
                        ByteArray.size (Go.strOfNums (List.map (fun x => x) [Go.IntKind.wrap Go.IntKind.u8 (Go.IntKind.wrap Go.IntKind.i64 ((48 : Int) + t3))])))
                      (Option.some
                        (Option.some
                            ((Prod.fst r1 ++
                                  Go.strOfNums (List.map (fun x => x) [Go.IntKind.wrap Go.IntKind.u8 (Go.IntKind.wrap Go.IntKind.i64 ((48 : Int) + t3))]),
                                ()),
                              ()) =
                          Option.some o))) ∧
                  True)) ∧
          (Go.Am.holds
                (Option.bind (Go.Am.Tryd.junctionref14_Decimal_2 k (Go.Am.quo Go.IntKind.i64 t0 (10 : Int))) fun r0 =>
                  Option.some
                    (Go.Am.holds
                      (Go.Am.tooLong
                        (ByteArray.size (Prod.fst r0) +
                          ByteArray.size (Go.strOfNums (List.map (fun x => x) [Go.IntKind.wrap Go.IntKind.u8 (Go.IntKind.wrap Go.IntKind.i64 ((48 : Int) + t3))])))
                        (Option.some
                          (Option.some
                              ((Prod.fst r0 ++
                                    Go.strOfNums (List.map (fun x => x) [Go.IntKind.wrap Go.IntKind.u8 (Go.IntKind.wrap Go.IntKind.i64 ((48 : Int) + t3))]),
                                  ()),
                                ()) =
                            Option.some o))))) ∧
              True) ∧
            True) ∧
        True
theorem junctionref14_Decimal_3.q2 (k : Nat) (t0 : Int) (t3 : Int) (o : (ByteArray × Unit) × Unit) (h : junctionref14_Decimal_3.l2 k t0 t3 = some o) : junctionref14_Decimal_3.p2 k t0 t3 o := by
  unfold junctionref14_Decimal_3.l2 at h
  unfold junctionref14_Decimal_3.p2
  repeat' (first | split at h | (rw [Option.bind_eq_some_iff] at h; obtain ⟨_, _, h⟩ := h) | (rw [room_some] at h; obtain ⟨_, h⟩ := h) | (rw [tooLong_some] at h; obtain ⟨_, h⟩ := h))
  all_goals first | (cases h; done) | (cases h; simp only [Option.bind_some, room_pos, tooLong_pos, if_true, and_self, and_true, not_false_eq_true, holds, *]; done) | (cases h; simp [holds, room_pos, tooLong_pos, *])
def junctionref14_Decimal_3.p : Pat κ := .str
def junctionref14_Decimal_3.b : List (BPat κ) := []
noncomputable def junctionref14_Decimal_3 (k : Nat) (t0 : Int) : Option (ByteArray × Unit) :=
    Option.bind (Go.Am.Tryd.junctionref14_Decimal_3.l0 k t0) fun r0 =>
      if Prod.fst (Prod.fst r0) = Bool.true then
        Option.bind (Go.Am.Tryd.junctionref1_Text k (Go.IntKind.wrap Go.IntKind.i32 t0)) fun r1 => Option.some (Prod.fst r1, ())
      else
        Option.bind (Go.Am.Tryd.junctionref14_Decimal_3.l1 k (Go.Am.rem t0 (10 : Int))) fun r2 =>
          Option.bind (Go.Am.Tryd.junctionref14_Decimal_3.l2 k t0 (Prod.fst (Prod.fst r2))) fun r3 => Option.some (Prod.fst (Prod.fst r3), ())
noncomputable def junctionref14_Decimal_3.f (k : Nat) : dens junctionref14_Decimal_3.i → Option (junctionref14_Decimal_3.p.den × densB junctionref14_Decimal_3.b) := fun d => junctionref14_Decimal_3 k d.1
noncomputable def junctionref14_Decimal_3.ctx (k : Nat) : Ctx κ := junctionref14_Decimal_3.x k [junctionref14_Decimal_3.m0 k, junctionref14_Decimal_3.m1 k, junctionref14_Decimal_3.m2 k]
theorem junctionref14_Decimal_3.xOk (k : Nat) : (junctionref14_Decimal_3.ctx k).Ok := ctxOk ⟨junctionref1_Text.entOk k, junctionref14_Decimal_2.entOk k, trivial⟩ ⟨junctionref1_Text.qentOk k, junctionref14_Decimal_2.qentOk k, trivial⟩
theorem junctionref14_Decimal_3.k0 (k : Nat) : LamOk (junctionref14_Decimal_3.ctx k) ((junctionref14_Decimal_3.ctx k).Λ 0) (sub [1, 0, 0] junctionref14_Decimal_3.c) :=
  cut_ok (kindOf := kindOf) (C := junctionref14_Decimal_3.ctx k) (n := .none) (L := junctionref14_Decimal_3.e0 k) (junctionref14_Decimal_3.xOk k) (by kernel_rfl) (by kernel_rfl) (fits_of (l := []) (by kernel_rfl) trivial) (fun _ => by kernel_rfl)
theorem junctionref14_Decimal_3.k1 (k : Nat) : LamOk (junctionref14_Decimal_3.ctx k) ((junctionref14_Decimal_3.ctx k).Λ 1) (sub [1, 1, 1, 0] junctionref14_Decimal_3.c) :=
  cut_ok (kindOf := kindOf) (C := junctionref14_Decimal_3.ctx k) (n := .none) (L := junctionref14_Decimal_3.e1 k) (junctionref14_Decimal_3.xOk k) (by kernel_rfl) (by kernel_rfl) (fits_of (l := []) (by kernel_rfl) trivial) (fun _ => by kernel_rfl)
theorem junctionref14_Decimal_3.k2 (k : Nat) : LamOk (junctionref14_Decimal_3.ctx k) ((junctionref14_Decimal_3.ctx k).Λ 2) (sub [1, 1, 1, 1, 0] junctionref14_Decimal_3.c) :=
  tree_ok (kindOf := kindOf) (C := junctionref14_Decimal_3.ctx k) (L := junctionref14_Decimal_3.e2 k) (tr := junctionref14_Decimal_3.t2) (junctionref14_Decimal_3.xOk k) (by kernel_rfl) (by kernel_rfl) (by kernel_rfl) (by kernel_rfl) fun d o h => (show runs (junctionref14_Decimal_3.ctx k) kindOf _ junctionref14_Decimal_3.t2 _ _ = junctionref14_Decimal_3.p2 k d.1.1 d.1.2.1 o by kernel_rfl).mpr (junctionref14_Decimal_3.q2 k d.1.1 d.1.2.1 o (by unfold junctionref14_Decimal_3.e2 at h; exact h))
theorem junctionref14_Decimal_3.call (k : Nat) : CallV Tryd.prog E glob 27 junctionref14_Decimal_3.i junctionref14_Decimal_3.p junctionref14_Decimal_3.b (junctionref14_Decimal_3.f k) :=
  fn_okZ (kindOf := kindOf) (C := junctionref14_Decimal_3.ctx k) (n := (.pair .none (.pair (.pair (.cut 0) .none) (.pair .none (.pair (.cut 1) (.pair (.cut 2) .none)))))) (junctionref14_Decimal_3.xOk k) Tryd.func27 junctionref14_Decimal_3.hb (fits_of (l := [(0, (sub [1, 0, 0] junctionref14_Decimal_3.c)), (1, (sub [1, 1, 1, 0] junctionref14_Decimal_3.c)), (2, (sub [1, 1, 1, 1, 0] junctionref14_Decimal_3.c))]) (by kernel_rfl) ⟨junctionref14_Decimal_3.k0 k, junctionref14_Decimal_3.k1 k, junctionref14_Decimal_3.k2 k, trivial⟩) (fun _ => by kernel_rfl)
noncomputable def junctionref14_Decimal_3.ent (k : Nat) : EntS κ := ⟨27, [], entOf junctionref14_Decimal_3.i junctionref14_Decimal_3.p junctionref14_Decimal_3.b true (junctionref14_Decimal_3.f k) E⟩
theorem junctionref14_Decimal_3.entOk (k : Nat) : EntOk Tryd.prog E glob 27 (junctionref14_Decimal_3.ent k).run := ent_free encOk (callable_of Tryd.func27 (by kernel_rfl) (by kernel_rfl)) (by rfl) trivial (junctionref14_Decimal_3.call k)
noncomputable def junctionref14_Decimal_3.qent (k : Nat) : QEntS κ := ⟨27, qentOf junctionref14_Decimal_3.i junctionref14_Decimal_3.p (junctionref14_Decimal_3.f k) E⟩
theorem junctionref14_Decimal_3.qentOk (k : Nat) : QEntOk Tryd.prog E glob 27 (junctionref14_Decimal_3.qent k).run := qent_ok encOk (callable_of Tryd.func27 (by kernel_rfl) (by kernel_rfl)) (junctionref14_Decimal_3.call k)
noncomputable def junctionref14_Decimal_4.c : Go.Code := match Tryd.f27.body with | some c => c | none => .skip
theorem junctionref14_Decimal_4.hb : Tryd.f27.body = some junctionref14_Decimal_4.c := by kernel_rfl
noncomputable def junctionref14_Decimal_4.x (k : Nat) (ls : List (LamS κ)) : Ctx κ := mkCtx [junctionref1_Text.ent k, junctionref14_Decimal_3.ent k] [junctionref1_Text.qent k, junctionref14_Decimal_3.qent k] ls
def junctionref14_Decimal_4.i : List (Pat κ) := [.int .i64]
def junctionref14_Decimal_4.s0 : Sh κ := ⟨0, [0], [.int .i64], []⟩
def junctionref14_Decimal_4.o0 : List (Ex × Sh κ) := [(.normal, ⟨0, [9], [.bool], []⟩)]
noncomputable def junctionref14_Decimal_4.l0 (k : Nat) (t0 : Int) : Option ((Bool × Unit) × Unit) :=
    if Decidable.decide (t0 ≥ (-2147483648 : Int)) = Bool.true then Option.some ((Decidable.decide (t0 ≤ (2147483647 : Int)), ()), ())
    else Option.some ((Bool.false, ()), ())
def junctionref14_Decimal_4.w0 : List Nat := [4, 5, 6, 7, 8, 9]
noncomputable def junctionref14_Decimal_4.e0 (k : Nat) : junctionref14_Decimal_4.s0.den → Option (OutT junctionref14_Decimal_4.o0) := fun d => junctionref14_Decimal_4.l0 k d.1.1
noncomputable def junctionref14_Decimal_4.m0 (k : Nat) : LamS κ := ⟨lamK 28 junctionref14_Decimal_4.w0 junctionref14_Decimal_4.s0 junctionref14_Decimal_4.o0 (junctionref14_Decimal_4.e0 k)⟩
def junctionref14_Decimal_4.s1 : Sh κ := ⟨0, [3], [.int .i64], []⟩
def junctionref14_Decimal_4.o1 : List (Ex × Sh κ) := [(.normal, ⟨0, [3], [.int .i64], []⟩)]
noncomputable def junctionref14_Decimal_4.l1 (k : Nat) (t3 : Int) : Option ((Int × Unit) × Unit) :=
    if Decidable.decide (t3 < (0 : Int)) = Bool.true then Option.some ((Go.IntKind.wrap Go.IntKind.i64 ((0 : Int) - t3), ()), ()) else Option.some ((t3, ()), ())
def junctionref14_Decimal_4.w1 : List Nat := [15, 16, 17, 18, 3]
noncomputable def junctionref14_Decimal_4.e1 (k : Nat) : junctionref14_Decimal_4.s1.den → Option (OutT junctionref14_Decimal_4.o1) := fun d => junctionref14_Decimal_4.l1 k d.1.1
noncomputable def junctionref14_Decimal_4.m1 (k : Nat) : LamS κ := ⟨lamK 28 junctionref14_Decimal_4.w1 junctionref14_Decimal_4.s1 junctionref14_Decimal_4.o1 (junctionref14_Decimal_4.e1 k)⟩
def junctionref14_Decimal_4.s2 : Sh κ := ⟨0, [0, 3], [.int .i64, .int .i64], []⟩
def junctionref14_Decimal_4.o2 : List (Ex × Sh κ) := [(.normal, ⟨0, [2], [.str], []⟩)]
noncomputable def junctionref14_Decimal_4.l2 (k : Nat) (t0 : Int) (t3 : Int) : Option ((ByteArray × Unit) × Unit) :=
    Option.bind (Go.Am.Tryd.junctionref14_Decimal_3 k (Go.Am.quo Go.IntKind.i64 t0 (10 : Int))) fun r0 =>
      Go.Am.tooLong
        (ByteArray.size (Prod.fst r0) +
          ByteArray.size (Go.strOfNums (List.map (fun x => x) [Go.IntKind.wrap Go.IntKind.u8 (Go.IntKind.wrap Go.IntKind.i64 ((48 : Int) + t3))])))
        (Option.some
          ((Prod.fst r0 ++ Go.strOfNums (List.map (fun x => x) [Go.IntKind.wrap Go.IntKind.u8 (Go.IntKind.wrap Go.IntKind.i64 ((48 : Int) + t3))]), ()), ()))
def junctionref14_Decimal_4.w2 : List Nat := [19, 20, 21, 22, 23, 24, 25, 26, 27, 2]
noncomputable def junctionref14_Decimal_4.e2 (k : Nat) : junctionref14_Decimal_4.s2.den → Option (OutT junctionref14_Decimal_4.o2) := fun d => junctionref14_Decimal_4.l2 k d.1.1 d.1.2.1
noncomputable def junctionref14_Decimal_4.m2 (k : Nat) : LamS κ := ⟨lamK 28 junctionref14_Decimal_4.w2 junctionref14_Decimal_4.s2 junctionref14_Decimal_4.o2 (junctionref14_Decimal_4.e2 k)⟩
def junctionref14_Decimal_4.t2 : Sched := (.take 0 (.take 1 (.take 3 (.take 4 (.take 5 (.all (.cons 2 (.all (.cons 6 (.all (.cons 7 (.take 8 (.take 9 .done)) .nil)) .nil)) (.cons 6 (.all (.cons 2 (.all (.cons 7 (.take 8 (.take 9 .done)) .nil)) (.cons 7 (.all (.cons 2 (.take 8 (.take 9 .done)) .nil)) .nil))) .nil))))))))
noncomputable def junctionref14_Decimal_4.p2 (k : Nat) (t0 : Int) (t3 : Int) (o : (ByteArray × Unit) × Unit) : Prop :=
    Go.Am.holds
        (Option.bind (Go.Am.Tryd.junctionref14_Decimal_3 k (Go.Am.quo Go.IntKind.i64 t0 (10 : Int))) fun r2 =>
          Option.some
            ((Go.Am.holds
                  (Go.Am.tooLong
                    (ByteArray.size (Prod.fst r2) +
                      ByteArray.size (Go.strOfNums (List.map (fun x => x) [Go.IntKind.wrap Go.IntKind.u8 (Go.IntKind.wrap Go.IntKind.i64 ((48 : Int) + t3))])))
                    (Option.some
                      (Option.some
                          ((Prod.fst r2 ++ Go.strOfNums (List.map (fun x => x) [Go.IntKind.wrap Go.IntKind.u8 (Go.IntKind.wrap Go.IntKind.i64 ((48 : Int) + t3))]),
                              ()),
                            ()) =
                        Option.some o))) ∧
                True) ∧
              True)) ∧
      (Go.Am.holds
            (Option.bind (Go.Am.Tryd.junctionref14_Decimal_3 k (Go.Am.quo Go.IntKind.i64 t0 (10 : Int))) fun r1 =>
              Option.some
                (Go.Am.holds
                    (Go.Am.tooLong
                      (ByteArray.size (Prod.fst r1) +
                        ByteArray.size (Go.strOfNums (List.map (fun x => x) [Go.IntKind.wrap Go.IntKind.u8 (Go.IntKind.wrap Go.IntKind.i64 ((48 : Int) + t3))])))
                      (Option.some
                        (Option.some
                            ((Prod.fst r1 ++
                                  Go.strOfNums (List.map (fun x => x) [Go.IntKind.wrap Go.IntKind.u8 (Go.IntKind.wrap Go.IntKind.i64 ((48 : Int) + t3))]),
                                ()),
                              ()) =
                          Option.some o))) ∧
                  True)) ∧
          (Go.Am.holds
                (Option.bind (Go.Am.Tryd.junctionref14_Decimal_3 k (Go.Am.quo Go.IntKind.i64 t0 (10 : Int))) fun r0 =>
                  Option.some
                    (Go.Am.holds
                      (Go.Am.tooLong
                        (ByteArray.size (Prod.fst r0) +
                          ByteArray.size (Go.strOfNums (List.map (fun x => x) [Go.IntKind.wrap Go.IntKind.u8 (Go.IntKind.wrap Go.IntKind.i64 ((48 : Int) + t3))])))
                        (Option.some
                          (Option.some
                              ((Prod.fst r0 ++
                                    Go.strOfNums (List.map (fun x => x) [Go.IntKind.wrap Go.IntKind.u8 (Go.IntKind.wrap Go.IntKind.i64 ((48 : Int) + t3))]),
                                  ()),
                                ()) =
                            Option.some o))))) ∧
              True) ∧
            True) ∧
        True
theorem junctionref14_Decimal_4.q2 (k : Nat) (t0 : Int) (t3 : Int) (o : (ByteArray × Unit) × Unit) (h : junctionref14_Decimal_4.l2 k t0 t3 = some o) : junctionref14_Decimal_4.p2 k t0 t3 o := by
  unfold junctionref14_Decimal_4.l2 at h
  unfold junctionref14_Decimal_4.p2
  repeat' (first | split at h | (rw [Option.bind_eq_some_iff] at h; obtain ⟨_, _, h⟩ := h) | (rw [room_some] at h; obtain ⟨_, h⟩ := h) | (rw [tooLong_some] at h; obtain ⟨_, h⟩ := h))
  all_goals first | (cases h; done) | (cases h; simp only [Option.bind_some, room_pos, tooLong_pos, if_true, and_self, and_true, not_false_eq_true, holds, *]; done) | (cases h; simp [holds, room_pos, tooLong_pos, *])
def junctionref14_Decimal_4.p : Pat κ := .str
def junctionref14_Decimal_4.b : List (BPat κ) := []
noncomputable def junctionref14_Decimal_4 (k : Nat) (t0 : Int) : Option (ByteArray × Unit) :=
    Option.bind (Go.Am.Tryd.junctionref14_Decimal_4.l0 k t0) fun r0 =>
      if Prod.fst (Prod.fst r0) = Bool.true then
        Option.bind (Go.Am.Tryd.junctionref1_Text k (Go.IntKind.wrap Go.IntKind.i32 t0)) fun r1 => Option.some (Prod.fst r1, ())
      else
        Option.bind (Go.Am.Tryd.junctionref14_Decimal_4.l1 k (Go.Am.rem t0 (10 : Int))) fun r2 =>
          Option.bind (Go.Am.Tryd.junctionref14_Decimal_4.l2 k t0 (Prod.fst (Prod.fst r2))) fun r3 => Option.some (Prod.fst (Prod.fst r3), ())
noncomputable def junctionref14_Decimal_4.f (k : Nat) : dens junctionref14_Decimal_4.i → Option (junctionref14_Decimal_4.p.den × densB junctionref14_Decimal_4.b) := fun d => junctionref14_Decimal_4 k d.1
noncomputable def junctionref14_Decimal_4.ctx (k : Nat) : Ctx κ := junctionref14_Decimal_4.x k [junctionref14_Decimal_4.m0 k, junctionref14_Decimal_4.m1 k, junctionref14_Decimal_4.m2 k]
theorem junctionref14_Decimal_4.xOk (k : Nat) : (junctionref14_Decimal_4.ctx k).Ok := ctxOk ⟨junctionref1_Text.entOk k, junctionref14_Decimal_3.entOk k, trivial⟩ ⟨junctionref1_Text.qentOk k, junctionref14_Decimal_3.qentOk k, trivial⟩
theorem junctionref14_Decimal_4.k0 (k : Nat) : LamOk (junctionref14_Decimal_4.ctx k) ((junctionref14_Decimal_4.ctx k).Λ 0) (sub [1, 0, 0] junctionref14_Decimal_4.c) :=
  cut_ok (kindOf := kindOf) (C := junctionref14_Decimal_4.ctx k) (n := .none) (L := junctionref14_Decimal_4.e0 k) (junctionref14_Decimal_4.xOk k) (by kernel_rfl) (by kernel_rfl) (fits_of (l := []) (by kernel_rfl) trivial) (fun _ => by kernel_rfl)
theorem junctionref14_Decimal_4.k1 (k : Nat) : LamOk (junctionref14_Decimal_4.ctx k) ((junctionref14_Decimal_4.ctx k).Λ 1) (sub [1, 1, 1, 0] junctionref14_Decimal_4.c) :=
  cut_ok (kindOf := kindOf) (C := junctionref14_Decimal_4.ctx k) (n := .none) (L := junctionref14_Decimal_4.e1 k) (junctionref14_Decimal_4.xOk k) (by kernel_rfl) (by kernel_rfl) (fits_of (l := []) (by kernel_rfl) trivial) (fun _ => by kernel_rfl)
theorem junctionref14_Decimal_4.k2 (k : Nat) : LamOk (junctionref14_Decimal_4.ctx k) ((junctionref14_Decimal_4.ctx k).Λ 2) (sub [1, 1, 1, 1, 0] junctionref14_Decimal_4.c) :=
  tree_ok (kindOf := kindOf) (C := junctionref14_Decimal_4.ctx k) (L := junctionref14_Decimal_4.e2 k) (tr := junctionref14_Decimal_4.t2) (junctionref14_Decimal_4.xOk k) (by kernel_rfl) (by kernel_rfl) (by kernel_rfl) (by kernel_rfl) fun d o h => (show runs (junctionref14_Decimal_4.ctx k) kindOf _ junctionref14_Decimal_4.t2 _ _ = junctionref14_Decimal_4.p2 k d.1.1 d.1.2.1 o by kernel_rfl).mpr (junctionref14_Decimal_4.q2 k d.1.1 d.1.2.1 o (by unfold junctionref14_Decimal_4.e2 at h; exact h))
theorem junctionref14_Decimal_4.call (k : Nat) : CallV Tryd.prog E glob 27 junctionref14_Decimal_4.i junctionref14_Decimal_4.p junctionref14_Decimal_4.b (junctionref14_Decimal_4.f k) :=
  fn_okZ (kindOf := kindOf) (C := junctionref14_Decimal_4.ctx k) (n := (.pair .none (.pair (.pair (.cut 0) .none) (.pair .none (.pair (.cut 1) (.pair (.cut 2) .none)))))) (junctionref14_Decimal_4.xOk k) Tryd.func27 junctionref14_Decimal_4.hb (fits_of (l := [(0, (sub [1, 0, 0] junctionref14_Decimal_4.c)), (1, (sub [1, 1, 1, 0] junctionref14_Decimal_4.c)), (2, (sub [1, 1, 1, 1, 0] junctionref14_Decimal_4.c))]) (by kernel_rfl) ⟨junctionref14_Decimal_4.k0 k, junctionref14_Decimal_4.k1 k, junctionref14_Decimal_4.k2 k, trivial⟩) (fun _ => by kernel_rfl)
noncomputable def junctionref14_Decimal_4.ent (k : Nat) : EntS κ := ⟨27, [], entOf junctionref14_Decimal_4.i junctionref14_Decimal_4.p junctionref14_Decimal_4.b true (junctionref14_Decimal_4.f k) E⟩
theorem junctionref14_Decimal_4.entOk (k : Nat) : EntOk Tryd.prog E glob 27 (junctionref14_Decimal_4.ent k).run := ent_free encOk (callable_of Tryd.func27 (by kernel_rfl) (by kernel_rfl)) (by rfl) trivial (junctionref14_Decimal_4.call k)
noncomputable def junctionref14_Decimal_4.qent (k : Nat) : QEntS κ := ⟨27, qentOf junctionref14_Decimal_4.i junctionref14_Decimal_4.p (junctionref14_Decimal_4.f k) E⟩
theorem junctionref14_Decimal_4.qentOk (k : Nat) : QEntOk Tryd.prog E glob 27 (junctionref14_Decimal_4.qent k).run := qent_ok encOk (callable_of Tryd.func27 (by kernel_rfl) (by kernel_rfl)) (junctionref14_Decimal_4.call k)
noncomputable def junctionref14_Decimal_5.c : Go.Code := match Tryd.f27.body with | some c => c | none => .skip
theorem junctionref14_Decimal_5.hb : Tryd.f27.body = some junctionref14_Decimal_5.c := by kernel_rfl
noncomputable def junctionref14_Decimal_5.x (k : Nat) (ls : List (LamS κ)) : Ctx κ := mkCtx [junctionref1_Text.ent k, junctionref14_Decimal_4.ent k] [junctionref1_Text.qent k, junctionref14_Decimal_4.qent k] ls
def junctionref14_Decimal_5.i : List (Pat κ) := [.int .i64]
def junctionref14_Decimal_5.s0 : Sh κ := ⟨0, [0], [.int .i64], []⟩
def junctionref14_Decimal_5.o0 : List (Ex × Sh κ) := [(.normal, ⟨0, [9], [.bool], []⟩)]
noncomputable def junctionref14_Decimal_5.l0 (k : Nat) (t0 : Int) : Option ((Bool × Unit) × Unit) :=
    if Decidable.decide (t0 ≥ (-2147483648 : Int)) = Bool.true then Option.some ((Decidable.decide (t0 ≤ (2147483647 : Int)), ()), ())
    else Option.some ((Bool.false, ()), ())
def junctionref14_Decimal_5.w0 : List Nat := [4, 5, 6, 7, 8, 9]
noncomputable def junctionref14_Decimal_5.e0 (k : Nat) : junctionref14_Decimal_5.s0.den → Option (OutT junctionref14_Decimal_5.o0) := fun d => junctionref14_Decimal_5.l0 k d.1.1
noncomputable def junctionref14_Decimal_5.m0 (k : Nat) : LamS κ := ⟨lamK 28 junctionref14_Decimal_5.w0 junctionref14_Decimal_5.s0 junctionref14_Decimal_5.o0 (junctionref14_Decimal_5.e0 k)⟩
def junctionref14_Decimal_5.s1 : Sh κ := ⟨0, [3], [.int .i64], []⟩
def junctionref14_Decimal_5.o1 : List (Ex × Sh κ) := [(.normal, ⟨0, [3], [.int .i64], []⟩)]
noncomputable def junctionref14_Decimal_5.l1 (k : Nat) (t3 : Int) : Option ((Int × Unit) × Unit) :=
    if Decidable.decide (t3 < (0 : Int)) = Bool.true then Option.some ((Go.IntKind.wrap Go.IntKind.i64 ((0 : Int) - t3), ()), ()) else Option.some ((t3, ()), ())
def junctionref14_Decimal_5.w1 : List Nat := [15, 16, 17, 18, 3]
noncomputable def junctionref14_Decimal_5.e1 (k : Nat) : junctionref14_Decimal_5.s1.den → Option (OutT junctionref14_Decimal_5.o1) := fun d => junctionref14_Decimal_5.l1 k d.1.1
noncomputable def junctionref14_Decimal_5.m1 (k : Nat) : LamS κ := ⟨lamK 28 junctionref14_Decimal_5.w1 junctionref14_Decimal_5.s1 junctionref14_Decimal_5.o1 (junctionref14_Decimal_5.e1 k)⟩
def junctionref14_Decimal_5.s2 : Sh κ := ⟨0, [0, 3], [.int .i64, .int .i64], []⟩
def junctionref14_Decimal_5.o2 : List (Ex × Sh κ) := [(.normal, ⟨0, [2], [.str], []⟩)]
noncomputable def junctionref14_Decimal_5.l2 (k : Nat) (t0 : Int) (t3 : Int) : Option ((ByteArray × Unit) × Unit) :=
    Option.bind (Go.Am.Tryd.junctionref14_Decimal_4 k (Go.Am.quo Go.IntKind.i64 t0 (10 : Int))) fun r0 =>
      Go.Am.tooLong
        (ByteArray.size (Prod.fst r0) +
          ByteArray.size (Go.strOfNums (List.map (fun x => x) [Go.IntKind.wrap Go.IntKind.u8 (Go.IntKind.wrap Go.IntKind.i64 ((48 : Int) + t3))])))
        (Option.some
          ((Prod.fst r0 ++ Go.strOfNums (List.map (fun x => x) [Go.IntKind.wrap Go.IntKind.u8 (Go.IntKind.wrap Go.IntKind.i64 ((48 : Int) + t3))]), ()), ()))
def junctionref14_Decimal_5.w2 : List Nat := [19, 20, 21, 22, 23, 24, 25, 26, 27, 2]
noncomputable def junctionref14_Decimal_5.e2 (k : Nat) : junctionref14_Decimal_5.s2.den → Option (OutT junctionref14_Decimal_5.o2) := fun d => junctionref14_Decimal_5.l2 k d.1.1 d.1.2.1
noncomputable def junctionref14_Decimal_5.m2 (k : Nat) : LamS κ := ⟨lamK 28 junctionref14_Decimal_5.w2 junctionref14_Decimal_5.s2 junctionref14_Decimal_5.o2 (junctionref14_Decimal_5.e2 k)⟩
def junctionref14_Decimal_5.t2 : Sched := (.take 0 (.take 1 (.take 3 (.take 4 (.take 5 (.all (.cons 2 (.all (.cons 6 (.all (.cons 7 (.take 8 (.take 9 .done)) .nil)) .nil)) (.cons 6 (.all (.cons 2 (.all (.cons 7 (.take 8 (.take 9 .done)) .nil)) (.cons 7 (.all (.cons 2 (.take 8 (.take 9 .done)) .nil)) .nil))) .nil))))))))
noncomputable def junctionref14_Decimal_5.p2 (k : Nat) (t0 : Int) (t3 : Int) (o : (ByteArray × Unit) × Unit) : Prop :=
    Go.Am.holds
        (Option.bind (Go.Am.Tryd.junctionref14_Decimal_4 k (Go.Am.quo Go.IntKind.i64 t0 (10 : Int))) fun r2 =>
          Option.some
            ((Go.Am.holds
                  (Go.Am.tooLong
                    (ByteArray.size (Prod.fst r2) +
                      ByteArray.size (Go.strOfNums (List.map (fun x => x) [Go.IntKind.wrap Go.IntKind.u8 (Go.IntKind.wrap Go.IntKind.i64 ((48 : Int) + t3))])))
                    (Option.some
                      (Option.some
                          ((Prod.fst r2 ++ Go.strOfNums (List.map (fun x => x) [Go.IntKind.wrap Go.IntKind.u8 (Go.IntKind.wrap Go.IntKind.i64 ((48 : Int) + t3))]),
                              ()),
                            ()) =
                        Option.some o))) ∧
                True) ∧
              True)) ∧
      (Go.Am.holds
            (Option.bind (Go.Am.Tryd.junctionref14_Decimal_4 k (Go.Am.quo Go.IntKind.i64 t0 (10 : Int))) fun r1 =>
              Option.some
                (Go.Am.holds
                    (Go.Am.tooLong
                      (ByteArray.size (Prod.fst r1) +
                        ByteArray.size (Go.strOfNums (List.map (fun x => x) [Go.IntKind.wrap Go.IntKind.u8 (Go.IntKind.wrap Go.IntKind.i64 ((48 : Int) + t3))])))
                      (Option.some
                        (Option.some
                            ((Prod.fst r1 ++
                                  Go.strOfNums (List.map (fun x => x) [Go.IntKind.wrap Go.IntKind.u8 (Go.IntKind.wrap Go.IntKind.i64 ((48 : Int) + t3))]),
                                ()),
                              ()) =
                          Option.some o))) ∧
                  True)) ∧
          (Go.Am.holds
                (Option.bind (Go.Am.Tryd.junctionref14_Decimal_4 k (Go.Am.quo Go.IntKind.i64 t0 (10 : Int))) fun r0 =>
                  Option.some
                    (Go.Am.holds
                      (Go.Am.tooLong
                        (ByteArray.size (Prod.fst r0) +
                          ByteArray.size (Go.strOfNums (List.map (fun x => x) [Go.IntKind.wrap Go.IntKind.u8 (Go.IntKind.wrap Go.IntKind.i64 ((48 : Int) + t3))])))
                        (Option.some
                          (Option.some
                              ((Prod.fst r0 ++
                                    Go.strOfNums (List.map (fun x => x) [Go.IntKind.wrap Go.IntKind.u8 (Go.IntKind.wrap Go.IntKind.i64 ((48 : Int) + t3))]),
                                  ()),
                                ()) =
                            Option.some o))))) ∧
              True) ∧
            True) ∧
        True
theorem junctionref14_Decimal_5.q2 (k : Nat) (t0 : Int) (t3 : Int) (o : (ByteArray × Unit) × Unit) (h : junctionref14_Decimal_5.l2 k t0 t3 = some o) : junctionref14_Decimal_5.p2 k t0 t3 o := by
  unfold junctionref14_Decimal_5.l2 at h
  unfold junctionref14_Decimal_5.p2
  repeat' (first | split at h | (rw [Option.bind_eq_some_iff] at h; obtain ⟨_, _, h⟩ := h) | (rw [room_some] at h; obtain ⟨_, h⟩ := h) | (rw [tooLong_some] at h; obtain ⟨_, h⟩ := h))
  all_goals first | (cases h; done) | (cases h; simp only [Option.bind_some, room_pos, tooLong_pos, if_true, and_self, and_true, not_false_eq_true, holds, *]; done) | (cases h; simp [holds, room_pos, tooLong_pos, *])
def junctionref14_Decimal_5.p : Pat κ := .str
def junctionref14_Decimal_5.b : List (BPat κ) := []
noncomputable def junctionref14_Decimal_5 (k : Nat) (t0 : Int) : Option (ByteArray × Unit) :=
    Option.bind (Go.Am.Tryd.junctionref14_Decimal_5.l0 k t0) fun r0 =>
      if Prod.fst (Prod.fst r0) = Bool.true then
        Option.bind (Go.Am.Tryd.junctionref1_Text k (Go.IntKind.wrap Go.IntKind.i32 t0)) fun r1 => Option.some (Prod.fst r1, ())
      else
        Option.bind (Go.Am.Tryd.junctionref14_Decimal_5.l1 k (Go.Am.rem t0 (10 : Int))) fun r2 =>
          Option.bind (Go.Am.Tryd.junctionref14_Decimal_5.l2 k t0 (Prod.fst (Prod.fst r2))) fun r3 => Option.some (Prod.fst (Prod.fst r3), ())
noncomputable def junctionref14_Decimal_5.f (k : Nat) : dens junctionref14_Decimal_5.i → Option (junctionref14_Decimal_5.p.den × densB junctionref14_Decimal_5.b) := fun d => junctionref14_Decimal_5 k d.1
noncomputable def junctionref14_Decimal_5.ctx (k : Nat) : Ctx κ := junctionref14_Decimal_5.x k [junctionref14_Decimal_5.m0 k, junctionref14_Decimal_5.m1 k, junctionref14_Decimal_5.m2 k]
theorem junctionref14_Decimal_5.xOk (k : Nat) : (junctionref14_Decimal_5.ctx k).Ok := ctxOk ⟨junctionref1_Text.entOk k, junctionref14_Decimal_4.entOk k, trivial⟩ ⟨junctionref1_Text.qentOk k, junctionref14_Decimal_4.qentOk k, trivial⟩
theorem junctionref14_Decimal_5.k0 (k : Nat) : LamOk (junctionref14_Decimal_5.ctx k) ((junctionref14_Decimal_5.ctx k).Λ 0) (sub [1, 0, 0] junctionref14_Decimal_5.c) :=
  cut_ok (kindOf := kindOf) (C := junctionref14_Decimal_5.ctx k) (n := .none) (L := junctionref14_Decimal_5.e0 k) (junctionref14_Decimal_5.xOk k) (by kernel_rfl) (by kernel_rfl) (fits_of (l := []) (by kernel_rfl) trivial) (fun _ => by kernel_rfl)
theorem junctionref14_Decimal_5.k1 (k : Nat) : LamOk (junctionref14_Decimal_5.ctx k) ((junctionref14_Decimal_5.ctx k).Λ 1) (sub [1, 1, 1, 0] junctionref14_Decimal_5.c) :=
  cut_ok (kindOf := kindOf) (C := junctionref14_Decimal_5.ctx k) (n := .none) (L := junctionref14_Decimal_5.e1 k) (junctionref14_Decimal_5.xOk k) (by kernel_rfl) (by kernel_rfl) (fits_of (l := []) (by kernel_rfl) trivial) (fun _ => by kernel_rfl)
theorem junctionref14_Decimal_5.k2 (k : Nat) : LamOk (junctionref14_Decimal_5.ctx k) ((junctionref14_Decimal_5.ctx k).Λ 2) (sub [1, 1, 1, 1, 0] junctionref14_Decimal_5.c) :=
  tree_ok (kindOf := kindOf) (C := junctionref14_Decimal_5.ctx k) (L := junctionref14_Decimal_5.e2 k) (tr := junctionref14_Decimal_5.t2) (junctionref14_Decimal_5.xOk k) (by kernel_rfl) (by kernel_rfl) (by kernel_rfl) (by kernel_rfl) fun d o h => (show runs (junctionref14_Decimal_5.ctx k) kindOf _ junctionref14_Decimal_5.t2 _ _ = junctionref14_Decimal_5.p2 k d.1.1 d.1.2.1 o by kernel_rfl).mpr (junctionref14_Decimal_5.q2 k d.1.1 d.1.2.1 o (by unfold junctionref14_Decimal_5.e2 at h; exact h))
theorem junctionref14_Decimal_5.call (k : Nat) : CallV Tryd.prog E glob 27 junctionref14_Decimal_5.i junctionref14_Decimal_5.p junctionref14_Decimal_5.b (junctionref14_Decimal_5.f k) :=
  fn_okZ (kindOf := kindOf) (C := junctionref14_Decimal_5.ctx k) (n := (.pair .none (.pair (.pair (.cut 0) .none) (.pair .none (.pair (.cut 1) (.pair (.cut 2) .none)))))) (junctionref14_Decimal_5.xOk k) Tryd.func27 junctionref14_Decimal_5.hb (fits_of (l := [(0, (sub [1, 0, 0] junctionref14_Decimal_5.c)), (1, (sub [1, 1, 1, 0] junctionref14_Decimal_5.c)), (2, (sub [1, 1, 1, 1, 0] junctionref14_Decimal_5.c))]) (by kernel_rfl) ⟨junctionref14_Decimal_5.k0 k, junctionref14_Decimal_5.k1 k, junctionref14_Decimal_5.k2 k, trivial⟩) (fun _ => by kernel_rfl)
noncomputable def junctionref14_Decimal_5.ent (k : Nat) : EntS κ := ⟨27, [], entOf junctionref14_Decimal_5.i junctionref14_Decimal_5.p junctionref14_Decimal_5.b true (junctionref14_Decimal_5.f k) E⟩
theorem junctionref14_Decimal_5.entOk (k : Nat) : EntOk Tryd.prog E glob 27 (junctionref14_Decimal_5.ent k).run := ent_free encOk (callable_of Tryd.func27 (by kernel_rfl) (by kernel_rfl)) (by rfl) trivial (junctionref14_Decimal_5.call k)
noncomputable def junctionref14_Decimal_5.qent (k : Nat) : QEntS κ := ⟨27, qentOf junctionref14_Decimal_5.i junctionref14_Decimal_5.p (junctionref14_Decimal_5.f k) E⟩
theorem junctionref14_Decimal_5.qentOk (k : Nat) : QEntOk Tryd.prog E glob 27 (junctionref14_Decimal_5.qent k).run := qent_ok encOk (callable_of Tryd.func27 (by kernel_rfl) (by kernel_rfl)) (junctionref14_Decimal_5.call k)
noncomputable def junctionref14_Decimal_6.c : Go.Code := match Tryd.f27.body with | some c => c | none => .skip
theorem junctionref14_Decimal_6.hb : Tryd.f27.body = some junctionref14_Decimal_6.c := by kernel_rfl
noncomputable def junctionref14_Decimal_6.x (k : Nat) (ls : List (LamS κ)) : Ctx κ := mkCtx [junctionref1_Text.ent k, junctionref14_Decimal_5.ent k] [junctionref1_Text.qent k, junctionref14_Decimal_5.qent k] ls
def junctionref14_Decimal_6.i : List (Pat κ) := [.int .i64]
def junctionref14_Decimal_6.s0 : Sh κ := ⟨0, [0], [.int .i64], []⟩
def junctionref14_Decimal_6.o0 : List (Ex × Sh κ) := [(.normal, ⟨0, [9], [.bool], []⟩)]
noncomputable def junctionref14_Decimal_6.l0 (k : Nat) (t0 : Int) : Option ((Bool × Unit) × Unit) :=
    if Decidable.decide (t0 ≥ (-2147483648 : Int)) = Bool.true then Option.some ((Decidable.decide (t0 ≤ (2147483647 : Int)), ()), ())
    else Option.some ((Bool.false, ()), ())
def junctionref14_Decimal_6.w0 : List Nat := [4, 5, 6, 7, 8, 9]
noncomputable def junctionref14_Decimal_6.e0 (k : Nat) : junctionref14_Decimal_6.s0.den → Option (OutT junctionref14_Decimal_6.o0) := fun d => junctionref14_Decimal_6.l0 k d.1.1
noncomputable def junctionref14_Decimal_6.m0 (k : Nat) : LamS κ := ⟨lamK 28 junctionref14_Decimal_6.w0 junctionref14_Decimal_6.s0 junctionref14_Decimal_6.o0 (junctionref14_Decimal_6.e0 k)⟩
def junctionref14_Decimal_6.s1 : Sh κ := ⟨0, [3], [.int .i64], []⟩
def junctionref14_Decimal_6.o1 : List (Ex × Sh κ) := [(.normal, ⟨0, [3], [.int .i64], []⟩)]
noncomputable def junctionref14_Decimal_6.l1 (k : Nat) (t3 : Int) : Option ((Int × Unit) × Unit) :=
    if Decidable.decide (t3 < (0 : Int)) = Bool.true then Option.some ((Go.IntKind.wrap Go.IntKind.i64 ((0 : Int) - t3), ()), ()) else Option.some ((t3, ()), ())
def junctionref14_Decimal_6.w1 : List Nat := [15, 16, 17, 18, 3]
noncomputable def junctionref14_Decimal_6.e1 (k : Nat) : junctionref14_Decimal_6.s1.den → Option (OutT junctionref14_Decimal_6.o1) := fun d => junctionref14_Decimal_6.l1 k d.1.1
noncomputable def junctionref14_Decimal_6.m1 (k : Nat) : LamS κ := ⟨lamK 28 junctionref14_Decimal_6.w1 junctionref14_Decimal_6.s1 junctionref14_Decimal_6.o1 (junctionref14_Decimal_6.e1 k)⟩
def junctionref14_Decimal_6.s2 : Sh κ := ⟨0, [0, 3], [.int .i64, .int .i64], []⟩
def junctionref14_Decimal_6.o2 : List (Ex × Sh κ) := [(.normal, ⟨0, [2], [.str], []⟩)]
noncomputable def junctionref14_Decimal_6.l2 (k : Nat) (t0 : Int) (t3 : Int) : Option ((ByteArray × Unit) × Unit) :=
    Option.bind (Go.Am.Tryd.junctionref14_Decimal_5 k (Go.Am.quo Go.IntKind.i64 t0 (10 : Int))) fun r0 =>
      Go.Am.tooLong
        (ByteArray.size (Prod.fst r0) +
          ByteArray.size (Go.strOfNums (List.map (fun x => x) [Go.IntKind.wrap Go.IntKind.u8 (Go.IntKind.wrap Go.IntKind.i64 ((48 : Int) + t3))])))
        (Option.some
          ((Prod.fst r0 ++ Go.strOfNums (List.map (fun x => x) [Go.IntKind.wrap Go.IntKind.u8 (Go.IntKind.wrap Go.IntKind.i64 ((48 : Int) + t3))]), ()), ()))
def junctionref14_Decimal_6.w2 : List Nat := [19, 20, 21, 22, 23, 24, 25, 26, 27, 2]
noncomputable def junctionref14_Decimal_6.e2 (k : Nat) : junctionref14_Decimal_6.s2.den → Option (OutT junctionref14_Decimal_6.o2) := fun d => junctionref14_Decimal_6.l2 k d.1.1 d.1.2.1
noncomputable def junctionref14_Decimal_6.m2 (k : Nat) : LamS κ := ⟨lamK 28 junctionref14_Decimal_6.w2 junctionref14_Decimal_6.s2 junctionref14_Decimal_6.o2 (junctionref14_Decimal_6.e2 k)⟩
def junctionref14_Decimal_6.t2 : Sched := (.take 0 (.take 1 (.take 3 (.take 4 (.take 5 (.all (.cons 2 (.all (.cons 6 (.all (.cons 7 (.take 8 (.take 9 .done)) .nil)) .nil)) (.cons 6 (.all (.cons 2 (.all (.cons 7 (.take 8 (.take 9 .done)) .nil)) (.cons 7 (.all (.cons 2 (.take 8 (.take 9 .done)) .nil)) .nil))) .nil))))))))
noncomputable def junctionref14_Decimal_6.p2 (k : Nat) (t0 : Int) (t3 : Int) (o : (ByteArray × Unit) × Unit) : Prop :=
    Go.Am.holds
        (Option.bind (Go.Am.Tryd.junctionref14_Decimal_5 k (Go.Am.quo Go.IntKind.i64 t0 (10 : Int))) fun r2 =>
          Option.some
            ((Go.Am.holds
                  (Go.Am.tooLong
                    (ByteArray.size (Prod.fst r2) +
                      ByteArray.size (Go.strOfNums (List.map (fun x => x) [Go.IntKind.wrap Go.IntKind.u8 (Go.IntKind.wrap Go.IntKind.i64 ((48 : Int) + t3))])))
                    (Option.some
                      (Option.some
                          ((Prod.fst r2 ++ Go.strOfNums (List.map (fun x => x) [Go.IntKind.wrap Go.IntKind.u8 (Go.IntKind.wrap Go.IntKind.i64 ((48 : Int) + t3))]),
                              ()),
                            ()) =
                        Option.some o))) ∧
                True) ∧
              True)) ∧
      (Go.Am.holds
            (Option.bind (Go.Am.Tryd.junctionref14_Decimal_5 k (Go.Am.quo Go.IntKind.i64 t0 (10 : Int))) fun r1 =>
              Option.some
                (Go.Am.holds
                    (Go.Am.tooLong
                      (ByteArray.size (Prod.fst r1) +
                        ByteArray.size (Go.strOfNums (List.map (fun x => x) [Go.IntKind.wrap Go.IntKind.u8 (Go.IntKind.wrap Go.IntKind.i64 ((48 : Int) + t3))])))
                      (Option.some
                        (Option.some
                            ((Prod.fst r1 ++
                                  Go.strOfNums (List.map (fun x => x) [Go.IntKind.wrap Go.IntKind.u8 (Go.IntKind.wrap Go.IntKind.i64 ((48 : Int) + t3))]),
                                ()),
                              ()) =
                          Option.some o))) ∧
                  True)) ∧
          (Go.Am.holds
                (Option.bind (Go.Am.Tryd.junctionref14_Decimal_5 k (Go.Am.quo Go.IntKind.i64 t0 (10 : Int))) fun r0 =>
                  Option.some
                    (Go.Am.holds
                      (Go.Am.tooLong
                        (ByteArray.size (Prod.fst r0) +
                          ByteArray.size (Go.strOfNums (List.map (fun x => x) [Go.IntKind.wrap Go.IntKind.u8 (Go.IntKind.wrap Go.IntKind.i64 ((48 : Int) + t3))])))
                        (Option.some
                          (Option.some
                              ((Prod.fst r0 ++
                                    Go.strOfNums (List.map (fun x => x) [Go.IntKind.wrap Go.IntKind.u8 (Go.IntKind.wrap Go.IntKind.i64 ((48 : Int) + t3))]),
                                  ()),
                                ()) =
                            Option.some o))))) ∧
              True) ∧
            True) ∧
        True
theorem junctionref14_Decimal_6.q2 (k : Nat) (t0 : Int) (t3 : Int) (o : (ByteArray × Unit) × Unit) (h : junctionref14_Decimal_6.l2 k t0 t3 = some o) : junctionref14_Decimal_6.p2 k t0 t3 o := by
  unfold junctionref14_Decimal_6.l2 at h
  unfold junctionref14_Decimal_6.p2
  repeat' (first | split at h | (rw [Option.bind_eq_some_iff] at h; obtain ⟨_, _, h⟩ := h) | (rw [room_some] at h; obtain ⟨_, h⟩ := h) | (rw [tooLong_some] at h; obtain ⟨_, h⟩ := h))
  all_goals first | (cases h; done) | (cases h; simp only [Option.bind_some, room_pos, tooLong_pos, if_true, and_self, and_true, not_false_eq_true, holds, *]; done) | (cases h; simp [holds, room_pos, tooLong_pos, *])
def junctionref14_Decimal_6.p : Pat κ := .str
def junctionref14_Decimal_6.b : List (BPat κ) := []
noncomputable def junctionref14_Decimal_6 (k : Nat) (t0 : Int) : Option (ByteArray × Unit) :=
    Option.bind (Go.Am.Tryd.junctionref14_Decimal_6.l0 k t0) fun r0 =>
      if Prod.fst (Prod.fst r0) = Bool.true then
        Option.bind (Go.Am.Tryd.junctionref1_Text k (Go.IntKind.wrap Go.IntKind.i32 t0)) fun r1 => Option.some (Prod.fst r1, ())
      else
        Option.bind (Go.Am.Tryd.junctionref14_Decimal_6.l1 k (Go.Am.rem t0 (10 : Int))) fun r2 =>
          Option.bind (Go.Am.Tryd.junctionref14_Decimal_6.l2 k t0 (Prod.fst (Prod.fst r2))) fun r3 => Option.some (Prod.fst (Prod.fst r3), ())
noncomputable def junctionref14_Decimal_6.f (k : Nat) : dens junctionref14_Decimal_6.i → Option (junctionref14_Decimal_6.p.den × densB junctionref14_Decimal_6.b) := fun d => junctionref14_Decimal_6 k d.1
noncomputable def junctionref14_Decimal_6.ctx (k : Nat) : Ctx κ := junctionref14_Decimal_6.x k [junctionref14_Decimal_6.m0 k, junctionref14_Decimal_6.m1 k, junctionref14_Decimal_6.m2 k]
theorem junctionref14_Decimal_6.xOk (k : Nat) : (junctionref14_Decimal_6.ctx k).Ok := ctxOk ⟨junctionref1_Text.entOk k, junctionref14_Decimal_5.entOk k, trivial⟩ ⟨junctionref1_Text.qentOk k, junctionref14_Decimal_5.qentOk k, trivial⟩
theorem junctionref14_Decimal_6.k0 (k : Nat) : LamOk (junctionref14_Decimal_6.ctx k) ((junctionref14_Decimal_6.ctx k).Λ 0) (sub [1, 0, 0] junctionref14_Decimal_6.c) :=
  cut_ok (kindOf := kindOf) (C := junctionref14_Decimal_6.ctx k) (n := .none) (L := junctionref14_Decimal_6.e0 k) (junctionref14_Decimal_6.xOk k) (by kernel_rfl) (by kernel_rfl) (fits_of (l := []) (by kernel_rfl) trivial) (fun _ => by kernel_rfl)
theorem junctionref14_Decimal_6.k1 (k : Nat) : LamOk (junctionref14_Decimal_6.ctx k) ((junctionref14_Decimal_6.ctx k).Λ 1) (sub [1, 1, 1, 0] junctionref14_Decimal_6.c) :=
  cut_ok (kindOf := kindOf) (C := junctionref14_Decimal_6.ctx k) (n := .none) (L := junctionref14_Decimal_6.e1 k) (junctionref14_Decimal_6.xOk k) (by kernel_rfl) (by kernel_rfl) (fits_of (l := []) (by kernel_rfl) trivial) (fun _ => by kernel_rfl)
theorem junctionref14_Decimal_6.k2 (k : Nat) : LamOk (junctionref14_Decimal_6.ctx k) ((junctionref14_Decimal_6.ctx k).Λ 2) (sub [1, 1, 1, 1, 0] junctionref14_Decimal_6.c) :=
  tree_ok (kindOf := kindOf) (C := junctionref14_Decimal_6.ctx k) (L := junctionref14_Decimal_6.e2 k) (tr := junctionref14_Decimal_6.t2) (junctionref14_Decimal_6.xOk k) (by kernel_rfl) (by kernel_rfl) (by kernel_rfl) (by kernel_rfl) fun d o h => (show runs (junctionref14_Decimal_6.ctx k) kindOf _ junctionref14_Decimal_6.t2 _ _ = junctionref14_Decimal_6.p2 k d.1.1 d.1.2.1 o by kernel_rfl).mpr (junctionref14_Decimal_6.q2 k d.1.1 d.1.2.1 o (by unfold junctionref14_Decimal_6.e2 at h; exact h))
theorem junctionref14_Decimal_6.call (k : Nat) : CallV Tryd.prog E glob 27 junctionref14_Decimal_6.i junctionref14_Decimal_6.p junctionref14_Decimal_6.b (junctionref14_Decimal_6.f k) :=
  fn_okZ (kindOf := kindOf) (C := junctionref14_Decimal_6.ctx k) (n := (.pair .none (.pair (.pair (.cut 0) .none) (.pair .none (.pair (.cut 1) (.pair (.cut 2) .none)))))) (junctionref14_Decimal_6.xOk k) Tryd.func27 junctionref14_Decimal_6.hb (fits_of (l := [(0, (sub [1, 0, 0] junctionref14_Decimal_6.c)), (1, (sub [1, 1, 1, 0] junctionref14_Decimal_6.c)), (2, (sub [1, 1, 1, 1, 0] junctionref14_Decimal_6.c))]) (by kernel_rfl) ⟨junctionref14_Decimal_6.k0 k, junctionref14_Decimal_6.k1 k, junctionref14_Decimal_6.k2 k, trivial⟩) (fun _ => by kernel_rfl)
noncomputable def junctionref14_Decimal_6.ent (k : Nat) : EntS κ := ⟨27, [], entOf junctionref14_Decimal_6.i junctionref14_Decimal_6.p junctionref14_Decimal_6.b true (junctionref14_Decimal_6.f k) E⟩
theorem junctionref14_Decimal_6.entOk (k : Nat) : EntOk Tryd.prog E glob 27 (junctionref14_Decimal_6.ent k).run := ent_free encOk (callable_of Tryd.func27 (by kernel_rfl) (by kernel_rfl)) (by rfl) trivial (junctionref14_Decimal_6.call k)
noncomputable def junctionref14_Decimal_6.qent (k : Nat) : QEntS κ := ⟨27, qentOf junctionref14_Decimal_6.i junctionref14_Decimal_6.p (junctionref14_Decimal_6.f k) E⟩
theorem junctionref14_Decimal_6.qentOk (k : Nat) : QEntOk Tryd.prog E glob 27 (junctionref14_Decimal_6.qent k).run := qent_ok encOk (callable_of Tryd.func27 (by kernel_rfl) (by kernel_rfl)) (junctionref14_Decimal_6.call k)
noncomputable def junctionref14_Decimal_7.c : Go.Code := match Tryd.f27.body with | some c => c | none => .skip
theorem junctionref14_Decimal_7.hb : Tryd.f27.body = some junctionref14_Decimal_7.c := by kernel_rfl
noncomputable def junctionref14_Decimal_7.x (k : Nat) (ls : List (LamS κ)) : Ctx κ := mkCtx [junctionref1_Text.ent k, junctionref14_Decimal_6.ent k] [junctionref1_Text.qent k, junctionref14_Decimal_6.qent k] ls
def junctionref14_Decimal_7.i : List (Pat κ) := [.int .i64]
def junctionref14_Decimal_7.s0 : Sh κ := ⟨0, [0], [.int .i64], []⟩
def junctionref14_Decimal_7.o0 : List (Ex × Sh κ) := [(.normal, ⟨0, [9], [.bool], []⟩)]
noncomputable def junctionref14_Decimal_7.l0 (k : Nat) (t0 : Int) : Option ((Bool × Unit) × Unit) :=
    if Decidable.decide (t0 ≥ (-2147483648 : Int)) = Bool.true then Option.some ((Decidable.decide (t0 ≤ (2147483647 : Int)), ()), ())
    else Option.some ((Bool.false, ()), ())
def junctionref14_Decimal_7.w0 : List Nat := [4, 5, 6, 7, 8, 9]
noncomputable def junctionref14_Decimal_7.e0 (k : Nat) : junctionref14_Decimal_7.s0.den → Option (OutT junctionref14_Decimal_7.o0) := fun d => junctionref14_Decimal_7.l0 k d.1.1
noncomputable def junctionref14_Decimal_7.m0 (k : Nat) : LamS κ := ⟨lamK 28 junctionref14_Decimal_7.w0 junctionref14_Decimal_7.s0 junctionref14_Decimal_7.o0 (junctionref14_Decimal_7.e0 k)⟩
def junctionref14_Decimal_7.s1 : Sh κ := ⟨0, [3], [.int .i64], []⟩
def junctionref14_Decimal_7.o1 : List (Ex × Sh κ) := [(.normal, ⟨0, [3], [.int .i64], []⟩)]
noncomputable def junctionref14_Decimal_7.l1 (k : Nat) (t3 : Int) : Option ((Int × Unit) × Unit) :=
    if Decidable.decide (t3 < (0 : Int)) = Bool.true then Option.some ((Go.IntKind.wrap Go.IntKind.i64 ((0 : Int) - t3), ()), ()) else Option.some ((t3, ()), ())
def junctionref14_Decimal_7.w1 : List Nat := [15, 16, 17, 18, 3]
noncomputable def junctionref14_Decimal_7.e1 (k : Nat) : junctionref14_Decimal_7.s1.den → Option (OutT junctionref14_Decimal_7.o1) := fun d => junctionref14_Decimal_7.l1 k d.1.1
noncomputable def junctionref14_Decimal_7.m1 (k : Nat) : LamS κ := ⟨lamK 28 junctionref14_Decimal_7.w1 junctionref14_Decimal_7.s1 junctionref14_Decimal_7.o1 (junctionref14_Decimal_7.e1 k)⟩
def junctionref14_Decimal_7.s2 : Sh κ := ⟨0, [0, 3], [.int .i64, .int .i64], []⟩
def junctionref14_Decimal_7.o2 : List (Ex × Sh κ) := [(.normal, ⟨0, [2], [.str], []⟩)]
noncomputable def junctionref14_Decimal_7.l2 (k : Nat) (t0 : Int) (t3 : Int) : Option ((ByteArray × Unit) × Unit) :=
    Option.bind (Go.Am.Tryd.junctionref14_Decimal_6 k (Go.Am.quo Go.IntKind.i64 t0 (10 : Int))) fun r0 =>
      Go.Am.tooLong
        (ByteArray.size (Prod.fst r0) +
          ByteArray.size (Go.strOfNums (List.map (fun x => x) [Go.IntKind.wrap Go.IntKind.u8 (Go.IntKind.wrap Go.IntKind.i64 ((48 : Int) + t3))])))
        (Option.some
          ((Prod.fst r0 ++ Go.strOfNums (List.map (fun x => x) [Go.IntKind.wrap Go.IntKind.u8 (Go.IntKind.wrap Go.IntKind.i64 ((48 : Int) + t3))]), ()), ()))
def junctionref14_Decimal_7.w2 : List Nat := [19, 20, 21, 22, 23, 24, 25, 26, 27, 2]
noncomputable def junctionref14_Decimal_7.e2 (k : Nat) : junctionref14_Decimal_7.s2.den → Option (OutT junctionref14_Decimal_7.o2) := fun d => junctionref14_Decimal_7.l2 k d.1.1 d.1.2.1
noncomputable def junctionref14_Decimal_7.m2 (k : Nat) : LamS κ := ⟨lamK 28 junctionref14_Decimal_7.w2 junctionref14_Decimal_7.s2 junctionref14_Decimal_7.o2 (junctionref14_Decimal_7.e2 k)⟩
def junctionref14_Decimal_7.t2 : Sched := (.take 0 (.take 1 (.take 3 (.take 4 (.take 5 (.all (.cons 2 (.all (.cons 6 (.all (.cons 7 (.take 8 (.take 9 .done)) .nil)) .nil)) (.cons 6 (.all (.cons 2 (.all (.cons 7 (.take 8 (.take 9 .done)) .nil)) (.cons 7 (.all (.cons 2 (.take 8 (.take 9 .done)) .nil)) .nil))) .nil))))))))
noncomputable def junctionref14_Decimal_7.p2 (k : Nat) (t0 : Int) (t3 : Int) (o : (ByteArray × Unit) × Unit) : Prop :=
    Go.Am.holds
        (Option.bind (Go.Am.Tryd.junctionref14_Decimal_6 k (Go.Am.quo Go.IntKind.i64 t0 (10 : Int))) fun r2 =>
          Option.some
            ((Go.Am.holds
                  (Go.Am.tooLong
                    (ByteArray.size (Prod.fst r2) +
                      ByteArray.size (Go.strOfNums (List.map (fun x => x) [Go.IntKind.wrap Go.IntKind.u8 (Go.IntKind.wrap Go.IntKind.i64 ((48 : Int) + t3))])))
                    (Option.some
                      (Option.some
                          ((Prod.fst r2 ++ Go.strOfNums (List.map (fun x => x) [Go.IntKind.wrap Go.IntKind.u8 (Go.IntKind.wrap Go.IntKind.i64 ((48 : Int) + t3))]),
                              ()),
                            ()) =
                        Option.some o))) ∧
                True) ∧
              True)) ∧
      (Go.Am.holds
            (Option.bind (Go.Am.Tryd.junctionref14_Decimal_6 k (Go.Am.quo Go.IntKind.i64 t0 (10 : Int))) fun r1 =>
              Option.some
                (Go.Am.holds
                    (Go.Am.tooLong
                      (ByteArray.size (Prod.fst r1) +
                        ByteArray.size (Go.strOfNums (List.map (fun x => x) [Go.IntKind.wrap Go.IntKind.u8 (Go.IntKind.wrap Go.IntKind.i64 ((48 : Int) + t3))])))
                      (Option.some
                        (Option.some
                            ((Prod.fst r1 ++
                                  Go.strOfNums (List.map (fun x => x) [Go.IntKind.wrap Go.IntKind.u8 (Go.IntKind.wrap Go.IntKind.i64 ((48 : Int) + t3))]),
                                ()),
                              ()) =
                          Option.some o))) ∧
                  True)) ∧
          (Go.Am.holds
                (Option.bind (Go.Am.Tryd.junctionref14_Decimal_6 k (Go.Am.quo Go.IntKind.i64 t0 (10 : Int))) fun r0 =>
                  Option.some
                    (Go.Am.holds
                      (Go.Am.tooLong
                        (ByteArray.size (Prod.fst r0) +
                          ByteArray.size (Go.strOfNums (List.map (fun x => x) [Go.IntKind.wrap Go.IntKind.u8 (Go.IntKind.wrap Go.IntKind.i64 ((48 : Int) + t3))])))
                        (Option.some
                          (Option.some
                              ((Prod.fst r0 ++
                                    Go.strOfNums (List.map (fun x => x) [Go.IntKind.wrap Go.IntKind.u8 (Go.IntKind.wrap Go.IntKind.i64 ((48 : Int) + t3))]),
                                  ()),
                                ()) =
                            Option.some o))))) ∧
              True) ∧
            True) ∧
        True
theorem junctionref14_Decimal_7.q2 (k : Nat) (t0 : Int) (t3 : Int) (o : (ByteArray × Unit) × Unit) (h : junctionref14_Decimal_7.l2 k t0 t3 = some o) : junctionref14_Decimal_7.p2 k t0 t3 o := by
  unfold junctionref14_Decimal_7.l2 at h
  unfold junctionref14_Decimal_7.p2
  repeat' (first | split at h | (rw [Option.bind_eq_some_iff] at h; obtain ⟨_, _, h⟩ := h) | (rw [room_some] at h; obtain ⟨_, h⟩ := h) | (rw [tooLong_some] at h; obtain ⟨_, h⟩ := h))
  all_goals first | (cases h; done) | (cases h; simp only [Option.bind_some, room_pos, tooLong_pos, if_true, and_self, and_true, not_false_eq_true, holds, *]; done) | (cases h; simp [holds, room_pos, tooLong_pos, *])
def junctionref14_Decimal_7.p : Pat κ := .str
def junctionref14_Decimal_7.b : List (BPat κ) := []
noncomputable def junctionref14_Decimal_7 (k : Nat) (t0 : Int) : Option (ByteArray × Unit) :=
    Option.bind (Go.Am.Tryd.junctionref14_Decimal_7.l0 k t0) fun r0 =>
      if Prod.fst (Prod.fst r0) = Bool.true then
        Option.bind (Go.Am.Tryd.junctionref1_Text k (Go.IntKind.wrap Go.IntKind.i32 t0)) fun r1 => Option.some (Prod.fst r1, ())
      else
        Option.bind (Go.Am.Tryd.junctionref14_Decimal_7.l1 k (Go.Am.rem t0 (10 : Int))) fun r2 =>
          Option.bind (Go.Am.Tryd.junctionref14_Decimal_7.l2 k t0 (Prod.fst (Prod.fst r2))) fun r3 => Option.some (Prod.fst (Prod.fst r3), ())
noncomputable def junctionref14_Decimal_7.f (k : Nat) : dens junctionref14_Decimal_7.i → Option (junctionref14_Decimal_7.p.den × densB junctionref14_Decimal_7.b) := fun d => junctionref14_Decimal_7 k d.1
noncomputable def junctionref14_Decimal_7.ctx (k : Nat) : Ctx κ := junctionref14_Decimal_7.x k [junctionref14_Decimal_7.m0 k, junctionref14_Decimal_7.m1 k, junctionref14_Decimal_7.m2 k]
theorem junctionref14_Decimal_7.xOk (k : Nat) : (junctionref14_Decimal_7.ctx k).Ok := ctxOk ⟨junctionref1_Text.entOk k, junctionref14_Decimal_6.entOk k, trivial⟩ ⟨junctionref1_Text.qentOk k, junctionref14_Decimal_6.qentOk k, trivial⟩
theorem junctionref14_Decimal_7.k0 (k : Nat) : LamOk (junctionref14_Decimal_7.ctx k) ((junctionref14_Decimal_7.ctx k).Λ 0) (sub [1, 0, 0] junctionref14_Decimal_7.c) :=
  cut_ok (kindOf := kindOf) (C := junctionref14_Decimal_7.ctx k) (n := .none) (L := junctionref14_Decimal_7.e0 k) (junctionref14_Decimal_7.xOk k) (by kernel_rfl) (by kernel_rfl) (fits_of (l := []) (by kernel_rfl) trivial) (fun _ => by kernel_rfl)
theorem junctionref14_Decimal_7.k1 (k : Nat) : LamOk (junctionref14_Decimal_7.ctx k) ((junctionref14_Decimal_7.ctx k).Λ 1) (sub [1, 1, 1, 0] junctionref14_Decimal_7.c) :=
  cut_ok (kindOf := kindOf) (C := junctionref14_Decimal_7.ctx k) (n := .none) (L := junctionref14_Decimal_7.e1 k) (junctionref14_Decimal_7.xOk k) (by kernel_rfl) (by kernel_rfl) (fits_of (l := []) (by kernel_rfl) trivial) (fun _ => by kernel_rfl)
theorem junctionref14_Decimal_7.k2 (k : Nat) : LamOk (junctionref14_Decimal_7.ctx k) ((junctionref14_Decimal_7.ctx k).Λ 2) (sub [1, 1, 1, 1, 0] junctionref14_Decimal_7.c) :=
  tree_ok (kindOf := kindOf) (C := junctionref14_Decimal_7.ctx k) (L := junctionref14_Decimal_7.e2 k) (tr := junctionref14_Decimal_7.t2) (junctionref14_Decimal_7.xOk k) (by kernel_rfl) (by kernel_rfl) (by kernel_rfl) (by kernel_rfl) fun d o h => (show runs (junctionref14_Decimal_7.ctx k) kindOf _ junctionref14_Decimal_7.t2 _ _ = junctionref14_Decimal_7.p2 k d.1.1 d.1.2.1 o by kernel_rfl).mpr (junctionref14_Decimal_7.q2 k d.1.1 d.1.2.1 o (by unfold junctionref14_Decimal_7.e2 at h; exact h))
theorem junctionref14_Decimal_7.call (k : Nat) : CallV Tryd.prog E glob 27 junctionref14_Decimal_7.i junctionref14_Decimal_7.p junctionref14_Decimal_7.b (junctionref14_Decimal_7.f k) :=
  fn_okZ (kindOf := kindOf) (C := junctionref14_Decimal_7.ctx k) (n := (.pair .none (.pair (.pair (.cut 0) .none) (.pair .none (.pair (.cut 1) (.pair (.cut 2) .none)))))) (junctionref14_Decimal_7.xOk k) Tryd.func27 junctionref14_Decimal_7.hb (fits_of (l := [(0, (sub [1, 0, 0] junctionref14_Decimal_7.c)), (1, (sub [1, 1, 1, 0] junctionref14_Decimal_7.c)), (2, (sub [1, 1, 1, 1, 0] junctionref14_Decimal_7.c))]) (by kernel_rfl) ⟨junctionref14_Decimal_7.k0 k, junctionref14_Decimal_7.k1 k, junctionref14_Decimal_7.k2 k, trivial⟩) (fun _ => by kernel_rfl)
noncomputable def junctionref14_Decimal_7.ent (k : Nat) : EntS κ := ⟨27, [], entOf junctionref14_Decimal_7.i junctionref14_Decimal_7.p junctionref14_Decimal_7.b true (junctionref14_Decimal_7.f k) E⟩
theorem junctionref14_Decimal_7.entOk (k : Nat) : EntOk Tryd.prog E glob 27 (junctionref14_Decimal_7.ent k).run := ent_free encOk (callable_of Tryd.func27 (by kernel_rfl) (by kernel_rfl)) (by rfl) trivial (junctionref14_Decimal_7.call k)
noncomputable def junctionref14_Decimal_7.qent (k : Nat) : QEntS κ := ⟨27, qentOf junctionref14_Decimal_7.i junctionref14_Decimal_7.p (junctionref14_Decimal_7.f k) E⟩
theorem junctionref14_Decimal_7.qentOk (k : Nat) : QEntOk Tryd.prog E glob 27 (junctionref14_Decimal_7.qent k).run := qent_ok encOk (callable_of Tryd.func27 (by kernel_rfl) (by kernel_rfl)) (junctionref14_Decimal_7.call k)
noncomputable def junctionref14_Decimal_8.c : Go.Code := match Tryd.f27.body with | some c => c | none => .skip
theorem junctionref14_Decimal_8.hb : Tryd.f27.body = some junctionref14_Decimal_8.c := by kernel_rfl
noncomputable def junctionref14_Decimal_8.x (k : Nat) (ls : List (LamS κ)) : Ctx κ := mkCtx [junctionref1_Text.ent k, junctionref14_Decimal_7.ent k] [junctionref1_Text.qent k, junctionref14_Decimal_7.qent k] ls
def junctionref14_Decimal_8.i : List (Pat κ) := [.int .i64]
def junctionref14_Decimal_8.s0 : Sh κ := ⟨0, [0], [.int .i64], []⟩
def junctionref14_Decimal_8.o0 : List (Ex × Sh κ) := [(.normal, ⟨0, [9], [.bool], []⟩)]
noncomputable def junctionref14_Decimal_8.l0 (k : Nat) (t0 : Int) : Option ((Bool × Unit) × Unit) :=
    if Decidable.decide (t0 ≥ (-2147483648 : Int)) = Bool.true then Option.some ((Decidable.decide (t0 ≤ (2147483647 : Int)), ()), ())
    else Option.some ((Bool.false, ()), ())
def junctionref14_Decimal_8.w0 : List Nat := [4, 5, 6, 7, 8, 9]
noncomputable def junctionref14_Decimal_8.e0 (k : Nat) : junctionref14_Decimal_8.s0.den → Option (OutT junctionref14_Decimal_8.o0) := fun d => junctionref14_Decimal_8.l0 k d.1.1
noncomputable def junctionref14_Decimal_8.m0 (k : Nat) : LamS κ := ⟨lamK 28 junctionref14_Decimal_8.w0 junctionref14_Decimal_8.s0 junctionref14_Decimal_8.o0 (junctionref14_Decimal_8.e0 k)⟩
def junctionref14_Decimal_8.s1 : Sh κ := ⟨0, [3], [.int .i64], []⟩
def junctionref14_Decimal_8.o1 : List (Ex × Sh κ) := [(.normal, ⟨0, [3], [.int .i64], []⟩)]
noncomputable def junctionref14_Decimal_8.l1 (k : Nat) (t3 : Int) : Option ((Int × Unit) × Unit) :=
    if Decidable.decide (t3 < (0 : Int)) = Bool.true then Option.some ((Go.IntKind.wrap Go.IntKind.i64 ((0 : Int) - t3), ()), ()) else Option.some ((t3, ()), ())
def junctionref14_Decimal_8.w1 : List Nat := [15, 16, 17, 18, 3]
noncomputable def junctionref14_Decimal_8.e1 (k : Nat) : junctionref14_Decimal_8.s1.den → Option (OutT junctionref14_Decimal_8.o1) := fun d => junctionref14_Decimal_8.l1 k d.1.1
noncomputable def junctionref14_Decimal_8.m1 (k : Nat) : LamS κ := ⟨lamK 28 junctionref14_Decimal_8.w1 junctionref14_Decimal_8.s1 junctionref14_Decimal_8.o1 (junctionref14_Decimal_8.e1 k)⟩
def junctionref14_Decimal_8.s2 : Sh κ := ⟨0, [0, 3], [.int .i64, .int .i64], []⟩
def junctionref14_Decimal_8.o2 : List (Ex × Sh κ) := [(.normal, ⟨0, [2], [.str], []⟩)]
noncomputable def junctionref14_Decimal_8.l2 (k : Nat) (t0 : Int) (t3 : Int) : Option ((ByteArray × Unit) × Unit) :=
    Option.bind (Go.Am.Tryd.junctionref14_Decimal_7 k (Go.Am.quo Go.IntKind.i64 t0 (10 : Int))) fun r0 =>
      Go.Am.tooLong
        (ByteArray.size (Prod.fst r0) +
          ByteArray.size (Go.strOfNums (List.map (fun x => x) [Go.IntKind.wrap Go.IntKind.u8 (Go.IntKind.wrap Go.IntKind.i64 ((48 : Int) + t3))])))
        (Option.some
          ((Prod.fst r0 ++ Go.strOfNums (List.map (fun x => x) [Go.IntKind.wrap Go.IntKind.u8 (Go.IntKind.wrap Go.IntKind.i64 ((48 : Int) + t3))]), ()), ()))
def junctionref14_Decimal_8.w2 : List Nat := [19, 20, 21, 22, 23, 24, 25, 26, 27, 2]
noncomputable def junctionref14_Decimal_8.e2 (k : Nat) : junctionref14_Decimal_8.s2.den → Option (OutT junctionref14_Decimal_8.o2) := fun d => junctionref14_Decimal_8.l2 k d.1.1 d.1.2.1
noncomputable def junctionref14_Decimal_8.m2 (k : Nat) : LamS κ := ⟨lamK 28 junctionref14_Decimal_8.w2 junctionref14_Decimal_8.s2 junctionref14_Decimal_8.o2 (junctionref14_Decimal_8.e2 k)⟩
def junctionref14_Decimal_8.t2 : Sched := (.take 0 (.take 1 (.take 3 (.take 4 (.take 5 (.all (.cons 2 (.all (.cons 6 (.all (.cons 7 (.take 8 (.take 9 .done)) .nil)) .nil)) (.cons 6 (.all (.cons 2 (.all (.cons 7 (.take 8 (.take 9 .done)) .nil)) (.cons 7 (.all (.cons 2 (.take 8 (.take 9 .done)) .nil)) .nil))) .nil))))))))
noncomputable def junctionref14_Decimal_8.p2 (k : Nat) (t0 : Int) (t3 : Int) (o : (ByteArray × Unit) × Unit) : Prop :=
    Go.Am.holds
        (Option.bind (Go.Am.Tryd.junctionref14_Decimal_7 k (Go.Am.quo Go.IntKind.i64 t0 (10 : Int))) fun r2 =>
          Option.some
            ((Go.Am.holds
                  (Go.Am.tooLong
                    (ByteArray.size (Prod.fst r2) +
                      ByteArray.size (Go.strOfNums (List.map (fun x => x) [Go.IntKind.wrap Go.IntKind.u8 (Go.IntKind.wrap Go.IntKind.i64 ((48 : Int) + t3))])))
                    (Option.some
                      (Option.some
                          ((Prod.fst r2 ++ Go.strOfNums (List.map (fun x => x) [Go.IntKind.wrap Go.IntKind.u8 (Go.IntKind.wrap Go.IntKind.i64 ((48 : Int) + t3))]),
                              ()),
                            ()) =
                        Option.some o))) ∧
                True) ∧
              True)) ∧
      (Go.Am.holds
            (Option.bind (Go.Am.Tryd.junctionref14_Decimal_7 k (Go.Am.quo Go.IntKind.i64 t0 (10 : Int))) fun r1 =>
              Option.some
                (Go.Am.holds
                    (Go.Am.tooLong
                      (ByteArray.size (Prod.fst r1) +
                        ByteArray.size (Go.strOfNums (List.map (fun x => x) [Go.IntKind.wrap Go.IntKind.u8 (Go.IntKind.wrap Go.IntKind.i64 ((48 : Int) + t3))])))
                      (Option.some
                        (Option.some
                            ((Prod.fst r1 ++
                                  Go.strOfNums (List.map (fun x => x) [Go.IntKind.wrap Go.IntKind.u8 (Go.IntKind.wrap Go.IntKind.i64 ((48 : Int) + t3))]),
                                ()),
                              ()) =
                          Option.some o))) ∧
                  True)) ∧
          (Go.Am.holds
                (Option.bind (Go.Am.Tryd.junctionref14_Decimal_7 k (Go.Am.quo Go.IntKind.i64 t0 (10 : Int))) fun r0 =>
                  Option.some
                    (Go.Am.holds
                      (Go.Am.tooLong
                        (ByteArray.size (Prod.fst r0) +
                          ByteArray.size (Go.strOfNums (List.map (fun x => x) [Go.IntKind.wrap Go.IntKind.u8 (Go.IntKind.wrap Go.IntKind.i64 ((48 : Int) + t3))])))
                        (Option.some
                          (Option.some
                              ((Prod.fst r0 ++
                                    Go.strOfNums (List.map (fun x => x) [Go.IntKind.wrap Go.IntKind.u8 (Go.IntKind.wrap Go.IntKind.i64 ((48 : Int) + t3))]),
                                  ()),
                                ()) =
                            Option.some o))))) ∧
              True) ∧
            True) ∧
        True
theorem junctionref14_Decimal_8.q2 (k : Nat) (t0 : Int) (t3 : Int) (o : (ByteArray × Unit) × Unit) (h : junctionref14_Decimal_8.l2 k t0 t3 = some o) : junctionref14_Decimal_8.p2 k t0 t3 o := by
  unfold junctionref14_Decimal_8.l2 at h
  unfold junctionref14_Decimal_8.p2
  repeat' (first | split at h | (rw [Option.bind_eq_some_iff] at h; obtain ⟨_, _, h⟩ := h) | (rw [room_some] at h; obtain ⟨_, h⟩ := h) | (rw [tooLong_some] at h; obtain ⟨_, h⟩ := h))
  all_goals first | (cases h; done) | (cases h; simp only [Option.bind_some, room_pos, tooLong_pos, if_true, and_self, and_true, not_false_eq_true, holds, *]; done) | (cases h; simp [holds, room_pos, tooLong_pos, *])
def junctionref14_Decimal_8.p : Pat κ := .str
def junctionref14_Decimal_8.b : List (BPat κ) := []
noncomputable def junctionref14_Decimal_8 (k : Nat) (t0 : Int) : Option (ByteArray × Unit) :=
    Option.bind (Go.Am.Tryd.junctionref14_Decimal_8.l0 k t0) fun r0 =>
      if Prod.fst (Prod.fst r0) = Bool.true then
        Option.bind (Go.Am.Tryd.junctionref1_Text k (Go.IntKind.wrap Go.IntKind.i32 t0)) fun r1 => Option.some (Prod.fst r1, ())
      else
        Option.bind (Go.Am.Tryd.junctionref14_Decimal_8.l1 k (Go.Am.rem t0 (10 : Int))) fun r2 =>
          Option.bind (Go.Am.Tryd.junctionref14_Decimal_8.l2 k t0 (Prod.fst (Prod.fst r2))) fun r3 => Option.some (Prod.fst (Prod.fst r3), ())
noncomputable def junctionref14_Decimal_8.f (k : Nat) : dens junctionref14_Decimal_8.i → Option (junctionref14_Decimal_8.p.den × densB junctionref14_Decimal_8.b) := fun d => junctionref14_Decimal_8 k d.1
noncomputable def junctionref14_Decimal_8.ctx (k : Nat) : Ctx κ := junctionref14_Decimal_8.x k [junctionref14_Decimal_8.m0 k, junctionref14_Decimal_8.m1 k, junctionref14_Decimal_8.m2 k]
theorem junctionref14_Decimal_8.xOk (k : Nat) : (junctionref14_Decimal_8.ctx k).Ok := ctxOk ⟨junctionref1_Text.entOk k, junctionref14_Decimal_7.entOk k, trivial⟩ ⟨junctionref1_Text.qentOk k, junctionref14_Decimal_7.qentOk k, trivial⟩
theorem junctionref14_Decimal_8.k0 (k : Nat) : LamOk (junctionref14_Decimal_8.ctx k) ((junctionref14_Decimal_8.ctx k).Λ 0) (sub [1, 0, 0] junctionref14_Decimal_8.c) :=
  cut_ok (kindOf := kindOf) (C := junctionref14_Decimal_8.ctx k) (n := .none) (L := junctionref14_Decimal_8.e0 k) (junctionref14_Decimal_8.xOk k) (by kernel_rfl) (by kernel_rfl) (fits_of (l := []) (by kernel_rfl) trivial) (fun _ => by kernel_rfl)
theorem junctionref14_Decimal_8.k1 (k : Nat) : LamOk (junctionref14_Decimal_8.ctx k) ((junctionref14_Decimal_8.ctx k).Λ 1) (sub [1, 1, 1, 0] junctionref14_Decimal_8.c) :=
  cut_ok (kindOf := kindOf) (C := junctionref14_Decimal_8.ctx k) (n := .none) (L := junctionref14_Decimal_8.e1 k) (junctionref14_Decimal_8.xOk k) (by kernel_rfl) (by kernel_rfl) (fits_of (l := []) (by kernel_rfl) trivial) (fun _ => by kernel_rfl)
theorem junctionref14_Decimal_8.k2 (k : Nat) : LamOk (junctionref14_Decimal_8.ctx k) ((junctionref14_Decimal_8.ctx k).Λ 2) (sub [1, 1, 1, 1, 0] junctionref14_Decimal_8.c) :=
  tree_ok (kindOf := kindOf) (C := junctionref14_Decimal_8.ctx k) (L := junctionref14_Decimal_8.e2 k) (tr := junctionref14_Decimal_8.t2) (junctionref14_Decimal_8.xOk k) (by kernel_rfl) (by kernel_rfl) (by kernel_rfl) (by kernel_rfl) fun d o h => (show runs (junctionref14_Decimal_8.ctx k) kindOf _ junctionref14_Decimal_8.t2 _ _ = junctionref14_Decimal_8.p2 k d.1.1 d.1.2.1 o by kernel_rfl).mpr (junctionref14_Decimal_8.q2 k d.1.1 d.1.2.1 o (by unfold junctionref14_Decimal_8.e2 at h; exact h))
theorem junctionref14_Decimal_8.call (k : Nat) : CallV Tryd.prog E glob 27 junctionref14_Decimal_8.i junctionref14_Decimal_8.p junctionref14_Decimal_8.b (junctionref14_Decimal_8.f k) :=
  fn_okZ (kindOf := kindOf) (C := junctionref14_Decimal_8.ctx k) (n := (.pair .none (.pair (.pair (.cut 0) .none) (.pair .none (.pair (.cut 1) (.pair (.cut 2) .none)))))) (junctionref14_Decimal_8.xOk k) Tryd.func27 junctionref14_Decimal_8.hb (fits_of (l := [(0, (sub [1, 0, 0] junctionref14_Decimal_8.c)), (1, (sub [1, 1, 1, 0] junctionref14_Decimal_8.c)), (2, (sub [1, 1, 1, 1, 0] junctionref14_Decimal_8.c))]) (by kernel_rfl) ⟨junctionref14_Decimal_8.k0 k, junctionref14_Decimal_8.k1 k, junctionref14_Decimal_8.k2 k, trivial⟩) (fun _ => by kernel_rfl)
noncomputable def junctionref14_Decimal_8.ent (k : Nat) : EntS κ := ⟨27, [], entOf junctionref14_Decimal_8.i junctionref14_Decimal_8.p junctionref14_Decimal_8.b true (junctionref14_Decimal_8.f k) E⟩
theorem junctionref14_Decimal_8.entOk (k : Nat) : EntOk Tryd.prog E glob 27 (junctionref14_Decimal_8.ent k).run := ent_free encOk (callable_of Tryd.func27 (by kernel_rfl) (by kernel_rfl)) (by rfl) trivial (junctionref14_Decimal_8.call k)
noncomputable def junctionref14_Decimal_8.qent (k : Nat) : QEntS κ := ⟨27, qentOf junctionref14_Decimal_8.i junctionref14_Decimal_8.p (junctionref14_Decimal_8.f k) E⟩
theorem junctionref14_Decimal_8.qentOk (k : Nat) : QEntOk Tryd.prog E glob 27 (junctionref14_Decimal_8.qent k).run := qent_ok encOk (callable_of Tryd.func27 (by kernel_rfl) (by kernel_rfl)) (junctionref14_Decimal_8.call k)
noncomputable def junctionref14_Decimal_9.c : Go.Code := match Tryd.f27.body with | some c => c | none => .skip
theorem junctionref14_Decimal_9.hb : Tryd.f27.body = some junctionref14_Decimal_9.c := by kernel_rfl
noncomputable def junctionref14_Decimal_9.x (k : Nat) (ls : List (LamS κ)) : Ctx κ := mkCtx [junctionref1_Text.ent k, junctionref14_Decimal_8.ent k] [junctionref1_Text.qent k, junctionref14_Decimal_8.qent k] ls
def junctionref14_Decimal_9.i : List (Pat κ) := [.int .i64]
def junctionref14_Decimal_9.s0 : Sh κ := ⟨0, [0], [.int .i64], []⟩
def junctionref14_Decimal_9.o0 : List (Ex × Sh κ) := [(.normal, ⟨0, [9], [.bool], []⟩)]
noncomputable def junctionref14_Decimal_9.l0 (k : Nat) (t0 : Int) : Option ((Bool × Unit) × Unit) :=
    if Decidable.decide (t0 ≥ (-2147483648 : Int)) = Bool.true then Option.some ((Decidable.decide (t0 ≤ (2147483647 : Int)), ()), ())
    else Option.some ((Bool.false, ()), ())
def junctionref14_Decimal_9.w0 : List Nat := [4, 5, 6, 7, 8, 9]
noncomputable def junctionref14_Decimal_9.e0 (k : Nat) : junctionref14_Decimal_9.s0.den → Option (OutT junctionref14_Decimal_9.o0) := fun d => junctionref14_Decimal_9.l0 k d.1.1
noncomputable def junctionref14_Decimal_9.m0 (k : Nat) : LamS κ := ⟨lamK 28 junctionref14_Decimal_9.w0 junctionref14_Decimal_9.s0 junctionref14_Decimal_9.o0 (junctionref14_Decimal_9.e0 k)⟩
def junctionref14_Decimal_9.s1 : Sh κ := ⟨0, [3], [.int .i64], []⟩
def junctionref14_Decimal_9.o1 : List (Ex × Sh κ) := [(.normal, ⟨0, [3], [.int .i64], []⟩)]
noncomputable def junctionref14_Decimal_9.l1 (k : Nat) (t3 : Int) : Option ((Int × Unit) × Unit) :=
    if Decidable.decide (t3 < (0 : Int)) = Bool.true then Option.some ((Go.IntKind.wrap Go.IntKind.i64 ((0 : Int) - t3), ()), ()) else Option.some ((t3, ()), ())
def junctionref14_Decimal_9.w1 : List Nat := [15, 16, 17, 18, 3]
noncomputable def junctionref14_Decimal_9.e1 (k : Nat) : junctionref14_Decimal_9.s1.den → Option (OutT junctionref14_Decimal_9.o1) := fun d => junctionref14_Decimal_9.l1 k d.1.1
noncomputable def junctionref14_Decimal_9.m1 (k : Nat) : LamS κ := ⟨lamK 28 junctionref14_Decimal_9.w1 junctionref14_Decimal_9.s1 junctionref14_Decimal_9.o1 (junctionref14_Decimal_9.e1 k)⟩
def junctionref14_Decimal_9.s2 : Sh κ := ⟨0, [0, 3], [.int .i64, .int .i64], []⟩
def junctionref14_Decimal_9.o2 : List (Ex × Sh κ) := [(.normal, ⟨0, [2], [.str], []⟩)]
noncomputable def junctionref14_Decimal_9.l2 (k : Nat) (t0 : Int) (t3 : Int) : Option ((ByteArray × Unit) × Unit) :=
    Option.bind (Go.Am.Tryd.junctionref14_Decimal_8 k (Go.Am.quo Go.IntKind.i64 t0 (10 : Int))) fun r0 =>
      Go.Am.tooLong
        (ByteArray.size (Prod.fst r0) +
          ByteArray.size (Go.strOfNums (List.map (fun x => x) [Go.IntKind.wrap Go.IntKind.u8 (Go.IntKind.wrap Go.IntKind.i64 ((48 : Int) + t3))])))
        (Option.some
          ((Prod.fst r0 ++ Go.strOfNums (List.map (fun x => x) [Go.IntKind.wrap Go.IntKind.u8 (Go.IntKind.wrap Go.IntKind.i64 ((48 : Int) + t3))]), ()), ()))
def junctionref14_Decimal_9.w2 : List Nat := [19, 20, 21, 22, 23, 24, 25, 26, 27, 2]
noncomputable def junctionref14_Decimal_9.e2 (k : Nat) : junctionref14_Decimal_9.s2.den → Option (OutT junctionref14_Decimal_9.o2) := fun d => junctionref14_Decimal_9.l2 k d.1.1 d.1.2.1
noncomputable def junctionref14_Decimal_9.m2 (k : Nat) : LamS κ := ⟨lamK 28 junctionref14_Decimal_9.w2 junctionref14_Decimal_9.s2 junctionref14_Decimal_9.o2 (junctionref14_Decimal_9.e2 k)⟩
def junctionref14_Decimal_9.t2 : Sched := (.take 0 (.take 1 (.take 3 (.take 4 (.take 5 (.all (.cons 2 (.all (.cons 6 (.all (.cons 7 (.take 8 (.take 9 .done)) .nil)) .nil)) (.cons 6 (.all (.cons 2 (.all (.cons 7 (.take 8 (.take 9 .done)) .nil)) (.cons 7 (.all (.cons 2 (.take 8 (.take 9 .done)) .nil)) .nil))) .nil))))))))
noncomputable def junctionref14_Decimal_9.p2 (k : Nat) (t0 : Int) (t3 : Int) (o : (ByteArray × Unit) × Unit) : Prop :=
    Go.Am.holds
        (Option.bind (Go.Am.Tryd.junctionref14_Decimal_8 k (Go.Am.quo Go.IntKind.i64 t0 (10 : Int))) fun r2 =>
          Option.some
            ((Go.Am.holds
                  (Go.Am.tooLong
                    (ByteArray.size (Prod.fst r2) +
                      ByteArray.size (Go.strOfNums (List.map (fun x => x) [Go.IntKind.wrap Go.IntKind.u8 (Go.IntKind.wrap Go.IntKind.i64 ((48 : Int) + t3))])))
                    (Option.some
                      (Option.some
                          ((Prod.fst r2 ++ Go.strOfNums (List.map (fun x => x) [Go.IntKind.wrap Go.IntKind.u8 (Go.IntKind.wrap Go.IntKind.i64 ((48 : Int) + t3))]),
                              ()),
                            ()) =
                        Option.some o))) ∧
                True) ∧
              True)) ∧
      (Go.Am.holds
            (Option.bind (Go.Am.Tryd.junctionref14_Decimal_8 k (Go.Am.quo Go.IntKind.i64 t0 (10 : Int))) fun r1 =>
              Option.some
                (Go.Am.holds
                    (Go.Am.tooLong
                      (ByteArray.size (Prod.fst r1) +
                        ByteArray.size (Go.strOfNums (List.map (fun x => x) [Go.IntKind.wrap Go.IntKind.u8 (Go.IntKind.wrap Go.IntKind.i64 ((48 : Int) + t3))])))
                      (Option.some
                        (Option.some
                            ((Prod.fst r1 ++
                                  Go.strOfNums (List.map (fun x => x) [Go.IntKind.wrap Go.IntKind.u8 (Go.IntKind.wrap Go.IntKind.i64 ((48 : Int) + t3))]),
                                ()),
                              ()) =
                          Option.some o))) ∧
                  True)) ∧
          (Go.Am.holds
                (Option.bind (Go.Am.Tryd.junctionref14_Decimal_8 k (Go.Am.quo Go.IntKind.i64 t0 (10 : Int))) fun r0 =>
                  Option.some
                    (Go.Am.holds
                      (Go.Am.tooLong
                        (ByteArray.size (Prod.fst r0) +
                          ByteArray.size (Go.strOfNums (List.map (fun x => x) [Go.IntKind.wrap Go.IntKind.u8 (Go.IntKind.wrap Go.IntKind.i64 ((48 : Int) + t3))])))
                        (Option.some
                          (Option.some
                              ((Prod.fst r0 ++
                                    Go.strOfNums (List.map (fun x => x) [Go.IntKind.wrap Go.IntKind.u8 (Go.IntKind.wrap Go.IntKind.i64 ((48 : Int) + t3))]),
                                  ()),
                                ()) =
                            Option.some o))))) ∧
              True) ∧
            True) ∧
        True
theorem junctionref14_Decimal_9.q2 (k : Nat) (t0 : Int) (t3 : Int) (o : (ByteArray × Unit) × Unit) (h : junctionref14_Decimal_9.l2 k t0 t3 = some o) : junctionref14_Decimal_9.p2 k t0 t3 o := by
  unfold junctionref14_Decimal_9.l2 at h
  unfold junctionref14_Decimal_9.p2
  repeat' (first | split at h | (rw [Option.bind_eq_some_iff] at h; obtain ⟨_, _, h⟩ := h) | (rw [room_some] at h; obtain ⟨_, h⟩ := h) | (rw [tooLong_some] at h; obtain ⟨_, h⟩ := h))
  all_goals first | (cases h; done) | (cases h; simp only [Option.bind_some, room_pos, tooLong_pos, if_true, and_self, and_true, not_false_eq_true, holds, *]; done) | (cases h; simp [holds, room_pos, tooLong_pos, *])
def junctionref14_Decimal_9.p : Pat κ := .str
def junctionref14_Decimal_9.b : List (BPat κ) := []
noncomputable def junctionref14_Decimal_9 (k : Nat) (t0 : Int) : Option (ByteArray × Unit) :=
    Option.bind (Go.Am.Tryd.junctionref14_Decimal_9.l0 k t0) fun r0 =>
      if Prod.fst (Prod.fst r0) = Bool.true then
        Option.bind (Go.Am.Tryd.junctionref1_Text k (Go.IntKind.wrap Go.IntKind.i32 t0)) fun r1 => Option.some (Prod.fst r1, ())
      else
        Option.bind (Go.Am.Tryd.junctionref14_Decimal_9.l1 k (Go.Am.rem t0 (10 : Int))) fun r2 =>
          Option.bind (Go.Am.Tryd.junctionref14_Decimal_9.l2 k t0 (Prod.fst (Prod.fst r2))) fun r3 => Option.some (Prod.fst (Prod.fst r3), ())
noncomputable def junctionref14_Decimal_9.f (k : Nat) : dens junctionref14_Decimal_9.i → Option (junctionref14_Decimal_9.p.den × densB junctionref14_Decimal_9.b) := fun d => junctionref14_Decimal_9 k d.1
noncomputable def junctionref14_Decimal_9.ctx (k : Nat) : Ctx κ := junctionref14_Decimal_9.x k [junctionref14_Decimal_9.m0 k, junctionref14_Decimal_9.m1 k, junctionref14_Decimal_9.m2 k]
theorem junctionref14_Decimal_9.xOk (k : Nat) : (junctionref14_Decimal_9.ctx k).Ok := ctxOk ⟨junctionref1_Text.entOk k, junctionref14_Decimal_8.entOk k, trivial⟩ ⟨junctionref1_Text.qentOk k, junctionref14_Decimal_8.qentOk k, trivial⟩
theorem junctionref14_Decimal_9.k0 (k : Nat) : LamOk (junctionref14_Decimal_9.ctx k) ((junctionref14_Decimal_9.ctx k).Λ 0) (sub [1, 0, 0] junctionref14_Decimal_9.c) :=
  cut_ok (kindOf := kindOf) (C := junctionref14_Decimal_9.ctx k) (n := .none) (L := junctionref14_Decimal_9.e0 k) (junctionref14_Decimal_9.xOk k) (by kernel_rfl) (by kernel_rfl) (fits_of (l := []) (by kernel_rfl) trivial) (fun _ => by kernel_rfl)
theorem junctionref14_Decimal_9.k1 (k : Nat) : LamOk (junctionref14_Decimal_9.ctx k) ((junctionref14_Decimal_9.ctx k).Λ 1) (sub [1, 1, 1, 0] junctionref14_Decimal_9.c) :=
  cut_ok (kindOf := kindOf) (C := junctionref14_Decimal_9.ctx k) (n := .none) (L := junctionref14_Decimal_9.e1 k) (junctionref14_Decimal_9.xOk k) (by kernel_rfl) (by kernel_rfl) (fits_of (l := []) (by kernel_rfl) trivial) (fun _ => by kernel_rfl)
theorem junctionref14_Decimal_9.k2 (k : Nat) : LamOk (junctionref14_Decimal_9.ctx k) ((junctionref14_Decimal_9.ctx k).Λ 2) (sub [1, 1, 1, 1, 0] junctionref14_Decimal_9.c) :=
  tree_ok (kindOf := kindOf) (C := junctionref14_Decimal_9.ctx k) (L := junctionref14_Decimal_9.e2 k) (tr := junctionref14_Decimal_9.t2) (junctionref14_Decimal_9.xOk k) (by kernel_rfl) (by kernel_rfl) (by kernel_rfl) (by kernel_rfl) fun d o h => (show runs (junctionref14_Decimal_9.ctx k) kindOf _ junctionref14_Decimal_9.t2 _ _ = junctionref14_Decimal_9.p2 k d.1.1 d.1.2.1 o by kernel_rfl).mpr (junctionref14_Decimal_9.q2 k d.1.1 d.1.2.1 o (by unfold junctionref14_Decimal_9.e2 at h; exact h))
theorem junctionref14_Decimal_9.call (k : Nat) : CallV Tryd.prog E glob 27 junctionref14_Decimal_9.i junctionref14_Decimal_9.p junctionref14_Decimal_9.b (junctionref14_Decimal_9.f k) :=
  fn_okZ (kindOf := kindOf) (C := junctionref14_Decimal_9.ctx k) (n := (.pair .none (.pair (.pair (.cut 0) .none) (.pair .none (.pair (.cut 1) (.pair (.cut 2) .none)))))) (junctionref14_Decimal_9.xOk k) Tryd.func27 junctionref14_Decimal_9.hb (fits_of (l := [(0, (sub [1, 0, 0] junctionref14_Decimal_9.c)), (1, (sub [1, 1, 1, 0] junctionref14_Decimal_9.c)), (2, (sub [1, 1, 1, 1, 0] junctionref14_Decimal_9.c))]) (by kernel_rfl) ⟨junctionref14_Decimal_9.k0 k, junctionref14_Decimal_9.k1 k, junctionref14_Decimal_9.k2 k, trivial⟩) (fun _ => by kernel_rfl)
noncomputable def junctionref14_Decimal_9.ent (k : Nat) : EntS κ := ⟨27, [], entOf junctionref14_Decimal_9.i junctionref14_Decimal_9.p junctionref14_Decimal_9.b true (junctionref14_Decimal_9.f k) E⟩
theorem junctionref14_Decimal_9.entOk (k : Nat) : EntOk Tryd.prog E glob 27 (junctionref14_Decimal_9.ent k).run := ent_free encOk (callable_of Tryd.func27 (by kernel_rfl) (by kernel_rfl)) (by rfl) trivial (junctionref14_Decimal_9.call k)
noncomputable def junctionref14_Decimal_9.qent (k : Nat) : QEntS κ := ⟨27, qentOf junctionref14_Decimal_9.i junctionref14_Decimal_9.p (junctionref14_Decimal_9.f k) E⟩
theorem junctionref14_Decimal_9.qentOk (k : Nat) : QEntOk Tryd.prog E glob 27 (junctionref14_Decimal_9.qent k).run := qent_ok encOk (callable_of Tryd.func27 (by kernel_rfl) (by kernel_rfl)) (junctionref14_Decimal_9.call k)
noncomputable def junctionref14_Decimal_10.c : Go.Code := match Tryd.f27.body with | some c => c | none => .skip
theorem junctionref14_Decimal_10.hb : Tryd.f27.body = some junctionref14_Decimal_10.c := by kernel_rfl
noncomputable def junctionref14_Decimal_10.x (k : Nat) (ls : List (LamS κ)) : Ctx κ := mkCtx [junctionref1_Text.ent k, junctionref14_Decimal_9.ent k] [junctionref1_Text.qent k, junctionref14_Decimal_9.qent k] ls
def junctionref14_Decimal_10.i : List (Pat κ) := [.int .i64]
def junctionref14_Decimal_10.s0 : Sh κ := ⟨0, [0], [.int .i64], []⟩
def junctionref14_Decimal_10.o0 : List (Ex × Sh κ) := [(.normal, ⟨0, [9], [.bool], []⟩)]
noncomputable def junctionref14_Decimal_10.l0 (k : Nat) (t0 : Int) : Option ((Bool × Unit) × Unit) :=
    if Decidable.decide (t0 ≥ (-2147483648 : Int)) = Bool.true then Option.some ((Decidable.decide (t0 ≤ (2147483647 : Int)), ()), ())
    else Option.some ((Bool.false, ()), ())
def junctionref14_Decimal_10.w0 : List Nat := [4, 5, 6, 7, 8, 9]
noncomputable def junctionref14_Decimal_10.e0 (k : Nat) : junctionref14_Decimal_10.s0.den → Option (OutT junctionref14_Decimal_10.o0) := fun d => junctionref14_Decimal_10.l0 k d.1.1
noncomputable def junctionref14_Decimal_10.m0 (k : Nat) : LamS κ := ⟨lamK 28 junctionref14_Decimal_10.w0 junctionref14_Decimal_10.s0 junctionref14_Decimal_10.o0 (junctionref14_Decimal_10.e0 k)⟩
def junctionref14_Decimal_10.s1 : Sh κ := ⟨0, [3], [.int .i64], []⟩
def junctionref14_Decimal_10.o1 : List (Ex × Sh κ) := [(.normal, ⟨0, [3], [.int .i64], []⟩)]
noncomputable def junctionref14_Decimal_10.l1 (k : Nat) (t3 : Int) : Option ((Int × Unit) × Unit) :=
    if Decidable.decide (t3 < (0 : Int)) = Bool.true then Option.some ((Go.IntKind.wrap Go.IntKind.i64 ((0 : Int) - t3), ()), ()) else Option.some ((t3, ()), ())
def junctionref14_Decimal_10.w1 : List Nat := [15, 16, 17, 18, 3]
noncomputable def junctionref14_Decimal_10.e1 (k : Nat) : junctionref14_Decimal_10.s1.den → Option (OutT junctionref14_Decimal_10.o1) := fun d => junctionref14_Decimal_10.l1 k d.1.1
noncomputable def junctionref14_Decimal_10.m1 (k : Nat) : LamS κ := ⟨lamK 28 junctionref14_Decimal_10.w1 junctionref14_Decimal_10.s1 junctionref14_Decimal_10.o1 (junctionref14_Decimal_10.e1 k)⟩
def junctionref14_Decimal_10.s2 : Sh κ := ⟨0, [0, 3], [.int .i64, .int .i64], []⟩
def junctionref14_Decimal_10.o2 : List (Ex × Sh κ) := [(.normal, ⟨0, [2], [.str], []⟩)]
noncomputable def junctionref14_Decimal_10.l2 (k : Nat) (t0 : Int) (t3 : Int) : Option ((ByteArray × Unit) × Unit) :=
    Option.bind (Go.Am.Tryd.junctionref14_Decimal_9 k (Go.Am.quo Go.IntKind.i64 t0 (10 : Int))) fun r0 =>
      Go.Am.tooLong
        (ByteArray.size (Prod.fst r0) +
          ByteArray.size (Go.strOfNums (List.map (fun x => x) [Go.IntKind.wrap Go.IntKind.u8 (Go.IntKind.wrap Go.IntKind.i64 ((48 : Int) + t3))])))
        (Option.some
          ((Prod.fst r0 ++ Go.strOfNums (List.map (fun x => x) [Go.IntKind.wrap Go.IntKind.u8 (Go.IntKind.wrap Go.IntKind.i64 ((48 : Int) + t3))]), ()), ()))
def junctionref14_Decimal_10.w2 : List Nat := [19, 20, 21, 22, 23, 24, 25, 26, 27, 2]
noncomputable def junctionref14_Decimal_10.e2 (k : Nat) : junctionref14_Decimal_10.s2.den → Option (OutT junctionref14_Decimal_10.o2) := fun d => junctionref14_Decimal_10.l2 k d.1.1 d.1.2.1
noncomputable def junctionref14_Decimal_10.m2 (k : Nat) : LamS κ := ⟨lamK 28 junctionref14_Decimal_10.w2 junctionref14_Decimal_10.s2 junctionref14_Decimal_10.o2 (junctionref14_Decimal_10.e2 k)⟩
def junctionref14_Decimal_10.t2 : Sched := (.take 0 (.take 1 (.take 3 (.take 4 (.take 5 (.all (.cons 2 (.all (.cons 6 (.all (.cons 7 (.take 8 (.take 9 .done)) .nil)) .nil)) (.cons 6 (.all (.cons 2 (.all (.cons 7 (.take 8 (.take 9 .done)) .nil)) (.cons 7 (.all (.cons 2 (.take 8 (.take 9 .done)) .nil)) .nil))) .nil))))))))
noncomputable def junctionref14_Decimal_10.p2 (k : Nat) (t0 : Int) (t3 : Int) (o : (ByteArray × Unit) × Unit) : Prop :=
    Go.Am.holds
        (Option.bind (Go.Am.Tryd.junctionref14_Decimal_9 k (Go.Am.quo Go.IntKind.i64 t0 (10 : Int))) fun r2 =>
          Option.some
            ((Go.Am.holds
                  (Go.Am.tooLong
                    (ByteArray.size (Prod.fst r2) +
                      ByteArray.size (Go.strOfNums (List.map (fun x => x) [Go.IntKind.wrap Go.IntKind.u8 (Go.IntKind.wrap Go.IntKind.i64 ((48 : Int) + t3))])))
                    (Option.some
                      (Option.some
                          ((Prod.fst r2 ++ Go.strOfNums (List.map (fun x => x) [Go.IntKind.wrap Go.IntKind.u8 (Go.IntKind.wrap Go.IntKind.i64 ((48 : Int) + t3))]),
                              ()),
                            ()) =
                        Option.some o))) ∧
                True) ∧
              True)) ∧
      (Go.Am.holds
            (Option.bind (Go.Am.Tryd.junctionref14_Decimal_9 k (Go.Am.quo Go.IntKind.i64 t0 (10 : Int))) fun r1 =>
              Option.some
                (Go.Am.holds
                    (Go.Am.tooLong
                      (ByteArray.size (Prod.fst r1) +
                        ByteArray.size (Go.strOfNums (List.map (fun x => x) [Go.IntKind.wrap Go.IntKind.u8 (Go.IntKind.wrap Go.IntKind.i64 ((48 : Int) + t3))])))
                      (Option.some
                        (Option.some
                            ((Prod.fst r1 ++
                                  Go.strOfNums (List.map (fun x => x) [Go.IntKind.wrap Go.IntKind.u8 (Go.IntKind.wrap Go.IntKind.i64 ((48 : Int) + t3))]),
                                ()),
                              ()) =
                          Option.some o))) ∧
                  True)) ∧
          (Go.Am.holds
                (Option.bind (Go.Am.Tryd.junctionref14_Decimal_9 k (Go.Am.quo Go.IntKind.i64 t0 (10 : Int))) fun r0 =>
                  Option.some
                    (Go.Am.holds
                      (Go.Am.tooLong
                        (ByteArray.size (Prod.fst r0) +
                          ByteArray.size (Go.strOfNums (List.map (fun x => x) [Go.IntKind.wrap Go.IntKind.u8 (Go.IntKind.wrap Go.IntKind.i64 ((48 : Int) + t3))])))
                        (Option.some
                          (Option.some
                              ((Prod.fst r0 ++
                                    Go.strOfNums (List.map (fun x => x) [Go.IntKind.wrap Go.IntKind.u8 (Go.IntKind.wrap Go.IntKind.i64 ((48 : Int) + t3))]),
                                  ()),
                                ()) =
                            Option.some o))))) ∧
              True) ∧
            True) ∧
        True
theorem junctionref14_Decimal_10.q2 (k : Nat) (t0 : Int) (t3 : Int) (o : (ByteArray × Unit) × Unit) (h : junctionref14_Decimal_10.l2 k t0 t3 = some o) : junctionref14_Decimal_10.p2 k t0 t3 o := by
  unfold junctionref14_Decimal_10.l2 at h
  unfold junctionref14_Decimal_10.p2
  repeat' (first | split at h | (rw [Option.bind_eq_some_iff] at h; obtain ⟨_, _, h⟩ := h) | (rw [room_some] at h; obtain ⟨_, h⟩ := h) | (rw [tooLong_some] at h; obtain ⟨_, h⟩ := h))
  all_goals first | (cases h; done) | (cases h; simp only [Option.bind_some, room_pos, tooLong_pos, if_true, and_self, and_true, not_false_eq_true, holds, *]; done) | (cases h; simp [holds, room_pos, tooLong_pos, *])
def junctionref14_Decimal_10.p : Pat κ := .str
def junctionref14_Decimal_10.b : List (BPat κ) := []
noncomputable def junctionref14_Decimal_10 (k : Nat) (t0 : Int) : Option (ByteArray × Unit) :=
    Option.bind (Go.Am.Tryd.junctionref14_Decimal_10.l0 k t0) fun r0 =>
      if Prod.fst (Prod.fst r0) = Bool.true then
        Option.bind (Go.Am.Tryd.junctionref1_Text k (Go.IntKind.wrap Go.IntKind.i32 t0)) fun r1 => Option.some (Prod.fst r1, ())
      else
        Option.bind (Go.Am.Tryd.junctionref14_Decimal_10.l1 k (Go.Am.rem t0 (10 : Int))) fun r2 =>
          Option.bind (Go.Am.Tryd.junctionref14_Decimal_10.l2 k t0 (Prod.fst (Prod.fst r2))) fun r3 => Option.some (Prod.fst (Prod.fst r3), ())
noncomputable def junctionref14_Decimal_10.f (k : Nat) : dens junctionref14_Decimal_10.i → Option (junctionref14_Decimal_10.p.den × densB junctionref14_Decimal_10.b) := fun d => junctionref14_Decimal_10 k d.1
noncomputable def junctionref14_Decimal_10.ctx (k : Nat) : Ctx κ := junctionref14_Decimal_10.x k [junctionref14_Decimal_10.m0 k, junctionref14_Decimal_10.m1 k, junctionref14_Decimal_10.m2 k]
theorem junctionref14_Decimal_10.xOk (k : Nat) : (junctionref14_Decimal_10.ctx k).Ok := ctxOk ⟨junctionref1_Text.entOk k, junctionref14_Decimal_9.entOk k, trivial⟩ ⟨junctionref1_Text.qentOk k, junctionref14_Decimal_9.qentOk k, trivial⟩
theorem junctionref14_Decimal_10.k0 (k : Nat) : LamOk (junctionref14_Decimal_10.ctx k) ((junctionref14_Decimal_10.ctx k).Λ 0) (sub [1, 0, 0] junctionref14_Decimal_10.c) :=
  cut_ok (kindOf := kindOf) (C := junctionref14_Decimal_10.ctx k) (n := .none) (L := junctionref14_Decimal_10.e0 k) (junctionref14_Decimal_10.xOk k) (by kernel_rfl) (by kernel_rfl) (fits_of (l := []) (by kernel_rfl) trivial) (fun _ => by kernel_rfl)
theorem junctionref14_Decimal_10.k1 (k : Nat) : LamOk (junctionref14_Decimal_10.ctx k) ((junctionref14_Decimal_10.ctx k).Λ 1) (sub [1, 1, 1, 0] junctionref14_Decimal_10.c) :=
  cut_ok (kindOf := kindOf) (C := junctionref14_Decimal_10.ctx k) (n := .none) (L := junctionref14_Decimal_10.e1 k) (junctionref14_Decimal_10.xOk k) (by kernel_rfl) (by kernel_rfl) (fits_of (l := []) (by kernel_rfl) trivial) (fun _ => by kernel_rfl)
theorem junctionref14_Decimal_10.k2 (k : Nat) : LamOk (junctionref14_Decimal_10.ctx k) ((junctionref14_Decimal_10.ctx k).Λ 2) (sub [1, 1, 1, 1, 0] junctionref14_Decimal_10.c) :=
  tree_ok (kindOf := kindOf) (C := junctionref14_Decimal_10.ctx k) (L := junctionref14_Decimal_10.e2 k) (tr := junctionref14_Decimal_10.t2) (junctionref14_Decimal_10.xOk k) (by kernel_rfl) (by kernel_rfl) (by kernel_rfl) (by kernel_rfl) fun d o h => (show runs (junctionref14_Decimal_10.ctx k) kindOf _ junctionref14_Decimal_10.t2 _ _ = junctionref14_Decimal_10.p2 k d.1.1 d.1.2.1 o by kernel_rfl).mpr (junctionref14_Decimal_10.q2 k d.1.1 d.1.2.1 o (by unfold junctionref14_Decimal_10.e2 at h; exact h))
theorem junctionref14_Decimal_10.call (k : Nat) : CallV Tryd.prog E glob 27 junctionref14_Decimal_10.i junctionref14_Decimal_10.p junctionref14_Decimal_10.b (junctionref14_Decimal_10.f k) :=
  fn_okZ (kindOf := kindOf) (C := junctionref14_Decimal_10.ctx k) (n := (.pair .none (.pair (.pair (.cut 0) .none) (.pair .none (.pair (.cut 1) (.pair (.cut 2) .none)))))) (junctionref14_Decimal_10.xOk k) Tryd.func27 junctionref14_Decimal_10.hb (fits_of (l := [(0, (sub [1, 0, 0] junctionref14_Decimal_10.c)), (1, (sub [1, 1, 1, 0] junctionref14_Decimal_10.c)), (2, (sub [1, 1, 1, 1, 0] junctionref14_Decimal_10.c))]) (by kernel_rfl) ⟨junctionref14_Decimal_10.k0 k, junctionref14_Decimal_10.k1 k, junctionref14_Decimal_10.k2 k, trivial⟩) (fun _ => by kernel_rfl)
noncomputable def junctionref14_Decimal_10.ent (k : Nat) : EntS κ := ⟨27, [], entOf junctionref14_Decimal_10.i junctionref14_Decimal_10.p junctionref14_Decimal_10.b true (junctionref14_Decimal_10.f k) E⟩
theorem junctionref14_Decimal_10.entOk (k : Nat) : EntOk Tryd.prog E glob 27 (junctionref14_Decimal_10.ent k).run := ent_free encOk (callable_of Tryd.func27 (by kernel_rfl) (by kernel_rfl)) (by rfl) trivial (junctionref14_Decimal_10.call k)
noncomputable def junctionref14_Decimal_10.qent (k : Nat) : QEntS κ := ⟨27, qentOf junctionref14_Decimal_10.i junctionref14_Decimal_10.p (junctionref14_Decimal_10.f k) E⟩
theorem junctionref14_Decimal_10.qentOk (k : Nat) : QEntOk Tryd.prog E glob 27 (junctionref14_Decimal_10.qent k).run := qent_ok encOk (callable_of Tryd.func27 (by kernel_rfl) (by kernel_rfl)) (junctionref14_Decimal_10.call k)
noncomputable def junctionref14_Decimal_11.c : Go.Code := match Tryd.f27.body with | some c => c | none => .skip
theorem junctionref14_Decimal_11.hb : Tryd.f27.body = some junctionref14_Decimal_11.c := by kernel_rfl
noncomputable def junctionref14_Decimal_11.x (k : Nat) (ls : List (LamS κ)) : Ctx κ := mkCtx [junctionref1_Text.ent k, junctionref14_Decimal_10.ent k] [junctionref1_Text.qent k, junctionref14_Decimal_10.qent k] ls
def junctionref14_Decimal_11.i : List (Pat κ) := [.int .i64]
def junctionref14_Decimal_11.s0 : Sh κ := ⟨0, [0], [.int .i64], []⟩
def junctionref14_Decimal_11.o0 : List (Ex × Sh κ) := [(.normal, ⟨0, [9], [.bool], []⟩)]
noncomputable def junctionref14_Decimal_11.l0 (k : Nat) (t0 : Int) : Option ((Bool × Unit) × Unit) :=
    if Decidable.decide (t0 ≥ (-2147483648 : Int)) = Bool.true then Option.some ((Decidable.decide (t0 ≤ (2147483647 : Int)), ()), ())
    else Option.some ((Bool.false, ()), ())
def junctionref14_Decimal_11.w0 : List Nat := [4, 5, 6, 7, 8, 9]
noncomputable def junctionref14_Decimal_11.e0 (k : Nat) : junctionref14_Decimal_11.s0.den → Option (OutT junctionref14_Decimal_11.o0) := fun d => junctionref14_Decimal_11.l0 k d.1.1
noncomputable def junctionref14_Decimal_11.m0 (k : Nat) : LamS κ := ⟨lamK 28 junctionref14_Decimal_11.w0 junctionref14_Decimal_11.s0 junctionref14_Decimal_11.o0 (junctionref14_Decimal_11.e0 k)⟩
def junctionref14_Decimal_11.s1 : Sh κ := ⟨0, [3], [.int .i64], []⟩
def junctionref14_Decimal_11.o1 : List (Ex × Sh κ) := [(.normal, ⟨0, [3], [.int .i64], []⟩)]
noncomputable def junctionref14_Decimal_11.l1 (k : Nat) (t3 : Int) : Option ((Int × Unit) × Unit) :=
    if Decidable.decide (t3 < (0 : Int)) = Bool.true then Option.some ((Go.IntKind.wrap Go.IntKind.i64 ((0 : Int) - t3), ()), ()) else Option.some ((t3, ()), ())
def junctionref14_Decimal_11.w1 : List Nat := [15, 16, 17, 18, 3]
noncomputable def junctionref14_Decimal_11.e1 (k : Nat) : junctionref14_Decimal_11.s1.den → Option (OutT junctionref14_Decimal_11.o1) := fun d => junctionref14_Decimal_11.l1 k d.1.1
noncomputable def junctionref14_Decimal_11.m1 (k : Nat) : LamS κ := ⟨lamK 28 junctionref14_Decimal_11.w1 junctionref14_Decimal_11.s1 junctionref14_Decimal_11.o1 (junctionref14_Decimal_11.e1 k)⟩
def junctionref14_Decimal_11.s2 : Sh κ := ⟨0, [0, 3], [.int .i64, .int .i64], []⟩
def junctionref14_Decimal_11.o2 : List (Ex × Sh κ) := [(.normal, ⟨0, [2], [.str], []⟩)]
noncomputable def junctionref14_Decimal_11.l2 (k : Nat) (t0 : Int) (t3 : Int) : Option ((ByteArray × Unit) × Unit) :=
    Option.bind (Go.Am.Tryd.junctionref14_Decimal_10 k (Go.Am.quo Go.IntKind.i64 t0 (10 : Int))) fun r0 =>
      Go.Am.tooLong
        (ByteArray.size (Prod.fst r0) +
          ByteArray.size (Go.strOfNums (List.map (fun x => x) [Go.IntKind.wrap Go.IntKind.u8 (Go.IntKind.wrap Go.IntKind.i64 ((48 : Int) + t3))])))
        (Option.some
          ((Prod.fst r0 ++ Go.strOfNums (List.map (fun x => x) [Go.IntKind.wrap Go.IntKind.u8 (Go.IntKind.wrap Go.IntKind.i64 ((48 : Int) + t3))]), ()), ()))
def junctionref14_Decimal_11.w2 : List Nat := [19, 20, 21, 22, 23, 24, 25, 26, 27, 2]
noncomputable def junctionref14_Decimal_11.e2 (k : Nat) : junctionref14_Decimal_11.s2.den → Option (OutT junctionref14_Decimal_11.o2) := fun d => junctionref14_Decimal_11.l2 k d.1.1 d.1.2.1
noncomputable def junctionref14_Decimal_11.m2 (k : Nat) : LamS κ := ⟨lamK 28 junctionref14_Decimal_11.w2 junctionref14_Decimal_11.s2 junctionref14_Decimal_11.o2 (junctionref14_Decimal_11.e2 k)⟩
def junctionref14_Decimal_11.t2 : Sched := (.take 0 (.take 1 (.take 3 (.take 4 (.take 5 (.all (.cons 2 (.all (.cons 6 (.all (.cons 7 (.take 8 (.take 9 .done)) .nil)) .nil)) (.cons 6 (.all (.cons 2 (.all (.cons 7 (.take 8 (.take 9 .done)) .nil)) (.cons 7 (.all (.cons 2 (.take 8 (.take 9 .done)) .nil)) .nil))) .nil))))))))
noncomputable def junctionref14_Decimal_11.p2 (k : Nat) (t0 : Int) (t3 : Int) (o : (ByteArray × Unit) × Unit) : Prop :=
    Go.Am.holds
        (Option.bind (Go.Am.Tryd.junctionref14_Decimal_10 k (Go.Am.quo Go.IntKind.i64 t0 (10 : Int))) fun r2 =>
          Option.some
            ((Go.Am.holds
                  (Go.Am.tooLong
                    (ByteArray.size (Prod.fst r2) +
                      ByteArray.size (Go.strOfNums (List.map (fun x => x) [Go.IntKind.wrap Go.IntKind.u8 (Go.IntKind.wrap Go.IntKind.i64 ((48 : Int) + t3))])))
                    (Option.some
                      (Option.some
                          ((Prod.fst r2 ++ Go.strOfNums (List.map (fun x => x) [Go.IntKind.wrap Go.IntKind.u8 (Go.IntKind.wrap Go.IntKind.i64 ((48 : Int) + t3))]),
                              ()),
                            ()) =
                        Option.some o))) ∧
                True) ∧
              True)) ∧
      (Go.Am.holds
            (Option.bind (Go.Am.Tryd.junctionref14_Decimal_10 k (Go.Am.quo Go.IntKind.i64 t0 (10 : Int))) fun r1 =>
              Option.some
                (Go.Am.holds
                    (Go.Am.tooLong
                      (ByteArray.size (Prod.fst r1) +
                        ByteArray.size (Go.strOfNums (List.map (fun x => x) [Go.IntKind.wrap Go.IntKind.u8 (Go.IntKind.wrap Go.IntKind.i64 ((48 : Int) + t3))])))
                      (Option.some
                        (Option.some
                            ((Prod.fst r1 ++
                                  Go.strOfNums (List.map (fun x => x) [Go.IntKind.wrap Go.IntKind.u8 (Go.IntKind.wrap Go.IntKind.i64 ((48 : Int) + t3))]),
                                ()),
                              ()) =
                          Option.some o))) ∧
                  True)) ∧
          (Go.Am.holds
                (Option.bind (Go.Am.Tryd.junctionref14_Decimal_10 k (Go.Am.quo Go.IntKind.i64 t0 (10 : Int))) fun r0 =>
                  Option.some
                    (Go.Am.holds
                      (Go.Am.tooLong
                        (ByteArray.size (Prod.fst r0) +
                          ByteArray.size (Go.strOfNums (List.map (fun x => x) [Go.IntKind.wrap Go.IntKind.u8 (Go.IntKind.wrap Go.IntKind.i64 ((48 : Int) + t3))])))
                        (Option.some
                          (Option.some
                              ((Prod.fst r0 ++
                                    Go.strOfNums (List.map (fun x => x) [Go.IntKind.wrap Go.IntKind.u8 (Go.IntKind.wrap Go.IntKind.i64 ((48 : Int) + t3))]),
                                  ()),
                                ()) =
                            Option.some o))))) ∧
              True) ∧
            True) ∧
        True
theorem junctionref14_Decimal_11.q2 (k : Nat) (t0 : Int) (t3 : Int) (o : (ByteArray × Unit) × Unit) (h : junctionref14_Decimal_11.l2 k t0 t3 = some o) : junctionref14_Decimal_11.p2 k t0 t3 o := by
  unfold junctionref14_Decimal_11.l2 at h
  unfold junctionref14_Decimal_11.p2
  repeat' (first | split at h | (rw [Option.bind_eq_some_iff] at h; obtain ⟨_, _, h⟩ := h) | (rw [room_some] at h; obtain ⟨_, h⟩ := h) | (rw [tooLong_some] at h; obtain ⟨_, h⟩ := h))
  all_goals first | (cases h; done) | (cases h; simp only [Option.bind_some, room_pos, tooLong_pos, if_true, and_self, and_true, not_false_eq_true, holds, *]; done) | (cases h; simp [holds, room_pos, tooLong_pos, *])
def junctionref14_Decimal_11.p : Pat κ := .str
def junctionref14_Decimal_11.b : List (BPat κ) := []
noncomputable def junctionref14_Decimal_11 (k : Nat) (t0 : Int) : Option (ByteArray × Unit) :=
    Option.bind (Go.Am.Tryd.junctionref14_Decimal_11.l0 k t0) fun r0 =>
      if Prod.fst (Prod.fst r0) = Bool.true then
        Option.bind (Go.Am.Tryd.junctionref1_Text k (Go.IntKind.wrap Go.IntKind.i32 t0)) fun r1 => Option.some (Prod.fst r1, ())
      else
        Option.bind (Go.Am.Tryd.junctionref14_Decimal_11.l1 k (Go.Am.rem t0 (10 : Int))) fun r2 =>
          Option.bind (Go.Am.Tryd.junctionref14_Decimal_11.l2 k t0 (Prod.fst (Prod.fst r2))) fun r3 => Option.some (Prod.fst (Prod.fst r3), ())
noncomputable def junctionref14_Decimal_11.f (k : Nat) : dens junctionref14_Decimal_11.i → Option (junctionref14_Decimal_11.p.den × densB junctionref14_Decimal_11.b) := fun d => junctionref14_Decimal_11 k d.1
noncomputable def junctionref14_Decimal_11.ctx (k : Nat) : Ctx κ := junctionref14_Decimal_11.x k [junctionref14_Decimal_11.m0 k, junctionref14_Decimal_11.m1 k, junctionref14_Decimal_11.m2 k]
theorem junctionref14_Decimal_11.xOk (k : Nat) : (junctionref14_Decimal_11.ctx k).Ok := ctxOk ⟨junctionref1_Text.entOk k, junctionref14_Decimal_10.entOk k, trivial⟩ ⟨junctionref1_Text.qentOk k, junctionref14_Decimal_10.qentOk k, trivial⟩
theorem junctionref14_Decimal_11.k0 (k : Nat) : LamOk (junctionref14_Decimal_11.ctx k) ((junctionref14_Decimal_11.ctx k).Λ 0) (sub [1, 0, 0] junctionref14_Decimal_11.c) :=
  cut_ok (kindOf := kindOf) (C := junctionref14_Decimal_11.ctx k) (n := .none) (L := junctionref14_Decimal_11.e0 k) (junctionref14_Decimal_11.xOk k) (by kernel_rfl) (by kernel_rfl) (fits_of (l := []) (by kernel_rfl) trivial) (fun _ => by kernel_rfl)
theorem junctionref14_Decimal_11.k1 (k : Nat) : LamOk (junctionref14_Decimal_11.ctx k) ((junctionref14_Decimal_11.ctx k).Λ 1) (sub [1, 1, 1, 0] junctionref14_Decimal_11.c) :=
  cut_ok (kindOf := kindOf) (C := junctionref14_Decimal_11.ctx k) (n := .none) (L := junctionref14_Decimal_11.e1 k) (junctionref14_Decimal_11.xOk k) (by kernel_rfl) (by kernel_rfl) (fits_of (l := []) (by kernel_rfl) trivial) (fun _ => by kernel_rfl)
theorem junctionref14_Decimal_11.k2 (k : Nat) : LamOk (junctionref14_Decimal_11.ctx k) ((junctionref14_Decimal_11.ctx k).Λ 2) (sub [1, 1, 1, 1, 0] junctionref14_Decimal_11.c) :=
  tree_ok (kindOf := kindOf) (C := junctionref14_Decimal_11.ctx k) (L := junctionref14_Decimal_11.e2 k) (tr := junctionref14_Decimal_11.t2) (junctionref14_Decimal_11.xOk k) (by kernel_rfl) (by kernel_rfl) (by kernel_rfl) (by kernel_rfl) fun d o h => (show runs (junctionref14_Decimal_11.ctx k) kindOf _ junctionref14_Decimal_11.t2 _ _ = junctionref14_Decimal_11.p2 k d.1.1 d.1.2.1 o by kernel_rfl).mpr (junctionref14_Decimal_11.q2 k d.1.1 d.1.2.1 o (by unfold junctionref14_Decimal_11.e2 at h; exact h))
theorem junctionref14_Decimal_11.call (k : Nat) : CallV Tryd.prog E glob 27 junctionref14_Decimal_11.i junctionref14_Decimal_11.p junctionref14_Decimal_11.b (junctionref14_Decimal_11.f k) :=
  fn_okZ (kindOf := kindOf) (C := junctionref14_Decimal_11.ctx k) (n := (.pair .none (.pair (.pair (.cut 0) .none) (.pair .none (.pair (.cut 1) (.pair (.cut 2) .none)))))) (junctionref14_Decimal_11.xOk k) Tryd.func27 junctionref14_Decimal_11.hb (fits_of (l := [(0, (sub [1, 0, 0] junctionref14_Decimal_11.c)), (1, (sub [1, 1, 1, 0] junctionref14_Decimal_11.c)), (2, (sub [1, 1, 1, 1, 0] junctionref14_Decimal_11.c))]) (by kernel_rfl) ⟨junctionref14_Decimal_11.k0 k, junctionref14_Decimal_11.k1 k, junctionref14_Decimal_11.k2 k, trivial⟩) (fun _ => by kernel_rfl)
noncomputable def junctionref14_Decimal_11.ent (k : Nat) : EntS κ := ⟨27, [], entOf junctionref14_Decimal_11.i junctionref14_Decimal_11.p junctionref14_Decimal_11.b true (junctionref14_Decimal_11.f k) E⟩
theorem junctionref14_Decimal_11.entOk (k : Nat) : EntOk Tryd.prog E glob 27 (junctionref14_Decimal_11.ent k).run := ent_free encOk (callable_of Tryd.func27 (by kernel_rfl) (by kernel_rfl)) (by rfl) trivial (junctionref14_Decimal_11.call k)
noncomputable def junctionref14_Decimal_11.qent (k : Nat) : QEntS κ := ⟨27, qentOf junctionref14_Decimal_11.i junctionref14_Decimal_11.p (junctionref14_Decimal_11.f k) E⟩
theorem junctionref14_Decimal_11.qentOk (k : Nat) : QEntOk Tryd.prog E glob 27 (junctionref14_Decimal_11.qent k).run := qent_ok encOk (callable_of Tryd.func27 (by kernel_rfl) (by kernel_rfl)) (junctionref14_Decimal_11.call k)
noncomputable def driver_tellable.c : Go.Code := match Tryd.f21.body with | some c => c | none => .skip
theorem driver_tellable.hb : Tryd.f21.body = some driver_tellable.c := by kernel_rfl
noncomputable def driver_tellable.x (k : Nat) (ls : List (LamS κ)) : Ctx κ := mkCtx [strings_IndexByte.ent k] [strings_IndexByte.qent k] ls
def driver_tellable.i : List (Pat κ) := [.agg [.str, .int .i64]]
def driver_tellable.s0 : Sh κ := ⟨0, [1], [.rop [.str, .int .i64]], []⟩
def driver_tellable.o0 : List (Ex × Sh κ) := [(.ret, ⟨0, [2], [.bool], []⟩), (.normal, ⟨0, [], [], []⟩)]
noncomputable def driver_tellable.l0 (k : Nat) (t1 : ByteArray) (t1_1 : Int) : Option ((Bool × Unit) × Unit ⊕ Unit × Unit) :=
    if Decidable.decide ((↑(ByteArray.size t1) : Int) > (64 : Int)) = Bool.false then
      if Decidable.decide (t1_1 < (-1 : Int)) = Bool.false then
        if Decidable.decide (t1_1 > (255 : Int)) = Bool.true then Option.some (Sum.inl ((Bool.false, ()), ())) else Option.some (Sum.inr ((), ()))
      else Option.some (Sum.inl ((Bool.false, ()), ()))
    else Option.some (Sum.inl ((Bool.false, ()), ()))
def driver_tellable.w0 : List Nat := [4, 5, 6, 7, 8, 9, 10, 11, 12, 13, 14, 15, 16, 17, 2]
noncomputable def driver_tellable.e0 (k : Nat) : driver_tellable.s0.den → Option (OutT driver_tellable.o0) := fun d => driver_tellable.l0 k d.1.1.1 d.1.1.2.1
noncomputable def driver_tellable.m0 (k : Nat) : LamS κ := ⟨lamK 31 driver_tellable.w0 driver_tellable.s0 driver_tellable.o0 (driver_tellable.e0 k)⟩
def driver_tellable.s1 : Sh κ := ⟨0, [1, 20, 21], [.rop [.str, .int .i64], .int .i64, .int .i64], []⟩
def driver_tellable.o1 : List (Ex × Sh κ) := [(.ret, ⟨0, [2], [.bool], []⟩), (.exit 0, ⟨0, [], [], []⟩)]
noncomputable def driver_tellable.l1 (k : Nat) : Nat → ByteArray → Int → Int → Int → Option ((Bool × Unit) × Unit ⊕ Unit × Unit)
  | 0, _, _, _, _ => none
  | j + 1, t1, t1_1, t20, t21 =>
    if Decidable.decide (t21 < t20) = Bool.true then
      if (0 : Int) ≤ t21 ∧ t21 < (↑(ByteArray.size t1) : Int) then
        Option.bind (Go.Am.Tryd.strings_IndexByte k (ByteArray.mk #[(114 : UInt8), (108 : UInt8), (103 : UInt8), (97 : UInt8)]) (Go.Am.bt t1 t21)) fun r0 =>
          if Decidable.decide (Prod.fst r0 < (0 : Int)) = Bool.true then Option.some (Sum.inl ((Bool.false, ()), ()))
          else driver_tellable.l1 k j t1 t1_1 t20 (Go.IntKind.wrap Go.IntKind.i64 (t21 + (1 : Int)))
      else Option.none
    else Option.some (Sum.inr ((), ()))
def driver_tellable.w1 : List Nat := [22, 23, 3, 24, 25, 26, 27, 28, 29, 2, 30, 21]
noncomputable def driver_tellable.e1 (k j : Nat) : driver_tellable.s1.den → Option (OutT driver_tellable.o1) := fun d => driver_tellable.l1 k j d.1.1.1 d.1.1.2.1 d.1.2.1 d.1.2.2.1
noncomputable def driver_tellable.m1 (k : Nat) : LamS κ := ⟨lamK 31 driver_tellable.w1 driver_tellable.s1 driver_tellable.o1 (driver_tellable.e1 k k)⟩
def driver_tellable.p : Pat κ := .bool
def driver_tellable.b : List (BPat κ) := []
noncomputable def driver_tellable (k : Nat) (t0 : ByteArray) (t0_1 : Int) : Option (Bool × Unit) :=
    Option.bind (Go.Am.Tryd.driver_tellable.l0 k t0 t0_1) fun r0 =>
      Go.Am.onSum r0 (fun r1 => Option.some (Prod.fst (Prod.fst r1), ())) fun r1 =>
        Option.bind (Go.Am.Tryd.driver_tellable.l1 k k t0 t0_1 (↑(ByteArray.size t0) : Int) (0 : Int)) fun r2 =>
          Go.Am.onSum r2 (fun r3 => Option.some (Prod.fst (Prod.fst r3), ())) fun r3 => Option.some (Bool.true, ())
noncomputable def driver_tellable.f (k : Nat) : dens driver_tellable.i → Option (driver_tellable.p.den × densB driver_tellable.b) := fun d => driver_tellable k d.1.1 d.1.2.1
noncomputable def driver_tellable.ctx (k : Nat) : Ctx κ := driver_tellable.x k [driver_tellable.m0 k, driver_tellable.m1 k]
theorem driver_tellable.xOk (k : Nat) : (driver_tellable.ctx k).Ok := ctxOk ⟨strings_IndexByte.entOk k, trivial⟩ ⟨strings_IndexByte.qentOk k, trivial⟩
theorem driver_tellable.k0 (k : Nat) : LamOk (driver_tellable.ctx k) ((driver_tellable.ctx k).Λ 0) (sub [1, 0] driver_tellable.c) :=
  cut_ok (kindOf := kindOf) (C := driver_tellable.ctx k) (n := .none) (L := driver_tellable.e0 k) (driver_tellable.xOk k) (by kernel_rfl) (by kernel_rfl) (fits_of (l := []) (by kernel_rfl) trivial) (fun _ => by kernel_rfl)
theorem driver_tellable.k1 (k : Nat) : LamOk (driver_tellable.ctx k) ((driver_tellable.ctx k).Λ 1) (.loop (sub [1, 1, 0, 1, 0, 0] driver_tellable.c)) :=
  loop_ok (kindOf := kindOf) (C := driver_tellable.ctx k) (n := .none) (L := driver_tellable.e1 k) (driver_tellable.xOk k) (by kernel_rfl) (by kernel_rfl) (fits_of (l := []) (by kernel_rfl) trivial) (fun _ => by kernel_rfl) (fun _ _ => by kernel_rfl) k
theorem driver_tellable.call (k : Nat) : CallV Tryd.prog E glob 21 driver_tellable.i driver_tellable.p driver_tellable.b (driver_tellable.f k) :=
  fn_okZ (kindOf := kindOf) (C := driver_tellable.ctx k) (n := (.pair (.ops [0] 0) (.pair (.cut 0) (.pair (.pair .none (.pair (.cut 1) .none)) .none)))) (driver_tellable.xOk k) Tryd.func21 driver_tellable.hb (fits_of (l := [(0, (sub [1, 0] driver_tellable.c)), (1, .loop (sub [1, 1, 0, 1, 0, 0] driver_tellable.c))]) (by kernel_rfl) ⟨driver_tellable.k0 k, driver_tellable.k1 k, trivial⟩) (fun _ => by kernel_rfl)
noncomputable def driver_tellable.ent (k : Nat) : EntS κ := ⟨21, [], entOf driver_tellable.i driver_tellable.p driver_tellable.b true (driver_tellable.f k) E⟩
theorem driver_tellable.entOk (k : Nat) : EntOk Tryd.prog E glob 21 (driver_tellable.ent k).run := ent_free encOk (callable_of Tryd.func21 (by kernel_rfl) (by kernel_rfl)) (by rfl) trivial (driver_tellable.call k)
noncomputable def driver_tellable.qent (k : Nat) : QEntS κ := ⟨21, qentOf driver_tellable.i driver_tellable.p (driver_tellable.f k) E⟩
theorem driver_tellable.qentOk (k : Nat) : QEntOk Tryd.prog E glob 21 (driver_tellable.qent k).run := qent_ok encOk (callable_of Tryd.func21 (by kernel_rfl) (by kernel_rfl)) (driver_tellable.call k)
noncomputable def driver_Trace.c : Go.Code := match Tryd.f11.body with | some c => c | none => .skip
theorem driver_Trace.hb : Tryd.f11.body = some driver_Trace.c := by kernel_rfl
noncomputable def driver_Trace.x (k : Nat) (ls : List (LamS κ)) : Ctx κ := mkCtx [strconv_Itoa.ent k, Builder_WriteString.ent k, Builder_String.ent k, driver_tellable.ent k] [strconv_Itoa.qent k, driver_tellable.qent k] ls
def driver_Trace.i : List (Pat κ) := [.ro .T38]
def driver_Trace.s0 : Sh κ := ⟨0, [14, 15, 16], [.ro .T38, .int .i64, .int .i64], []⟩
def driver_Trace.o0 : List (Ex × Sh κ) := [(.ret, ⟨0, [2, 3], [.str, .int .i64], []⟩), (.exit 0, ⟨0, [], [], []⟩)]
noncomputable def driver_Trace.l0 (k : Nat) : Nat → (List S38) → Int → Int → Option ((ByteArray × Int × Unit) × Unit ⊕ Unit × Unit)
  | 0, _, _, _ => none
  | j + 1, t14, t15, t16 =>
    if Decidable.decide (t16 < t15) = Bool.true then
      if (0 : Int) ≤ t16 ∧ t16 < (↑(List.length t14) : Int) then
        Option.bind
          (Go.Am.Tryd.driver_tellable k (Go.Am.Tryd.S38.f0 (List.getD t14 (Int.toNat t16) (Go.Am.Tryd.S38.mk ByteArray.empty (0 : Int))))
            (Go.Am.Tryd.S38.f1 (List.getD t14 (Int.toNat t16) (Go.Am.Tryd.S38.mk ByteArray.empty (0 : Int)))))
          fun r0 =>
          if (!Prod.fst r0) = Bool.true then Option.some (Sum.inl ((ByteArray.mk #[], (140 : Int), ()), ()))
          else driver_Trace.l0 k j t14 t15 (Go.IntKind.wrap Go.IntKind.i64 (t16 + (1 : Int)))
      else Option.none
    else Option.some (Sum.inr ((), ()))
def driver_Trace.w0 : List Nat := [17, 18, 19, 5, 20, 21, 22, 2, 3, 23, 16]
noncomputable def driver_Trace.e0 (k j : Nat) : driver_Trace.s0.den → Option (OutT driver_Trace.o0) := fun d => driver_Trace.l0 k j d.1.1 d.1.2.1 d.1.2.2.1
noncomputable def driver_Trace.m0 (k : Nat) : LamS κ := ⟨lamK 87 driver_Trace.w0 driver_Trace.s0 driver_Trace.o0 (driver_Trace.e0 k k)⟩
def driver_Trace.s6 : Sh κ := ⟨0, [0, 6, 7], [.ro .T38, .ptr 0 0, .int .i64], [.raw 48 [.optr 0, .own .T5 1], .rows .T5]⟩
def driver_Trace.s2 : Sh κ := ⟨0, [0, 7, 8], [.ro .T38, .int .i64, .int .i64], []⟩
def driver_Trace.s1 : Sh κ := ⟨0, [0, 7, 8], [.ro .T38, .int .i64, .int .i64], []⟩
def driver_Trace.o1 : List (Ex × Sh κ) := [(.exit 4, ⟨0, [], [], []⟩), (.normal, ⟨0, [], [], []⟩)]
noncomputable def driver_Trace.l1 (k : Nat) (t0 : List S38) (t7 : Int) (t8 : Int) : Option (Unit × Unit ⊕ Unit × Unit) :=
    if Decidable.decide (t8 < (↑(List.length t0) : Int)) = Bool.true then
      if (0 : Int) ≤ t8 ∧ t8 < (↑(List.length t0) : Int) then
        if (0 : Int) ≤ t7 ∧ t7 < (↑(List.length t0) : Int) then
          if
              Go.Program.eqGuardType (Go.Am.Ctx.P (Go.Am.Tryd.driver_Trace.x k [])) (Go.Program.depth (Go.Am.Ctx.P (Go.Am.Tryd.driver_Trace.x k []))) (38 : Nat) =
                  Bool.false ∧
                Go.Program.stoodInHeld (Go.Am.Ctx.P (Go.Am.Tryd.driver_Trace.x k [])) (38 : Nat) = Bool.false then
            if
                (ByteArray.toList (Go.Am.Tryd.S38.f0 (List.getD t0 (Int.toNat t8) (Go.Am.Tryd.S38.mk ByteArray.empty (0 : Int)))) ==
                      ByteArray.toList (Go.Am.Tryd.S38.f0 (List.getD t0 (Int.toNat t7) (Go.Am.Tryd.S38.mk ByteArray.empty (0 : Int)))) &&
                    (Go.Am.Tryd.S38.f1 (List.getD t0 (Int.toNat t8) (Go.Am.Tryd.S38.mk ByteArray.empty (0 : Int))) ==
                        Go.Am.Tryd.S38.f1 (List.getD t0 (Int.toNat t7) (Go.Am.Tryd.S38.mk ByteArray.empty (0 : Int))) &&
                      Bool.true)) =
                  Bool.true then
              Option.some (Sum.inr ((), ()))
            else Option.some (Sum.inl ((), ()))
          else Option.none
        else Option.none
      else Option.none
    else Option.some (Sum.inl ((), ()))
def driver_Trace.w1 : List Nat := [30, 31, 32, 33, 34, 35, 36, 37, 38, 39, 40, 41, 42, 43, 44]
noncomputable def driver_Trace.e1 (k : Nat) : driver_Trace.s1.den → Option (OutT driver_Trace.o1) := fun d => driver_Trace.l1 k d.1.1 d.1.2.1 d.1.2.2.1
noncomputable def driver_Trace.m1 (k : Nat) : LamS κ := ⟨lamK 87 driver_Trace.w1 driver_Trace.s1 driver_Trace.o1 (driver_Trace.e1 k)⟩
def driver_Trace.o2 : List (Ex × Sh κ) := [(.exit 4, ⟨0, [8], [.int .i64], []⟩)]
noncomputable def driver_Trace.l2 (k : Nat) : Nat → (List S38) → Int → Int → Option ((Int × Unit) × Unit)
  | 0, _, _, _ => none
  | j + 1, t0, t7, t8 =>
    Option.bind (Go.Am.Tryd.driver_Trace.l1 k t0 t7 t8) fun r0 =>
      Go.Am.onSum r0 (fun r1 => Option.some ((t8, ()), ())) fun r1 => driver_Trace.l2 k j t0 t7 (Go.IntKind.wrap Go.IntKind.i64 (t8 + (1 : Int)))
def driver_Trace.w2 : List Nat := [30, 31, 32, 33, 34, 35, 36, 37, 38, 39, 40, 41, 42, 43, 44, 45, 46, 8]
noncomputable def driver_Trace.e2 (k j : Nat) : driver_Trace.s2.den → Option (OutT driver_Trace.o2) := fun d => driver_Trace.l2 k j d.1.1 d.1.2.1 d.1.2.2.1
noncomputable def driver_Trace.m2 (k : Nat) : LamS κ := ⟨lamK 87 driver_Trace.w2 driver_Trace.s2 driver_Trace.o2 (driver_Trace.e2 k k)⟩
def driver_Trace.s3 : Sh κ := ⟨0, [6, 7, 8], [.ptr 0 0, .int .i64, .int .i64], [.raw 48 [.ptr 0 0, .own .T5 1], .rows .T5]⟩
def driver_Trace.o3 : List (Ex × Sh κ) := [(.normal, ⟨2, [6], [.ptr 0 0], [.raw 48 [.ptr 0 0, .own .T5 1], .rows .T5]⟩)]
noncomputable def driver_Trace.l3 (k : Nat) (t7 : Int) (t8 : Int) (b1 : List Int) : Option ((Unit × Unit) × (Unit × Unit × Unit) × List Int × Unit) :=
    if Decidable.decide (t8 > Go.IntKind.wrap Go.IntKind.i64 (t7 + (1 : Int))) = Bool.true then
      Option.bind (Go.Am.Tryd.strconv_Itoa k (Go.IntKind.wrap Go.IntKind.i64 (t8 - (1 : Int)))) fun r0 =>
        Go.Am.tooLong (ByteArray.size (ByteArray.mk #[(45 : UInt8)]) + ByteArray.size (Prod.fst r0))
          (Option.bind (Go.Am.Tryd.Builder_WriteString k (ByteArray.mk #[(45 : UInt8)] ++ Prod.fst r0) b1) fun r1 =>
            Option.some (((), ()), ((), (), ()), Prod.fst (Prod.snd (Prod.snd r1)), ()))
    else Option.some (((), ()), ((), (), ()), b1, ())
def driver_Trace.w3 : List Nat := [50, 51, 52, 53, 54, 55, 56, 57, 58]
noncomputable def driver_Trace.e3 (k : Nat) : driver_Trace.s3.den → Option (OutT driver_Trace.o3) := fun d => driver_Trace.l3 k d.1.2.1 d.1.2.2.1 d.2.2.1
noncomputable def driver_Trace.m3 (k : Nat) : LamS κ := ⟨lamK 87 driver_Trace.w3 driver_Trace.s3 driver_Trace.o3 (driver_Trace.e3 k)⟩
def driver_Trace.s4 : Sh κ := ⟨0, [9], [.str], []⟩
def driver_Trace.o4 : List (Ex × Sh κ) := [(.normal, ⟨0, [9], [.str], []⟩)]
noncomputable def driver_Trace.l4 (k : Nat) (t9 : ByteArray) : Option ((ByteArray × Unit) × Unit) :=
    if (ByteArray.toList t9 == ByteArray.toList (ByteArray.mk #[])) = Bool.true then Option.some ((ByteArray.mk #[(46 : UInt8)], ()), ())
    else Option.some ((t9, ()), ())
def driver_Trace.w4 : List Nat := [64, 65, 9]
noncomputable def driver_Trace.e4 (k : Nat) : driver_Trace.s4.den → Option (OutT driver_Trace.o4) := fun d => driver_Trace.l4 k d.1.1
noncomputable def driver_Trace.m4 (k : Nat) : LamS κ := ⟨lamK 87 driver_Trace.w4 driver_Trace.s4 driver_Trace.o4 (driver_Trace.e4 k)⟩
def driver_Trace.s5 : Sh κ := ⟨0, [0, 7, 10], [.ro .T38, .int .i64, .str], []⟩
def driver_Trace.o5 : List (Ex × Sh κ) := [(.normal, ⟨0, [10], [.str], []⟩)]
noncomputable def driver_Trace.l5 (k : Nat) (t0 : List S38) (t7 : Int) (t10 : ByteArray) : Option ((ByteArray × Unit) × Unit) :=
    if (0 : Int) ≤ t7 ∧ t7 < (↑(List.length t0) : Int) then
      if Decidable.decide (Go.Am.Tryd.S38.f1 (List.getD t0 (Int.toNat t7) (Go.Am.Tryd.S38.mk ByteArray.empty (0 : Int))) ≥ (0 : Int)) = Bool.true then
        if (0 : Int) ≤ t7 ∧ t7 < (↑(List.length t0) : Int) then
          Option.bind (Go.Am.Tryd.strconv_Itoa k (Go.Am.Tryd.S38.f1 (List.getD t0 (Int.toNat t7) (Go.Am.Tryd.S38.mk ByteArray.empty (0 : Int))))) fun r0 =>
            Option.some ((Prod.fst r0, ()), ())
        else Option.none
      else Option.some ((t10, ()), ())
    else Option.none
def driver_Trace.w5 : List Nat := [66, 67, 68, 69, 70, 71, 72, 73, 74, 75, 76, 77, 10]
noncomputable def driver_Trace.e5 (k : Nat) : driver_Trace.s5.den → Option (OutT driver_Trace.o5) := fun d => driver_Trace.l5 k d.1.1 d.1.2.1 d.1.2.2.1
noncomputable def driver_Trace.m5 (k : Nat) : LamS κ := ⟨lamK 87 driver_Trace.w5 driver_Trace.s5 driver_Trace.o5 (driver_Trace.e5 k)⟩
def driver_Trace.o6 : List (Ex × Sh κ) := [(.exit 2, ⟨2, [6], [.ptr 0 0], [.raw 48 [.optr 0, .own .T5 1], .rows .T5]⟩)]
noncomputable def driver_Trace.l6 (k : Nat) : Nat → (List S38) → Int → (List Int) → Option ((Unit × Unit) × (Unit × Unit × Unit) × List Int × Unit)
  | 0, _, _, _ => none
  | j + 1, t0, t7, b1 =>
    if Decidable.decide (t7 < (↑(List.length t0) : Int)) = Bool.true then
      Option.bind (Go.Am.Tryd.driver_Trace.l2 k k t0 t7 (Go.IntKind.wrap Go.IntKind.i64 (t7 + (1 : Int)))) fun r0 =>
        Option.bind (Go.Am.Tryd.strconv_Itoa k t7) fun r1 =>
          Option.bind (Go.Am.Tryd.Builder_WriteString k (Prod.fst r1) b1) fun r2 =>
            Option.bind (Go.Am.Tryd.driver_Trace.l3 k t7 (Prod.fst (Prod.fst r0)) (Prod.fst (Prod.snd (Prod.snd r2)))) fun r3 =>
              if (0 : Int) ≤ t7 ∧ t7 < (↑(List.length t0) : Int) then
                Option.bind (Go.Am.Tryd.driver_Trace.l4 k (Go.Am.Tryd.S38.f0 (List.getD t0 (Int.toNat t7) (Go.Am.Tryd.S38.mk ByteArray.empty (0 : Int))))) fun r4 =>
                  Option.bind (Go.Am.Tryd.driver_Trace.l5 k t0 t7 (ByteArray.mk #[(45 : UInt8)])) fun r5 =>
                    Go.Am.tooLong (ByteArray.size (ByteArray.mk #[(32 : UInt8)]) + ByteArray.size (Prod.fst (Prod.fst r4)))
                      (Go.Am.tooLong (ByteArray.size (ByteArray.mk #[(32 : UInt8)] ++ Prod.fst (Prod.fst r4)) + ByteArray.size (ByteArray.mk #[(32 : UInt8)]))
                        (Go.Am.tooLong
                          (ByteArray.size (ByteArray.mk #[(32 : UInt8)] ++ Prod.fst (Prod.fst r4) ++ ByteArray.mk #[(32 : UInt8)]) +
                            ByteArray.size (Prod.fst (Prod.fst r5)))
                          (Go.Am.tooLong
                            (ByteArray.size (ByteArray.mk #[(32 : UInt8)] ++ Prod.fst (Prod.fst r4) ++ ByteArray.mk #[(32 : UInt8)] ++ Prod.fst (Prod.fst r5)) +
                              ByteArray.size (ByteArray.mk #[(10 : UInt8)]))
                            (Option.bind
                              (Go.Am.Tryd.Builder_WriteString k
                                (ByteArray.mk #[(32 : UInt8)] ++ Prod.fst (Prod.fst r4) ++ ByteArray.mk #[(32 : UInt8)] ++ Prod.fst (Prod.fst r5) ++
                                  ByteArray.mk #[(10 : UInt8)])
                                (Prod.fst (Prod.snd (Prod.snd r3))))
                              fun r6 => driver_Trace.l6 k j t0 (Prod.fst (Prod.fst r0)) (Prod.fst (Prod.snd (Prod.snd r6)))))))
              else Option.none
    else Option.some (((), ()), ((), (), ()), b1, ())
def driver_Trace.w6 : List Nat := [24, 25, 26, 27, 28, 29, 8, 30, 31, 32, 33, 34, 35, 36, 37, 38, 39, 40, 41, 42, 43, 44, 45, 46, 47, 48, 49, 50, 51, 52, 53, 54, 55, 56, 57, 58, 59, 60, 61, 62, 63, 9, 10, 64, 65, 66, 67, 68, 69, 70, 71, 72, 73, 74, 75, 76, 77, 78, 79, 80, 81, 82, 83, 84, 85, 7]
noncomputable def driver_Trace.e6 (k j : Nat) : driver_Trace.s6.den → Option (OutT driver_Trace.o6) := fun d => driver_Trace.l6 k j d.1.1 d.1.2.2.1 d.2.2.1
noncomputable def driver_Trace.m6 (k : Nat) : LamS κ := ⟨lamK 87 driver_Trace.w6 driver_Trace.s6 driver_Trace.o6 (driver_Trace.e6 k k)⟩
def driver_Trace.p : Pat κ := .tup [.str, .int .i64]
def driver_Trace.b : List (BPat κ) := []
noncomputable def driver_Trace (k : Nat) (t0 : List S38) : Option ((ByteArray × Int × Unit) × Unit) :=
    if Decidable.decide ((↑(List.length t0) : Int) > (65536 : Int)) = Bool.true then Option.some ((ByteArray.mk #[], (140 : Int), ()), ())
    else
      Option.bind (Go.Am.Tryd.driver_Trace.l0 k k t0 (↑(List.length t0) : Int) (0 : Int)) fun r0 =>
        Go.Am.onSum r0 (fun r1 => Option.some ((Prod.fst (Prod.fst r1), Prod.fst (Prod.snd (Prod.fst r1)), ()), ())) fun r1 =>
          Option.bind (Go.Am.Tryd.driver_Trace.l6 k k t0 (0 : Int) []) fun r2 =>
            Option.bind (Go.Am.Tryd.Builder_String k (Prod.fst (Prod.snd (Prod.snd r2)))) fun r3 => Option.some ((Prod.fst (Prod.fst r3), (0 : Int), ()), ())
noncomputable def driver_Trace.f (k : Nat) : dens driver_Trace.i → Option (driver_Trace.p.den × densB driver_Trace.b) := fun d => driver_Trace k d.1
noncomputable def driver_Trace.ctx (k : Nat) : Ctx κ := driver_Trace.x k [driver_Trace.m0 k, driver_Trace.m1 k, driver_Trace.m2 k, driver_Trace.m3 k, driver_Trace.m4 k, driver_Trace.m5 k, driver_Trace.m6 k]
theorem driver_Trace.xOk (k : Nat) : (driver_Trace.ctx k).Ok := ctxOk ⟨strconv_Itoa.entOk k, Builder_WriteString.entOk k, Builder_String.entOk k, driver_tellable.entOk k, trivial⟩ ⟨strconv_Itoa.qentOk k, driver_tellable.qentOk k, trivial⟩
theorem driver_Trace.k0 (k : Nat) : LamOk (driver_Trace.ctx k) ((driver_Trace.ctx k).Λ 0) (.loop (sub [1, 1, 0, 1, 0, 0] driver_Trace.c)) :=
  loop_ok (kindOf := kindOf) (C := driver_Trace.ctx k) (n := .none) (L := driver_Trace.e0 k) (driver_Trace.xOk k) (by kernel_rfl) (by kernel_rfl) (fits_of (l := []) (by kernel_rfl) trivial) (fun _ => by kernel_rfl) (fun _ _ => by kernel_rfl) k
theorem driver_Trace.k1 (k : Nat) : LamOk (driver_Trace.ctx k) ((driver_Trace.ctx k).Λ 1) (sub [1, 1, 1, 1, 0, 1, 0, 0, 1, 0, 1, 0, 0, 0, 0] driver_Trace.c) :=
  cut_ok (kindOf := kindOf) (C := driver_Trace.ctx k) (n := (.pair (.ops [] 15) .none)) (L := driver_Trace.e1 k) (driver_Trace.xOk k) (by kernel_rfl) (by kernel_rfl) (fits_of (l := []) (by kernel_rfl) trivial) (fun _ => by kernel_rfl)
theorem driver_Trace.k2 (k : Nat) : LamOk (driver_Trace.ctx k) ((driver_Trace.ctx k).Λ 2) (.loop (sub [1, 1, 1, 1, 0, 1, 0, 0, 1, 0, 1, 0, 0, 0] driver_Trace.c)) :=
  loop_ok (kindOf := kindOf) (C := driver_Trace.ctx k) (n := (.pair (.cut 1) .none)) (L := driver_Trace.e2 k) (driver_Trace.xOk k) (by kernel_rfl) (by kernel_rfl) (fits_of (l := [(1, (sub [1, 1, 1, 1, 0, 1, 0, 0, 1, 0, 1, 0, 0, 0, 0] driver_Trace.c))]) (by kernel_rfl) ⟨driver_Trace.k1 k, trivial⟩) (fun _ => by kernel_rfl) (fun _ _ => by kernel_rfl) k
theorem driver_Trace.k3 (k : Nat) : LamOk (driver_Trace.ctx k) ((driver_Trace.ctx k).Λ 3) (sub [1, 1, 1, 1, 0, 1, 0, 0, 1, 0, 1, 1, 1, 0] driver_Trace.c) :=
  cut_ok (kindOf := kindOf) (C := driver_Trace.ctx k) (n := .none) (L := driver_Trace.e3 k) (driver_Trace.xOk k) (by kernel_rfl) (by kernel_rfl) (fits_of (l := []) (by kernel_rfl) trivial) (fun _ => by kernel_rfl)
theorem driver_Trace.k4 (k : Nat) : LamOk (driver_Trace.ctx k) ((driver_Trace.ctx k).Λ 4) (sub [1, 1, 1, 1, 0, 1, 0, 0, 1, 0, 1, 1, 1, 1, 1, 0] driver_Trace.c) :=
  cut_ok (kindOf := kindOf) (C := driver_Trace.ctx k) (n := .none) (L := driver_Trace.e4 k) (driver_Trace.xOk k) (by kernel_rfl) (by kernel_rfl) (fits_of (l := []) (by kernel_rfl) trivial) (fun _ => by kernel_rfl)
theorem driver_Trace.k5 (k : Nat) : LamOk (driver_Trace.ctx k) ((driver_Trace.ctx k).Λ 5) (sub [1, 1, 1, 1, 0, 1, 0, 0, 1, 0, 1, 1, 1, 1, 1, 1, 0] driver_Trace.c) :=
  cut_ok (kindOf := kindOf) (C := driver_Trace.ctx k) (n := .none) (L := driver_Trace.e5 k) (driver_Trace.xOk k) (by kernel_rfl) (by kernel_rfl) (fits_of (l := []) (by kernel_rfl) trivial) (fun _ => by kernel_rfl)
theorem driver_Trace.k6 (k : Nat) : LamOk (driver_Trace.ctx k) ((driver_Trace.ctx k).Λ 6) (.loop (sub [1, 1, 1, 1, 0, 1, 0, 0] driver_Trace.c)) :=
  loop_ok (kindOf := kindOf) (C := driver_Trace.ctx k) (n := (.pair .none (.pair (.pair .none (.pair (.pair (.cut 2) .none) (.pair .none (.pair (.cut 3) (.pair .none (.pair (.cut 4) (.pair (.cut 5) .none))))))) .none))) (L := driver_Trace.e6 k) (driver_Trace.xOk k) (by kernel_rfl) (by kernel_rfl) (fits_of (l := [(2, .loop (sub [1, 1, 1, 1, 0, 1, 0, 0, 1, 0, 1, 0, 0, 0] driver_Trace.c)), (3, (sub [1, 1, 1, 1, 0, 1, 0, 0, 1, 0, 1, 1, 1, 0] driver_Trace.c)), (4, (sub [1, 1, 1, 1, 0, 1, 0, 0, 1, 0, 1, 1, 1, 1, 1, 0] driver_Trace.c)), (5, (sub [1, 1, 1, 1, 0, 1, 0, 0, 1, 0, 1, 1, 1, 1, 1, 1, 0] driver_Trace.c))]) (by kernel_rfl) ⟨driver_Trace.k2 k, driver_Trace.k3 k, driver_Trace.k4 k, driver_Trace.k5 k, trivial⟩) (fun _ => by kernel_rfl) (fun _ _ => by kernel_rfl) k
theorem driver_Trace.call (k : Nat) : CallV Tryd.prog E glob 11 driver_Trace.i driver_Trace.p driver_Trace.b (driver_Trace.f k) :=
  fn_okZ (kindOf := kindOf) (C := driver_Trace.ctx k) (n := (.pair .none (.pair .none (.pair (.pair .none (.pair (.cut 0) .none)) (.pair .none (.pair (.pair .none (.pair (.cut 6) .none)) .none)))))) (driver_Trace.xOk k) Tryd.func11 driver_Trace.hb (fits_of (l := [(0, .loop (sub [1, 1, 0, 1, 0, 0] driver_Trace.c)), (6, .loop (sub [1, 1, 1, 1, 0, 1, 0, 0] driver_Trace.c))]) (by kernel_rfl) ⟨driver_Trace.k0 k, driver_Trace.k6 k, trivial⟩) (fun _ => by kernel_rfl)
noncomputable def driver_Trace.ent (k : Nat) : EntS κ := ⟨11, [], entOf driver_Trace.i driver_Trace.p driver_Trace.b true (driver_Trace.f k) E⟩
theorem driver_Trace.entOk (k : Nat) : EntOk Tryd.prog E glob 11 (driver_Trace.ent k).run := ent_free encOk (callable_of Tryd.func11 (by kernel_rfl) (by kernel_rfl)) (by rfl) trivial (driver_Trace.call k)
noncomputable def junctionref14_told.c : Go.Code := match Tryd.f25.body with | some c => c | none => .skip
theorem junctionref14_told.hb : Tryd.f25.body = some junctionref14_told.c := by kernel_rfl
noncomputable def junctionref14_told.x (k : Nat) (ls : List (LamS κ)) : Ctx κ := mkCtx [] [] ls
def junctionref14_told.i : List (Pat κ) := [.agg [.str, .int .i64]]
def junctionref14_told.s0 : Sh κ := ⟨0, [1], [.rop [.str, .int .i64]], []⟩
def junctionref14_told.o0 : List (Ex × Sh κ) := [(.ret, ⟨0, [2], [.bool], []⟩), (.normal, ⟨0, [], [], []⟩)]
noncomputable def junctionref14_told.l0 (k : Nat) (t1 : ByteArray) (t1_1 : Int) : Option ((Bool × Unit) × Unit ⊕ Unit × Unit) :=
    if Decidable.decide ((↑(ByteArray.size t1) : Int) > (64 : Int)) = Bool.false then
      if Decidable.decide (t1_1 < (-1 : Int)) = Bool.false then
        if Decidable.decide (t1_1 > (255 : Int)) = Bool.true then Option.some (Sum.inl ((Bool.false, ()), ())) else Option.some (Sum.inr ((), ()))
      else Option.some (Sum.inl ((Bool.false, ()), ()))
    else Option.some (Sum.inl ((Bool.false, ()), ()))
def junctionref14_told.w0 : List Nat := [5, 6, 7, 8, 9, 10, 11, 12, 13, 14, 15, 16, 17, 18, 2]
noncomputable def junctionref14_told.e0 (k : Nat) : junctionref14_told.s0.den → Option (OutT junctionref14_told.o0) := fun d => junctionref14_told.l0 k d.1.1.1 d.1.1.2.1
noncomputable def junctionref14_told.m0 (k : Nat) : LamS κ := ⟨lamK 44 junctionref14_told.w0 junctionref14_told.s0 junctionref14_told.o0 (junctionref14_told.e0 k)⟩
def junctionref14_told.s2 : Sh κ := ⟨0, [1, 3], [.rop [.str, .int .i64], .int .i64], []⟩
def junctionref14_told.s1 : Sh κ := ⟨0, [1, 3], [.rop [.str, .int .i64], .int .i64], []⟩
def junctionref14_told.o1 : List (Ex × Sh κ) := [(.normal, ⟨0, [], [], []⟩), (.ret, ⟨0, [2], [.bool], []⟩)]
noncomputable def junctionref14_told.l1 (k : Nat) (t1 : ByteArray) (t1_1 : Int) (t3 : Int) : Option (Unit × Unit ⊕ (Bool × Unit) × Unit) :=
    if (0 : Int) ≤ t3 ∧ t3 < (↑(ByteArray.size t1) : Int) then
      if (Go.Am.bt t1 t3 != (114 : Int)) = Bool.true then
        if (Go.Am.bt t1 t3 != (108 : Int)) = Bool.true then
          if (Go.Am.bt t1 t3 != (103 : Int)) = Bool.true then
            if (Go.Am.bt t1 t3 != (97 : Int)) = Bool.true then Option.some (Sum.inr ((Bool.false, ()), ())) else Option.some (Sum.inl ((), ()))
          else Option.some (Sum.inl ((), ()))
        else Option.some (Sum.inl ((), ()))
      else Option.some (Sum.inl ((), ()))
    else Option.none
def junctionref14_told.w1 : List Nat := [26, 27, 28, 29, 4, 30, 31, 32, 33, 34, 35, 36, 37, 38, 39, 40, 41, 42, 43, 2]
noncomputable def junctionref14_told.e1 (k : Nat) : junctionref14_told.s1.den → Option (OutT junctionref14_told.o1) := fun d => junctionref14_told.l1 k d.1.1.1 d.1.1.2.1 d.1.2.1
noncomputable def junctionref14_told.m1 (k : Nat) : LamS κ := ⟨lamK 44 junctionref14_told.w1 junctionref14_told.s1 junctionref14_told.o1 (junctionref14_told.e1 k)⟩
def junctionref14_told.o2 : List (Ex × Sh κ) := [(.ret, ⟨0, [2], [.bool], []⟩), (.exit 0, ⟨0, [], [], []⟩)]
noncomputable def junctionref14_told.l2 (k : Nat) : Nat → ByteArray → Int → Int → Option ((Bool × Unit) × Unit ⊕ Unit × Unit)
  | 0, _, _, _ => none
  | j + 1, t1, t1_1, t3 =>
    if Decidable.decide (t3 < (↑(ByteArray.size t1) : Int)) = Bool.true then
      Option.bind (Go.Am.Tryd.junctionref14_told.l1 k t1 t1_1 t3) fun r0 =>
        Go.Am.onSum r0 (fun r1 => junctionref14_told.l2 k j t1 t1_1 (Go.IntKind.wrap Go.IntKind.i64 (t3 + (1 : Int)))) fun r1 => Option.some (Sum.inl ((Prod.fst (Prod.fst r1), ()), ()))
    else Option.some (Sum.inr ((), ()))
def junctionref14_told.w2 : List Nat := [19, 20, 21, 22, 23, 26, 27, 28, 29, 4, 30, 31, 32, 33, 34, 35, 36, 37, 38, 39, 40, 41, 42, 43, 2, 24, 25, 3]
noncomputable def junctionref14_told.e2 (k j : Nat) : junctionref14_told.s2.den → Option (OutT junctionref14_told.o2) := fun d => junctionref14_told.l2 k j d.1.1.1 d.1.1.2.1 d.1.2.1
noncomputable def junctionref14_told.m2 (k : Nat) : LamS κ := ⟨lamK 44 junctionref14_told.w2 junctionref14_told.s2 junctionref14_told.o2 (junctionref14_told.e2 k k)⟩
def junctionref14_told.p : Pat κ := .bool
def junctionref14_told.b : List (BPat κ) := []
noncomputable def junctionref14_told (k : Nat) (t0 : ByteArray) (t0_1 : Int) : Option (Bool × Unit) :=
    Option.bind (Go.Am.Tryd.junctionref14_told.l0 k t0 t0_1) fun r0 =>
      Go.Am.onSum r0 (fun r1 => Option.some (Prod.fst (Prod.fst r1), ())) fun r1 =>
        Option.bind (Go.Am.Tryd.junctionref14_told.l2 k k t0 t0_1 (0 : Int)) fun r2 =>
          Go.Am.onSum r2 (fun r3 => Option.some (Prod.fst (Prod.fst r3), ())) fun r3 => Option.some (Bool.true, ())
noncomputable def junctionref14_told.f (k : Nat) : dens junctionref14_told.i → Option (junctionref14_told.p.den × densB junctionref14_told.b) := fun d => junctionref14_told k d.1.1 d.1.2.1
noncomputable def junctionref14_told.ctx (k : Nat) : Ctx κ := junctionref14_told.x k [junctionref14_told.m0 k, junctionref14_told.m1 k, junctionref14_told.m2 k]
theorem junctionref14_told.xOk (k : Nat) : (junctionref14_told.ctx k).Ok := ctxOk trivial trivial
theorem junctionref14_told.k0 (k : Nat) : LamOk (junctionref14_told.ctx k) ((junctionref14_told.ctx k).Λ 0) (sub [1, 0] junctionref14_told.c) :=
  cut_ok (kindOf := kindOf) (C := junctionref14_told.ctx k) (n := .none) (L := junctionref14_told.e0 k) (junctionref14_told.xOk k) (by kernel_rfl) (by kernel_rfl) (fits_of (l := []) (by kernel_rfl) trivial) (fun _ => by kernel_rfl)
theorem junctionref14_told.k1 (k : Nat) : LamOk (junctionref14_told.ctx k) ((junctionref14_told.ctx k).Λ 1) (sub [1, 1, 0, 1, 0, 0, 1, 0] junctionref14_told.c) :=
  cut_ok (kindOf := kindOf) (C := junctionref14_told.ctx k) (n := .none) (L := junctionref14_told.e1 k) (junctionref14_told.xOk k) (by kernel_rfl) (by kernel_rfl) (fits_of (l := []) (by kernel_rfl) trivial) (fun _ => by kernel_rfl)
theorem junctionref14_told.k2 (k : Nat) : LamOk (junctionref14_told.ctx k) ((junctionref14_told.ctx k).Λ 2) (.loop (sub [1, 1, 0, 1, 0, 0] junctionref14_told.c)) :=
  loop_ok (kindOf := kindOf) (C := junctionref14_told.ctx k) (n := (.pair .none (.pair (.cut 1) .none))) (L := junctionref14_told.e2 k) (junctionref14_told.xOk k) (by kernel_rfl) (by kernel_rfl) (fits_of (l := [(1, (sub [1, 1, 0, 1, 0, 0, 1, 0] junctionref14_told.c))]) (by kernel_rfl) ⟨junctionref14_told.k1 k, trivial⟩) (fun _ => by kernel_rfl) (fun _ _ => by kernel_rfl) k
theorem junctionref14_told.call (k : Nat) : CallV Tryd.prog E glob 25 junctionref14_told.i junctionref14_told.p junctionref14_told.b (junctionref14_told.f k) :=
  fn_okZ (kindOf := kindOf) (C := junctionref14_told.ctx k) (n := (.pair (.ops [0] 0) (.pair (.cut 0) (.pair (.pair .none (.pair (.cut 2) .none)) .none)))) (junctionref14_told.xOk k) Tryd.func25 junctionref14_told.hb (fits_of (l := [(0, (sub [1, 0] junctionref14_told.c)), (2, .loop (sub [1, 1, 0, 1, 0, 0] junctionref14_told.c))]) (by kernel_rfl) ⟨junctionref14_told.k0 k, junctionref14_told.k2 k, trivial⟩) (fun _ => by kernel_rfl)
noncomputable def junctionref14_told.ent (k : Nat) : EntS κ := ⟨25, [], entOf junctionref14_told.i junctionref14_told.p junctionref14_told.b true (junctionref14_told.f k) E⟩
theorem junctionref14_told.entOk (k : Nat) : EntOk Tryd.prog E glob 25 (junctionref14_told.ent k).run := ent_free encOk (callable_of Tryd.func25 (by kernel_rfl) (by kernel_rfl)) (by rfl) trivial (junctionref14_told.call k)
noncomputable def junctionref14_told.qent (k : Nat) : QEntS κ := ⟨25, qentOf junctionref14_told.i junctionref14_told.p (junctionref14_told.f k) E⟩
theorem junctionref14_told.qentOk (k : Nat) : QEntOk Tryd.prog E glob 25 (junctionref14_told.qent k).run := qent_ok encOk (callable_of Tryd.func25 (by kernel_rfl) (by kernel_rfl)) (junctionref14_told.call k)
noncomputable def junctionref14_line.c : Go.Code := match Tryd.f26.body with | some c => c | none => .skip
theorem junctionref14_line.hb : Tryd.f26.body = some junctionref14_line.c := by kernel_rfl
noncomputable def junctionref14_line.x (k : Nat) (ls : List (LamS κ)) : Ctx κ := mkCtx [junctionref14_Decimal_11.ent k] [junctionref14_Decimal_11.qent k] ls
def junctionref14_line.i : List (Pat κ) := [.int .i64, .int .i64, .agg [.str, .int .i64]]
def junctionref14_line.s0 : Sh κ := ⟨0, [0, 1, 7], [.int .i64, .int .i64, .str], []⟩
def junctionref14_line.o0 : List (Ex × Sh κ) := [(.normal, ⟨0, [7], [.str], []⟩)]
noncomputable def junctionref14_line.l0 (k : Nat) (t0 : Int) (t1 : Int) (t7 : ByteArray) : Option ((ByteArray × Unit) × Unit) :=
    if Decidable.decide (t1 > t0) = Bool.true then
      Go.Am.tooLong (ByteArray.size t7 + ByteArray.size (ByteArray.mk #[(45 : UInt8)]))
        (Option.bind (Go.Am.Tryd.junctionref14_Decimal_11 k t1) fun r0 =>
          Go.Am.tooLong (ByteArray.size (t7 ++ ByteArray.mk #[(45 : UInt8)]) + ByteArray.size (Prod.fst r0))
            (Option.some ((t7 ++ ByteArray.mk #[(45 : UInt8)] ++ Prod.fst r0, ()), ())))
    else Option.some ((t7, ()), ())
def junctionref14_line.w0 : List Nat := [12, 13, 14, 15, 16, 17, 18, 19, 7]
noncomputable def junctionref14_line.e0 (k : Nat) : junctionref14_line.s0.den → Option (OutT junctionref14_line.o0) := fun d => junctionref14_line.l0 k d.1.1 d.1.2.1 d.1.2.2.1
noncomputable def junctionref14_line.m0 (k : Nat) : LamS κ := ⟨lamK 38 junctionref14_line.w0 junctionref14_line.s0 junctionref14_line.o0 (junctionref14_line.e0 k)⟩
def junctionref14_line.s1 : Sh κ := ⟨0, [8], [.str], []⟩
def junctionref14_line.o1 : List (Ex × Sh κ) := [(.normal, ⟨0, [8], [.str], []⟩)]
noncomputable def junctionref14_line.l1 (k : Nat) (t8 : ByteArray) : Option ((ByteArray × Unit) × Unit) :=
    if (ByteArray.toList t8 == ByteArray.toList (ByteArray.mk #[])) = Bool.true then Option.some ((ByteArray.mk #[(46 : UInt8)], ()), ())
    else Option.some ((t8, ()), ())
def junctionref14_line.w1 : List Nat := [22, 23, 8]
noncomputable def junctionref14_line.e1 (k : Nat) : junctionref14_line.s1.den → Option (OutT junctionref14_line.o1) := fun d => junctionref14_line.l1 k d.1.1
noncomputable def junctionref14_line.m1 (k : Nat) : LamS κ := ⟨lamK 38 junctionref14_line.w1 junctionref14_line.s1 junctionref14_line.o1 (junctionref14_line.e1 k)⟩
def junctionref14_line.s2 : Sh κ := ⟨0, [5, 9], [.rop [.str, .int .i64], .str], []⟩
def junctionref14_line.o2 : List (Ex × Sh κ) := [(.normal, ⟨0, [9], [.str], []⟩)]
noncomputable def junctionref14_line.l2 (k : Nat) (t5 : ByteArray) (t5_1 : Int) (t9 : ByteArray) : Option ((ByteArray × Unit) × Unit) :=
    if Decidable.decide (t5_1 ≥ (0 : Int)) = Bool.true then Option.bind (Go.Am.Tryd.junctionref14_Decimal_11 k t5_1) fun r0 => Option.some ((Prod.fst r0, ()), ())
    else Option.some ((t9, ()), ())
def junctionref14_line.w2 : List Nat := [24, 25, 26, 27, 28, 29, 9]
noncomputable def junctionref14_line.e2 (k : Nat) : junctionref14_line.s2.den → Option (OutT junctionref14_line.o2) := fun d => junctionref14_line.l2 k d.1.1.1 d.1.1.2.1 d.1.2.1
noncomputable def junctionref14_line.m2 (k : Nat) : LamS κ := ⟨lamK 38 junctionref14_line.w2 junctionref14_line.s2 junctionref14_line.o2 (junctionref14_line.e2 k)⟩
def junctionref14_line.p : Pat κ := .str
def junctionref14_line.b : List (BPat κ) := []
noncomputable def junctionref14_line (k : Nat) (t0 : Int) (t1 : Int) (t2 : ByteArray) (t2_1 : Int) : Option (ByteArray × Unit) :=
    Option.bind (Go.Am.Tryd.junctionref14_Decimal_11 k t0) fun r0 =>
      Option.bind (Go.Am.Tryd.junctionref14_line.l0 k t0 t1 (Prod.fst r0)) fun r1 =>
        Option.bind (Go.Am.Tryd.junctionref14_line.l1 k t2) fun r2 =>
          Option.bind (Go.Am.Tryd.junctionref14_line.l2 k t2 t2_1 (ByteArray.mk #[(45 : UInt8)])) fun r3 =>
            Go.Am.tooLong (ByteArray.size (Prod.fst (Prod.fst r1)) + ByteArray.size (ByteArray.mk #[(32 : UInt8)]))
              (Go.Am.tooLong (ByteArray.size (Prod.fst (Prod.fst r1) ++ ByteArray.mk #[(32 : UInt8)]) + ByteArray.size (Prod.fst (Prod.fst r2)))
                (Go.Am.tooLong
                  (ByteArray.size (Prod.fst (Prod.fst r1) ++ ByteArray.mk #[(32 : UInt8)] ++ Prod.fst (Prod.fst r2)) +
                    ByteArray.size (ByteArray.mk #[(32 : UInt8)]))
                  (Go.Am.tooLong
                    (ByteArray.size (Prod.fst (Prod.fst r1) ++ ByteArray.mk #[(32 : UInt8)] ++ Prod.fst (Prod.fst r2) ++ ByteArray.mk #[(32 : UInt8)]) +
                      ByteArray.size (Prod.fst (Prod.fst r3)))
                    (Go.Am.tooLong
                      (ByteArray.size
                          (Prod.fst (Prod.fst r1) ++ ByteArray.mk #[(32 : UInt8)] ++ Prod.fst (Prod.fst r2) ++ ByteArray.mk #[(32 : UInt8)] ++
                            Prod.fst (Prod.fst r3)) +
                        ByteArray.size (ByteArray.mk #[(10 : UInt8)]))
                      (Option.some
                        (Prod.fst (Prod.fst r1) ++ ByteArray.mk #[(32 : UInt8)] ++ Prod.fst (Prod.fst r2) ++ ByteArray.mk #[(32 : UInt8)] ++
                              Prod.fst (Prod.fst r3) ++
                            ByteArray.mk #[(10 : UInt8)],
                          ()))))))
noncomputable def junctionref14_line.f (k : Nat) : dens junctionref14_line.i → Option (junctionref14_line.p.den × densB junctionref14_line.b) := fun d => junctionref14_line k d.1 d.2.1 d.2.2.1.1 d.2.2.1.2.1
noncomputable def junctionref14_line.ctx (k : Nat) : Ctx κ := junctionref14_line.x k [junctionref14_line.m0 k, junctionref14_line.m1 k, junctionref14_line.m2 k]
theorem junctionref14_line.xOk (k : Nat) : (junctionref14_line.ctx k).Ok := ctxOk ⟨junctionref14_Decimal_11.entOk k, trivial⟩ ⟨junctionref14_Decimal_11.qentOk k, trivial⟩
theorem junctionref14_line.k0 (k : Nat) : LamOk (junctionref14_line.ctx k) ((junctionref14_line.ctx k).Λ 0) (sub [1, 1, 0] junctionref14_line.c) :=
  cut_ok (kindOf := kindOf) (C := junctionref14_line.ctx k) (n := .none) (L := junctionref14_line.e0 k) (junctionref14_line.xOk k) (by kernel_rfl) (by kernel_rfl) (fits_of (l := []) (by kernel_rfl) trivial) (fun _ => by kernel_rfl)
theorem junctionref14_line.k1 (k : Nat) : LamOk (junctionref14_line.ctx k) ((junctionref14_line.ctx k).Λ 1) (sub [1, 1, 1, 1, 0] junctionref14_line.c) :=
  cut_ok (kindOf := kindOf) (C := junctionref14_line.ctx k) (n := .none) (L := junctionref14_line.e1 k) (junctionref14_line.xOk k) (by kernel_rfl) (by kernel_rfl) (fits_of (l := []) (by kernel_rfl) trivial) (fun _ => by kernel_rfl)
theorem junctionref14_line.k2 (k : Nat) : LamOk (junctionref14_line.ctx k) ((junctionref14_line.ctx k).Λ 2) (sub [1, 1, 1, 1, 1, 1, 0] junctionref14_line.c) :=
  cut_ok (kindOf := kindOf) (C := junctionref14_line.ctx k) (n := .none) (L := junctionref14_line.e2 k) (junctionref14_line.xOk k) (by kernel_rfl) (by kernel_rfl) (fits_of (l := []) (by kernel_rfl) trivial) (fun _ => by kernel_rfl)
theorem junctionref14_line.call (k : Nat) : CallV Tryd.prog E glob 26 junctionref14_line.i junctionref14_line.p junctionref14_line.b (junctionref14_line.f k) :=
  fn_okZ (kindOf := kindOf) (C := junctionref14_line.ctx k) (n := (.pair (.ops [0] 0) (.pair .none (.pair (.cut 0) (.pair .none (.pair (.cut 1) (.pair .none (.pair (.cut 2) .none)))))))) (junctionref14_line.xOk k) Tryd.func26 junctionref14_line.hb (fits_of (l := [(0, (sub [1, 1, 0] junctionref14_line.c)), (1, (sub [1, 1, 1, 1, 0] junctionref14_line.c)), (2, (sub [1, 1, 1, 1, 1, 1, 0] junctionref14_line.c))]) (by kernel_rfl) ⟨junctionref14_line.k0 k, junctionref14_line.k1 k, junctionref14_line.k2 k, trivial⟩) (fun _ => by kernel_rfl)
noncomputable def junctionref14_line.ent (k : Nat) : EntS κ := ⟨26, [], entOf junctionref14_line.i junctionref14_line.p junctionref14_line.b true (junctionref14_line.f k) E⟩
theorem junctionref14_line.entOk (k : Nat) : EntOk Tryd.prog E glob 26 (junctionref14_line.ent k).run := ent_free encOk (callable_of Tryd.func26 (by kernel_rfl) (by kernel_rfl)) (by rfl) trivial (junctionref14_line.call k)
noncomputable def junctionref14_line.qent (k : Nat) : QEntS κ := ⟨26, qentOf junctionref14_line.i junctionref14_line.p (junctionref14_line.f k) E⟩
theorem junctionref14_line.qentOk (k : Nat) : QEntOk Tryd.prog E glob 26 (junctionref14_line.qent k).run := qent_ok encOk (callable_of Tryd.func26 (by kernel_rfl) (by kernel_rfl)) (junctionref14_line.call k)
noncomputable def junctionref14_Trace.c : Go.Code := match Tryd.f12.body with | some c => c | none => .skip
theorem junctionref14_Trace.hb : Tryd.f12.body = some junctionref14_Trace.c := by kernel_rfl
noncomputable def junctionref14_Trace.x (k : Nat) (ls : List (LamS κ)) : Ctx κ := mkCtx [junctionref14_told.ent k, junctionref14_line.ent k] [junctionref14_told.qent k, junctionref14_line.qent k] ls
def junctionref14_Trace.i : List (Pat κ) := [.ro .T38]
def junctionref14_Trace.s2 : Sh κ := ⟨0, [0, 4, 5, 6], [.ro .T38, .str, .int .i64, .int .i64], []⟩
def junctionref14_Trace.s1 : Sh κ := ⟨0, [0, 4, 5, 6], [.ro .T38, .str, .int .i64, .int .i64], []⟩
def junctionref14_Trace.s0 : Sh κ := ⟨0, [0, 6], [.ro .T38, .int .i64], []⟩
def junctionref14_Trace.o0 : List (Ex × Sh κ) := [(.normal, ⟨0, [40], [.bool], []⟩)]
noncomputable def junctionref14_Trace.l0 (k : Nat) (t0 : List S38) (t6 : Int) : Option ((Bool × Unit) × Unit) :=
    if (Go.IntKind.wrap Go.IntKind.i64 (t6 + (1 : Int)) == (↑(List.length t0) : Int)) = Bool.false then
      if (0 : Int) ≤ Go.IntKind.wrap Go.IntKind.i64 (t6 + (1 : Int)) ∧ Go.IntKind.wrap Go.IntKind.i64 (t6 + (1 : Int)) < (↑(List.length t0) : Int) then
        if (0 : Int) ≤ t6 ∧ t6 < (↑(List.length t0) : Int) then
          if
              Go.Program.eqGuardType (Go.Am.Ctx.P (Go.Am.Tryd.junctionref14_Trace.x k [])) (Go.Program.depth (Go.Am.Ctx.P (Go.Am.Tryd.junctionref14_Trace.x k [])))
                    (38 : Nat) =
                  Bool.false ∧
                Go.Program.stoodInHeld (Go.Am.Ctx.P (Go.Am.Tryd.junctionref14_Trace.x k [])) (38 : Nat) = Bool.false then
            Option.some
              ((!(ByteArray.toList
                          (Go.Am.Tryd.S38.f0
                            (List.getD t0 (Int.toNat (Go.IntKind.wrap Go.IntKind.i64 (t6 + (1 : Int)))) (Go.Am.Tryd.S38.mk ByteArray.empty (0 : Int)))) ==
                        ByteArray.toList (Go.Am.Tryd.S38.f0 (List.getD t0 (Int.toNat t6) (Go.Am.Tryd.S38.mk ByteArray.empty (0 : Int)))) &&
                      (Go.Am.Tryd.S38.f1
                            (List.getD t0 (Int.toNat (Go.IntKind.wrap Go.IntKind.i64 (t6 + (1 : Int)))) (Go.Am.Tryd.S38.mk ByteArray.empty (0 : Int))) ==
                          Go.Am.Tryd.S38.f1 (List.getD t0 (Int.toNat t6) (Go.Am.Tryd.S38.mk ByteArray.empty (0 : Int))) &&
                        Bool.true)),
                  ()),
                ())
          else Option.none
        else Option.none
      else Option.none
    else Option.some ((Bool.true, ()), ())
def junctionref14_Trace.w0 : List Nat := [24, 25, 26, 27, 28, 29, 30, 31, 32, 33, 34, 35, 36, 37, 38, 39, 40]
noncomputable def junctionref14_Trace.e0 (k : Nat) : junctionref14_Trace.s0.den → Option (OutT junctionref14_Trace.o0) := fun d => junctionref14_Trace.l0 k d.1.1 d.1.2.1
noncomputable def junctionref14_Trace.m0 (k : Nat) : LamS κ := ⟨lamK 53 junctionref14_Trace.w0 junctionref14_Trace.s0 junctionref14_Trace.o0 (junctionref14_Trace.e0 k)⟩
def junctionref14_Trace.o1 : List (Ex × Sh κ) := [(.ret, ⟨0, [2, 3], [.str, .int .i64], []⟩), (.normal, ⟨0, [5, 4], [.int .i64, .str], []⟩)]
noncomputable def junctionref14_Trace.l1 (k : Nat) (t0 : List S38) (t4 : ByteArray) (t5 : Int) (t6 : Int) : Option ((ByteArray × Int × Unit) × Unit ⊕ (Int × ByteArray × Unit) × Unit) :=
    if (0 : Int) ≤ t6 ∧ t6 < (↑(List.length t0) : Int) then
      Option.bind
        (Go.Am.Tryd.junctionref14_told k (Go.Am.Tryd.S38.f0 (List.getD t0 (Int.toNat t6) (Go.Am.Tryd.S38.mk ByteArray.empty (0 : Int))))
          (Go.Am.Tryd.S38.f1 (List.getD t0 (Int.toNat t6) (Go.Am.Tryd.S38.mk ByteArray.empty (0 : Int)))))
        fun r0 =>
        if (!Prod.fst r0) = Bool.true then Option.some (Sum.inl ((ByteArray.mk #[], (140 : Int), ()), ()))
        else
          Option.bind (Go.Am.Tryd.junctionref14_Trace.l0 k t0 t6) fun r1 =>
            if Prod.fst (Prod.fst r1) = Bool.true then
              if (0 : Int) ≤ t6 ∧ t6 < (↑(List.length t0) : Int) then
                Option.bind
                  (Go.Am.Tryd.junctionref14_line k t5 t6 (Go.Am.Tryd.S38.f0 (List.getD t0 (Int.toNat t6) (Go.Am.Tryd.S38.mk ByteArray.empty (0 : Int))))
                    (Go.Am.Tryd.S38.f1 (List.getD t0 (Int.toNat t6) (Go.Am.Tryd.S38.mk ByteArray.empty (0 : Int)))))
                  fun r2 =>
                  Go.Am.tooLong (ByteArray.size t4 + ByteArray.size (Prod.fst r2))
                    (Option.some (Sum.inr ((Go.IntKind.wrap Go.IntKind.i64 (t6 + (1 : Int)), t4 ++ Prod.fst r2, ()), ())))
              else Option.none
            else Option.some (Sum.inr ((t5, t4, ()), ()))
    else Option.none
def junctionref14_Trace.w1 : List Nat := [17, 18, 19, 20, 21, 7, 22, 23, 2, 3, 24, 25, 26, 27, 28, 29, 30, 31, 32, 33, 34, 35, 36, 37, 38, 39, 40, 41, 42, 43, 44, 45, 46, 47, 48, 49, 4, 50, 51, 5]
noncomputable def junctionref14_Trace.e1 (k : Nat) : junctionref14_Trace.s1.den → Option (OutT junctionref14_Trace.o1) := fun d => junctionref14_Trace.l1 k d.1.1 d.1.2.1 d.1.2.2.1 d.1.2.2.2.1
noncomputable def junctionref14_Trace.m1 (k : Nat) : LamS κ := ⟨lamK 53 junctionref14_Trace.w1 junctionref14_Trace.s1 junctionref14_Trace.o1 (junctionref14_Trace.e1 k)⟩
def junctionref14_Trace.o2 : List (Ex × Sh κ) := [(.ret, ⟨0, [2, 3], [.str, .int .i64], []⟩), (.exit 0, ⟨0, [4], [.str], []⟩)]
noncomputable def junctionref14_Trace.l2 (k : Nat) : Nat → (List S38) → ByteArray → Int → Int → Option ((ByteArray × Int × Unit) × Unit ⊕ (ByteArray × Unit) × Unit)
  | 0, _, _, _, _ => none
  | j + 1, t0, t4, t5, t6 =>
    if Decidable.decide (t6 < (↑(List.length t0) : Int)) = Bool.true then
      Option.bind (Go.Am.Tryd.junctionref14_Trace.l1 k t0 t4 t5 t6) fun r0 =>
        Go.Am.onSum r0 (fun r1 => Option.some (Sum.inl ((Prod.fst (Prod.fst r1), Prod.fst (Prod.snd (Prod.fst r1)), ()), ()))) fun r1 =>
          junctionref14_Trace.l2 k j t0 (Prod.fst (Prod.snd (Prod.fst r1))) (Prod.fst (Prod.fst r1)) (Go.IntKind.wrap Go.IntKind.i64 (t6 + (1 : Int)))
    else Option.some (Sum.inr ((t4, ()), ()))
def junctionref14_Trace.w2 : List Nat := [11, 12, 13, 14, 17, 18, 19, 20, 21, 7, 22, 23, 2, 3, 24, 25, 26, 27, 28, 29, 30, 31, 32, 33, 34, 35, 36, 37, 38, 39, 40, 41, 42, 43, 44, 45, 46, 47, 48, 49, 4, 50, 51, 5, 15, 16, 6]
noncomputable def junctionref14_Trace.e2 (k j : Nat) : junctionref14_Trace.s2.den → Option (OutT junctionref14_Trace.o2) := fun d => junctionref14_Trace.l2 k j d.1.1 d.1.2.1 d.1.2.2.1 d.1.2.2.2.1
noncomputable def junctionref14_Trace.m2 (k : Nat) : LamS κ := ⟨lamK 53 junctionref14_Trace.w2 junctionref14_Trace.s2 junctionref14_Trace.o2 (junctionref14_Trace.e2 k k)⟩
def junctionref14_Trace.p : Pat κ := .tup [.str, .int .i64]
def junctionref14_Trace.b : List (BPat κ) := []
noncomputable def junctionref14_Trace (k : Nat) (t0 : List S38) : Option ((ByteArray × Int × Unit) × Unit) :=
    if Decidable.decide ((↑(List.length t0) : Int) > (65536 : Int)) = Bool.true then Option.some ((ByteArray.mk #[], (140 : Int), ()), ())
    else
      Option.bind (Go.Am.Tryd.junctionref14_Trace.l2 k k t0 (ByteArray.mk #[]) (0 : Int) (0 : Int)) fun r0 =>
        Go.Am.onSum r0 (fun r1 => Option.some ((Prod.fst (Prod.fst r1), Prod.fst (Prod.snd (Prod.fst r1)), ()), ())) fun r1 =>
          Option.some ((Prod.fst (Prod.fst r1), (0 : Int), ()), ())
noncomputable def junctionref14_Trace.f (k : Nat) : dens junctionref14_Trace.i → Option (junctionref14_Trace.p.den × densB junctionref14_Trace.b) := fun d => junctionref14_Trace k d.1
noncomputable def junctionref14_Trace.ctx (k : Nat) : Ctx κ := junctionref14_Trace.x k [junctionref14_Trace.m0 k, junctionref14_Trace.m1 k, junctionref14_Trace.m2 k]
theorem junctionref14_Trace.xOk (k : Nat) : (junctionref14_Trace.ctx k).Ok := ctxOk ⟨junctionref14_told.entOk k, junctionref14_line.entOk k, trivial⟩ ⟨junctionref14_told.qentOk k, junctionref14_line.qentOk k, trivial⟩
theorem junctionref14_Trace.k0 (k : Nat) : LamOk (junctionref14_Trace.ctx k) ((junctionref14_Trace.ctx k).Λ 0) (sub [1, 1, 1, 1, 0, 1, 0, 0, 1, 0, 0, 1, 1, 0] junctionref14_Trace.c) :=
  cut_ok (kindOf := kindOf) (C := junctionref14_Trace.ctx k) (n := (.ops [] 17)) (L := junctionref14_Trace.e0 k) (junctionref14_Trace.xOk k) (by kernel_rfl) (by kernel_rfl) (fits_of (l := []) (by kernel_rfl) trivial) (fun _ => by kernel_rfl)
theorem junctionref14_Trace.k1 (k : Nat) : LamOk (junctionref14_Trace.ctx k) ((junctionref14_Trace.ctx k).Λ 1) (sub [1, 1, 1, 1, 0, 1, 0, 0, 1, 0] junctionref14_Trace.c) :=
  cut_ok (kindOf := kindOf) (C := junctionref14_Trace.ctx k) (n := (.pair (.pair .none (.pair .none (.pair (.cut 0) .none))) .none)) (L := junctionref14_Trace.e1 k) (junctionref14_Trace.xOk k) (by kernel_rfl) (by kernel_rfl) (fits_of (l := [(0, (sub [1, 1, 1, 1, 0, 1, 0, 0, 1, 0, 0, 1, 1, 0] junctionref14_Trace.c))]) (by kernel_rfl) ⟨junctionref14_Trace.k0 k, trivial⟩) (fun _ => by kernel_rfl)
theorem junctionref14_Trace.k2 (k : Nat) : LamOk (junctionref14_Trace.ctx k) ((junctionref14_Trace.ctx k).Λ 2) (.loop (sub [1, 1, 1, 1, 0, 1, 0, 0] junctionref14_Trace.c)) :=
  loop_ok (kindOf := kindOf) (C := junctionref14_Trace.ctx k) (n := (.pair .none (.pair (.cut 1) .none))) (L := junctionref14_Trace.e2 k) (junctionref14_Trace.xOk k) (by kernel_rfl) (by kernel_rfl) (fits_of (l := [(1, (sub [1, 1, 1, 1, 0, 1, 0, 0, 1, 0] junctionref14_Trace.c))]) (by kernel_rfl) ⟨junctionref14_Trace.k1 k, trivial⟩) (fun _ => by kernel_rfl) (fun _ _ => by kernel_rfl) k
theorem junctionref14_Trace.call (k : Nat) : CallV Tryd.prog E glob 12 junctionref14_Trace.i junctionref14_Trace.p junctionref14_Trace.b (junctionref14_Trace.f k) :=
  fn_okZ (kindOf := kindOf) (C := junctionref14_Trace.ctx k) (n := (.pair .none (.pair .none (.pair .none (.pair .none (.pair (.pair .none (.pair (.cut 2) .none)) .none)))))) (junctionref14_Trace.xOk k) Tryd.func12 junctionref14_Trace.hb (fits_of (l := [(2, .loop (sub [1, 1, 1, 1, 0, 1, 0, 0] junctionref14_Trace.c))]) (by kernel_rfl) ⟨junctionref14_Trace.k2 k, trivial⟩) (fun _ => by kernel_rfl)
noncomputable def junctionref14_Trace.ent (k : Nat) : EntS κ := ⟨12, [], entOf junctionref14_Trace.i junctionref14_Trace.p junctionref14_Trace.b true (junctionref14_Trace.f k) E⟩
theorem junctionref14_Trace.entOk (k : Nat) : EntOk Tryd.prog E glob 12 (junctionref14_Trace.ent k).run := ent_free encOk (callable_of Tryd.func12 (by kernel_rfl) (by kernel_rfl)) (by rfl) trivial (junctionref14_Trace.call k)
noncomputable def junctionlaw14_SameEntries.c : Go.Code := match Tryd.f13.body with | some c => c | none => .skip
theorem junctionlaw14_SameEntries.hb : Tryd.f13.body = some junctionlaw14_SameEntries.c := by kernel_rfl
noncomputable def junctionlaw14_SameEntries.x (k : Nat) (ls : List (LamS κ)) : Ctx κ := mkCtx [] [] ls
def junctionlaw14_SameEntries.i : List (Pat κ) := [.ro .T38, .ro .T38]
def junctionlaw14_SameEntries.s0 : Sh κ := ⟨0, [0, 1, 5], [.ro .T38, .ro .T38, .int .i64], []⟩
def junctionlaw14_SameEntries.o0 : List (Ex × Sh κ) := [(.ret, ⟨0, [4], [.bool], []⟩), (.exit 0, ⟨0, [], [], []⟩)]
noncomputable def junctionlaw14_SameEntries.l0 (k : Nat) : Nat → (List S38) → (List S38) → Int → Option ((Bool × Unit) × Unit ⊕ Unit × Unit)
  | 0, _, _, _ => none
  | j + 1, t0, t1, t5 =>
    if Decidable.decide (t5 < (↑(List.length t0) : Int)) = Bool.true then
      if (0 : Int) ≤ t5 ∧ t5 < (↑(List.length t0) : Int) then
        if (0 : Int) ≤ t5 ∧ t5 < (↑(List.length t1) : Int) then
          if
              Go.Program.eqGuardType (Go.Am.Ctx.P (Go.Am.Tryd.junctionlaw14_SameEntries.x k []))
                    (Go.Program.depth (Go.Am.Ctx.P (Go.Am.Tryd.junctionlaw14_SameEntries.x k []))) (38 : Nat) =
                  Bool.false ∧
                Go.Program.stoodInHeld (Go.Am.Ctx.P (Go.Am.Tryd.junctionlaw14_SameEntries.x k [])) (38 : Nat) = Bool.false then
            if
                (!(ByteArray.toList (Go.Am.Tryd.S38.f0 (List.getD t0 (Int.toNat t5) (Go.Am.Tryd.S38.mk ByteArray.empty (0 : Int)))) ==
                        ByteArray.toList (Go.Am.Tryd.S38.f0 (List.getD t1 (Int.toNat t5) (Go.Am.Tryd.S38.mk ByteArray.empty (0 : Int)))) &&
                      (Go.Am.Tryd.S38.f1 (List.getD t0 (Int.toNat t5) (Go.Am.Tryd.S38.mk ByteArray.empty (0 : Int))) ==
                          Go.Am.Tryd.S38.f1 (List.getD t1 (Int.toNat t5) (Go.Am.Tryd.S38.mk ByteArray.empty (0 : Int))) &&
                        Bool.true))) =
                  Bool.true then
              Option.some (Sum.inl ((Bool.false, ()), ()))
            else junctionlaw14_SameEntries.l0 k j t0 t1 (Go.IntKind.wrap Go.IntKind.i64 (t5 + (1 : Int)))
          else Option.none
        else Option.none
      else Option.none
    else Option.some (Sum.inr ((), ()))
def junctionlaw14_SameEntries.w0 : List Nat := [11, 12, 13, 14, 17, 18, 19, 20, 21, 22, 23, 24, 25, 4, 15, 16, 5]
noncomputable def junctionlaw14_SameEntries.e0 (k j : Nat) : junctionlaw14_SameEntries.s0.den → Option (OutT junctionlaw14_SameEntries.o0) := fun d => junctionlaw14_SameEntries.l0 k j d.1.1 d.1.2.1 d.1.2.2.1
noncomputable def junctionlaw14_SameEntries.m0 (k : Nat) : LamS κ := ⟨lamK 26 junctionlaw14_SameEntries.w0 junctionlaw14_SameEntries.s0 junctionlaw14_SameEntries.o0 (junctionlaw14_SameEntries.e0 k k)⟩
def junctionlaw14_SameEntries.p : Pat κ := .bool
def junctionlaw14_SameEntries.b : List (BPat κ) := []
noncomputable def junctionlaw14_SameEntries (k : Nat) (t0 : List S38) (t1 : List S38) : Option (Bool × Unit) :=
    if ((↑(List.length t0) : Int) != (↑(List.length t1) : Int)) = Bool.true then Option.some (Bool.false, ())
    else
      Option.bind (Go.Am.Tryd.junctionlaw14_SameEntries.l0 k k t0 t1 (0 : Int)) fun r0 =>
        Go.Am.onSum r0 (fun r1 => Option.some (Prod.fst (Prod.fst r1), ())) fun r1 => Option.some (Bool.true, ())
noncomputable def junctionlaw14_SameEntries.f (k : Nat) : dens junctionlaw14_SameEntries.i → Option (junctionlaw14_SameEntries.p.den × densB junctionlaw14_SameEntries.b) := fun d => junctionlaw14_SameEntries k d.1 d.2.1
noncomputable def junctionlaw14_SameEntries.ctx (k : Nat) : Ctx κ := junctionlaw14_SameEntries.x k [junctionlaw14_SameEntries.m0 k]
theorem junctionlaw14_SameEntries.xOk (k : Nat) : (junctionlaw14_SameEntries.ctx k).Ok := ctxOk trivial trivial
theorem junctionlaw14_SameEntries.k0 (k : Nat) : LamOk (junctionlaw14_SameEntries.ctx k) ((junctionlaw14_SameEntries.ctx k).Λ 0) (.loop (sub [1, 1, 0, 1, 0, 0] junctionlaw14_SameEntries.c)) :=
  loop_ok (kindOf := kindOf) (C := junctionlaw14_SameEntries.ctx k) (n := (.pair .none (.pair (.pair (.pair (.ops [] 9) .none) .none) .none))) (L := junctionlaw14_SameEntries.e0 k) (junctionlaw14_SameEntries.xOk k) (by kernel_rfl) (by kernel_rfl) (fits_of (l := []) (by kernel_rfl) trivial) (fun _ => by kernel_rfl) (fun _ _ => by kernel_rfl) k
theorem junctionlaw14_SameEntries.call (k : Nat) : CallV Tryd.prog E glob 13 junctionlaw14_SameEntries.i junctionlaw14_SameEntries.p junctionlaw14_SameEntries.b (junctionlaw14_SameEntries.f k) :=
  fn_okZ (kindOf := kindOf) (C := junctionlaw14_SameEntries.ctx k) (n := (.pair .none (.pair .none (.pair (.pair .none (.pair (.cut 0) .none)) .none)))) (junctionlaw14_SameEntries.xOk k) Tryd.func13 junctionlaw14_SameEntries.hb (fits_of (l := [(0, .loop (sub [1, 1, 0, 1, 0, 0] junctionlaw14_SameEntries.c))]) (by kernel_rfl) ⟨junctionlaw14_SameEntries.k0 k, trivial⟩) (fun _ => by kernel_rfl)
noncomputable def junctionlaw14_SameEntries.ent (k : Nat) : EntS κ := ⟨13, [], entOf junctionlaw14_SameEntries.i junctionlaw14_SameEntries.p junctionlaw14_SameEntries.b true (junctionlaw14_SameEntries.f k) E⟩
theorem junctionlaw14_SameEntries.entOk (k : Nat) : EntOk Tryd.prog E glob 13 (junctionlaw14_SameEntries.ent k).run := ent_free encOk (callable_of Tryd.func13 (by kernel_rfl) (by kernel_rfl)) (by rfl) trivial (junctionlaw14_SameEntries.call k)
noncomputable def junctionlaw14_SameEntries.qent (k : Nat) : QEntS κ := ⟨13, qentOf junctionlaw14_SameEntries.i junctionlaw14_SameEntries.p (junctionlaw14_SameEntries.f k) E⟩
theorem junctionlaw14_SameEntries.qentOk (k : Nat) : QEntOk Tryd.prog E glob 13 (junctionlaw14_SameEntries.qent k).run := qent_ok encOk (callable_of Tryd.func13 (by kernel_rfl) (by kernel_rfl)) (junctionlaw14_SameEntries.call k)
noncomputable def junctionlaw14_DriverTraces.c : Go.Code := match Tryd.f4.body with | some c => c | none => .skip
theorem junctionlaw14_DriverTraces.hb : Tryd.f4.body = some junctionlaw14_DriverTraces.c := by kernel_rfl
noncomputable def junctionlaw14_DriverTraces.x (k : Nat) (ls : List (LamS κ)) : Ctx κ := mkCtx [driver_Trace.ent k, junctionref14_Trace.ent k, junctionlaw14_SameEntries.ent k] [junctionlaw14_SameEntries.qent k] ls
def junctionlaw14_DriverTraces.i : List (Pat κ) := [.ro .T38]
def junctionlaw14_DriverTraces.p : Pat κ := .bool
def junctionlaw14_DriverTraces.b : List (BPat κ) := []
noncomputable def junctionlaw14_DriverTraces (k : Nat) (t0 : List S38) : Option (Bool × Unit) :=
    Go.Am.room (List.length t0 * (24 : Nat))
      (Option.bind (Go.Am.Tryd.driver_Trace k t0) fun r0 =>
        Option.bind (Go.Am.Tryd.junctionref14_Trace k t0) fun r1 =>
          if (ByteArray.toList (Prod.fst (Prod.fst r0)) == ByteArray.toList (Prod.fst (Prod.fst r1))) = Bool.true then
            if (Prod.fst (Prod.snd (Prod.fst r0)) == Prod.fst (Prod.snd (Prod.fst r1))) = Bool.true then
              Option.bind (Go.Am.Tryd.junctionlaw14_SameEntries k t0 t0) fun r2 => Option.some (Prod.fst r2, ())
            else Option.some (Bool.false, ())
          else Option.some (Bool.false, ()))
noncomputable def junctionlaw14_DriverTraces.f (k : Nat) : dens junctionlaw14_DriverTraces.i → Option (junctionlaw14_DriverTraces.p.den × densB junctionlaw14_DriverTraces.b) := fun d => junctionlaw14_DriverTraces k d.1
noncomputable def junctionlaw14_DriverTraces.ctx (k : Nat) : Ctx κ := junctionlaw14_DriverTraces.x k []
theorem junctionlaw14_DriverTraces.xOk (k : Nat) : (junctionlaw14_DriverTraces.ctx k).Ok := ctxOk ⟨driver_Trace.entOk k, junctionref14_Trace.entOk k, junctionlaw14_SameEntries.entOk k, trivial⟩ ⟨junctionlaw14_SameEntries.qentOk k, trivial⟩
theorem junctionlaw14_DriverTraces.call (k : Nat) : CallV Tryd.prog E glob 4 junctionlaw14_DriverTraces.i junctionlaw14_DriverTraces.p junctionlaw14_DriverTraces.b (junctionlaw14_DriverTraces.f k) :=
  fn_okZ (kindOf := kindOf) (C := junctionlaw14_DriverTraces.ctx k) (n := .none) (junctionlaw14_DriverTraces.xOk k) Tryd.func4 junctionlaw14_DriverTraces.hb (fits_of (l := []) (by kernel_rfl) trivial) (fun _ => by kernel_rfl)
noncomputable def junctionlaw14_DriverTraces.ent (k : Nat) : EntS κ := ⟨4, [], entOf junctionlaw14_DriverTraces.i junctionlaw14_DriverTraces.p junctionlaw14_DriverTraces.b true (junctionlaw14_DriverTraces.f k) E⟩
theorem junctionlaw14_DriverTraces.entOk (k : Nat) : EntOk Tryd.prog E glob 4 (junctionlaw14_DriverTraces.ent k).run := ent_free encOk (callable_of Tryd.func4 (by kernel_rfl) (by kernel_rfl)) (by rfl) trivial (junctionlaw14_DriverTraces.call k)
noncomputable def junctionlaw14_DriverTraces.qent (k : Nat) : QEntS κ := ⟨4, qentOf junctionlaw14_DriverTraces.i junctionlaw14_DriverTraces.p (junctionlaw14_DriverTraces.f k) E⟩
theorem junctionlaw14_DriverTraces.qentOk (k : Nat) : QEntOk Tryd.prog E glob 4 (junctionlaw14_DriverTraces.qent k).run := qent_ok encOk (callable_of Tryd.func4 (by kernel_rfl) (by kernel_rfl)) (junctionlaw14_DriverTraces.call k)

end Go.Am.Tryd
