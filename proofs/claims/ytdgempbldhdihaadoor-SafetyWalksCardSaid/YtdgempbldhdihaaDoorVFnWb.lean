/- Written by a program of this work's (wip/am/Gen.tpl over the seat's translation); Lean checks it. -/
import Derived.Test.YtdgempbldhdihaaDoorVFnWa
namespace Go.Am.Tryd
open Go.Proofs Go.Am
set_option maxRecDepth 1000000
set_option linter.unusedVariables false
noncomputable def junctionref5_within.c : Go.Code := match Tryd.f51.body with | some c => c | none => .skip
theorem junctionref5_within.hb : Tryd.f51.body = some junctionref5_within.c := by kernel_rfl
noncomputable def junctionref5_within.x (k : Nat) (ls : List (LamS κ)) : Ctx κ := mkCtx [] [] ls
def junctionref5_within.i : List (Pat κ) := [.int .i64, .int .i64, .int .i64]
def junctionref5_within.p : Pat κ := .bool
def junctionref5_within.b : List (BPat κ) := []
noncomputable def junctionref5_within (k : Nat) (t0 : Int) (t1 : Int) (t2 : Int) : Option (Bool × Unit) :=
    if Decidable.decide (t0 ≥ t1) = Bool.true then Option.some (Decidable.decide (t0 ≤ t2), ()) else Option.some (Bool.false, ())
noncomputable def junctionref5_within.f (k : Nat) : dens junctionref5_within.i → Option (junctionref5_within.p.den × densB junctionref5_within.b) := fun d => junctionref5_within k d.1 d.2.1 d.2.2.1
noncomputable def junctionref5_within.ctx (k : Nat) : Ctx κ := junctionref5_within.x k []
theorem junctionref5_within.xOk (k : Nat) : (junctionref5_within.ctx k).Ok := ctxOk trivial trivial
theorem junctionref5_within.call (k : Nat) : CallV Tryd.prog E glob 51 junctionref5_within.i junctionref5_within.p junctionref5_within.b (junctionref5_within.f k) :=
  fn_okZ (kindOf := kindOf) (C := junctionref5_within.ctx k) (n := .none) (junctionref5_within.xOk k) Tryd.func51 junctionref5_within.hb (fits_of (l := []) (by kernel_rfl) trivial) (fun _ => by kernel_rfl)
noncomputable def junctionref5_within.ent (k : Nat) : EntS κ := ⟨51, [], entOf junctionref5_within.i junctionref5_within.p junctionref5_within.b true (junctionref5_within.f k) E⟩
theorem junctionref5_within.entOk (k : Nat) : EntOk Tryd.prog E glob 51 (junctionref5_within.ent k).run := ent_free encOk (callable_of Tryd.func51 (by kernel_rfl) (by kernel_rfl)) (by rfl) trivial (junctionref5_within.call k)
noncomputable def junctionref5_within.qent (k : Nat) : QEntS κ := ⟨51, qentOf junctionref5_within.i junctionref5_within.p (junctionref5_within.f k) E⟩
theorem junctionref5_within.qentOk (k : Nat) : QEntOk Tryd.prog E glob 51 (junctionref5_within.qent k).run := qent_ok encOk (callable_of Tryd.func51 (by kernel_rfl) (by kernel_rfl)) (junctionref5_within.call k)
noncomputable def junctionref5_Grid.c : Go.Code := match Tryd.f20.body with | some c => c | none => .skip
theorem junctionref5_Grid.hb : Tryd.f20.body = some junctionref5_Grid.c := by kernel_rfl
noncomputable def junctionref5_Grid.x (k : Nat) (ls : List (LamS κ)) : Ctx κ := mkCtx [junctionref5_within.ent k] [junctionref5_within.qent k] ls
def junctionref5_Grid.i : List (Pat κ) := [.agg [.ro .T42, .ro .T47]]
def junctionref5_Grid.s1 : Sh κ := ⟨0, [1, 3, 4], [.rop [.ro .T42, .ro .T47], .int .i64, .int .i64], []⟩
def junctionref5_Grid.s0 : Sh κ := ⟨0, [1, 4], [.rop [.ro .T42, .ro .T47], .int .i64], []⟩
def junctionref5_Grid.o0 : List (Ex × Sh κ) := [(.ret, ⟨0, [2], [.bool], []⟩), (.normal, ⟨0, [], [], []⟩)]
noncomputable def junctionref5_Grid.l0 (k : Nat) (t1 : List S42) (t1_1 : List S47) (t4 : Int) : Option ((Bool × Unit) × Unit ⊕ Unit × Unit) :=
    if (0 : Int) ≤ t4 ∧ t4 < (↑(List.length t1) : Int) then
      Option.bind
        (Go.Am.Tryd.junctionref5_within k
          (Go.Am.Tryd.S42.f1 (List.getD t1 (Int.toNat t4) (Go.Am.Tryd.S42.mk ByteArray.empty (0 : Int) (0 : Int) (0 : Int) (0 : Int)))) (1 : Int) (2 : Int))
        fun r0 =>
        if (!Prod.fst r0) = Bool.false then
          Option.bind
            (Go.Am.Tryd.junctionref5_within k
              (Go.Am.Tryd.S42.f2 (List.getD t1 (Int.toNat t4) (Go.Am.Tryd.S42.mk ByteArray.empty (0 : Int) (0 : Int) (0 : Int) (0 : Int)))) (1 : Int) (3600 : Int))
            fun r1 =>
            if (!Prod.fst r1) = Bool.false then
              Option.bind
                (Go.Am.Tryd.junctionref5_within k
                  (Go.Am.Tryd.S42.f3 (List.getD t1 (Int.toNat t4) (Go.Am.Tryd.S42.mk ByteArray.empty (0 : Int) (0 : Int) (0 : Int) (0 : Int)))) (0 : Int)
                  (60 : Int))
                fun r2 =>
                if (!Prod.fst r2) = Bool.false then
                  Option.bind
                    (Go.Am.Tryd.junctionref5_within k
                      (Go.Am.Tryd.S42.f4 (List.getD t1 (Int.toNat t4) (Go.Am.Tryd.S42.mk ByteArray.empty (0 : Int) (0 : Int) (0 : Int) (0 : Int)))) (0 : Int)
                      (60 : Int))
                    fun r3 => if (!Prod.fst r3) = Bool.true then Option.some (Sum.inl ((Bool.false, ()), ())) else Option.some (Sum.inr ((), ()))
                else Option.some (Sum.inl ((Bool.false, ()), ()))
            else Option.some (Sum.inl ((Bool.false, ()), ()))
        else Option.some (Sum.inl ((Bool.false, ()), ()))
    else Option.none
def junctionref5_Grid.w0 : List Nat := [19, 20, 21, 22, 23, 5, 24, 25, 26, 27, 28, 29, 30, 31, 32, 33, 34, 35, 36, 37, 38, 39, 40, 41, 42, 43, 44, 45, 2]
noncomputable def junctionref5_Grid.e0 (k : Nat) : junctionref5_Grid.s0.den → Option (OutT junctionref5_Grid.o0) := fun d => junctionref5_Grid.l0 k d.1.1.1 d.1.1.2.1 d.1.2.1
noncomputable def junctionref5_Grid.m0 (k : Nat) : LamS κ := ⟨lamK 113 junctionref5_Grid.w0 junctionref5_Grid.s0 junctionref5_Grid.o0 (junctionref5_Grid.e0 k)⟩
def junctionref5_Grid.o1 : List (Ex × Sh κ) := [(.ret, ⟨0, [2], [.bool], []⟩), (.exit 0, ⟨0, [], [], []⟩)]
noncomputable def junctionref5_Grid.l1 (k : Nat) : Nat → (List S42) → (List S47) → Int → Int → Option ((Bool × Unit) × Unit ⊕ Unit × Unit)
  | 0, _, _, _, _ => none
  | j + 1, t1, t1_1, t3, t4 =>
    if Decidable.decide (t4 < t3) = Bool.true then
      Option.bind (Go.Am.Tryd.junctionref5_Grid.l0 k t1 t1_1 t4) fun r0 =>
        Go.Am.onSum r0 (fun r1 => Option.some (Sum.inl ((Prod.fst (Prod.fst r1), ()), ()))) fun r1 =>
          junctionref5_Grid.l1 k j t1 t1_1 t3 (Go.IntKind.wrap Go.IntKind.i64 (t4 + (1 : Int)))
    else Option.some (Sum.inr ((), ()))
def junctionref5_Grid.w1 : List Nat := [14, 15, 16, 19, 20, 21, 22, 23, 5, 24, 25, 26, 27, 28, 29, 30, 31, 32, 33, 34, 35, 36, 37, 38, 39, 40, 41, 42, 43, 44, 45, 2, 17, 18, 4]
noncomputable def junctionref5_Grid.e1 (k j : Nat) : junctionref5_Grid.s1.den → Option (OutT junctionref5_Grid.o1) := fun d => junctionref5_Grid.l1 k j d.1.1.1 d.1.1.2.1 d.1.2.1 d.1.2.2.1
noncomputable def junctionref5_Grid.m1 (k : Nat) : LamS κ := ⟨lamK 113 junctionref5_Grid.w1 junctionref5_Grid.s1 junctionref5_Grid.o1 (junctionref5_Grid.e1 k k)⟩
def junctionref5_Grid.s4 : Sh κ := ⟨0, [1, 3, 6], [.rop [.ro .T42, .ro .T47], .int .i64, .int .i64], []⟩
def junctionref5_Grid.s3 : Sh κ := ⟨0, [1, 3, 6], [.rop [.ro .T42, .ro .T47], .int .i64, .int .i64], []⟩
def junctionref5_Grid.s2 : Sh κ := ⟨0, [3, 7], [.int .i64, .ptr 0 0], [.raw 47 [.int .i64, .int .i64, .int .i64, .int .i64]]⟩
def junctionref5_Grid.o2 : List (Ex × Sh κ) := [(.ret, ⟨1, [2], [.bool], [.raw 47 [.int .i64, .int .i64, .int .i64, .int .i64]]⟩), (.normal, ⟨1, [7], [.ptr 0 0], [.raw 47 [.int .i64, .int .i64, .int .i64, .int .i64]]⟩)]
noncomputable def junctionref5_Grid.l2 (k : Nat) (t3 : Int) (b0 : Int) (b0_1 : Int) (b0_2 : Int) (b0_3 : Int) : Option ((Bool × Unit) × (Int × Int × Int × Int × Unit) × Unit ⊕ (Unit × Unit) × (Int × Int × Int × Int × Unit) × Unit) :=
    if Decidable.decide (b0 < (0 : Int)) = Bool.false then
      if Decidable.decide (b0_1 ≤ b0) = Bool.false then
        if Decidable.decide (b0_1 ≥ t3) = Bool.false then
          Option.bind (Go.Am.Tryd.junctionref5_within k b0_2 (0 : Int) (3600 : Int)) fun r0 =>
            if (!Prod.fst r0) = Bool.false then
              Option.bind (Go.Am.Tryd.junctionref5_within k b0_3 (0 : Int) (3600 : Int)) fun r1 =>
                if (!Prod.fst r1) = Bool.true then Option.some (Sum.inl ((Bool.false, ()), (b0, b0_1, b0_2, b0_3, ()), ()))
                else Option.some (Sum.inr (((), ()), (b0, b0_1, b0_2, b0_3, ()), ()))
            else Option.some (Sum.inl ((Bool.false, ()), (b0, b0_1, b0_2, b0_3, ()), ()))
        else Option.some (Sum.inl ((Bool.false, ()), (b0, b0_1, b0_2, b0_3, ()), ()))
      else Option.some (Sum.inl ((Bool.false, ()), (b0, b0_1, b0_2, b0_3, ()), ()))
    else Option.some (Sum.inl ((Bool.false, ()), (b0, b0_1, b0_2, b0_3, ()), ()))
def junctionref5_Grid.w2 : List Nat := [58, 59, 60, 61, 62, 63, 64, 65, 66, 67, 68, 69, 70, 71, 72, 73, 74, 75, 76, 77, 78, 79, 80, 81, 82, 83, 84, 85, 2]
noncomputable def junctionref5_Grid.e2 (k : Nat) : junctionref5_Grid.s2.den → Option (OutT junctionref5_Grid.o2) := fun d => junctionref5_Grid.l2 k d.1.1 d.2.1.1 d.2.1.2.1 d.2.1.2.2.1 d.2.1.2.2.2.1
noncomputable def junctionref5_Grid.m2 (k : Nat) : LamS κ := ⟨lamK 113 junctionref5_Grid.w2 junctionref5_Grid.s2 junctionref5_Grid.o2 (junctionref5_Grid.e2 k)⟩
def junctionref5_Grid.o3 : List (Ex × Sh κ) := [(.ret, ⟨0, [2], [.bool], []⟩), (.normal, ⟨0, [], [], []⟩)]
noncomputable def junctionref5_Grid.l3 (k : Nat) (t1 : List S42) (t1_1 : List S47) (t3 : Int) (t6 : Int) : Option ((Bool × Unit) × Unit ⊕ Unit × Unit) :=
    if (0 : Int) ≤ t6 ∧ t6 < (↑(List.length t1_1) : Int) then
      Option.bind
        (Go.Am.Tryd.junctionref5_Grid.l2 k t3 (Go.Am.Tryd.S47.f0 (List.getD t1_1 (Int.toNat t6) (Go.Am.Tryd.S47.mk (0 : Int) (0 : Int) (0 : Int) (0 : Int))))
          (Go.Am.Tryd.S47.f1 (List.getD t1_1 (Int.toNat t6) (Go.Am.Tryd.S47.mk (0 : Int) (0 : Int) (0 : Int) (0 : Int))))
          (Go.Am.Tryd.S47.f2 (List.getD t1_1 (Int.toNat t6) (Go.Am.Tryd.S47.mk (0 : Int) (0 : Int) (0 : Int) (0 : Int))))
          (Go.Am.Tryd.S47.f3 (List.getD t1_1 (Int.toNat t6) (Go.Am.Tryd.S47.mk (0 : Int) (0 : Int) (0 : Int) (0 : Int)))))
        fun r0 =>
        Go.Am.onSum r0 (fun r1 => Option.some (Sum.inl ((Prod.fst (Prod.fst r1), ()), ()))) fun r1 =>
          if Decidable.decide (t6 > (0 : Int)) = Bool.true then
            if (0 : Int) ≤ Go.IntKind.wrap Go.IntKind.i64 (t6 - (1 : Int)) ∧ Go.IntKind.wrap Go.IntKind.i64 (t6 - (1 : Int)) < (↑(List.length t1_1) : Int) then
              if
                  Decidable.decide
                      (Prod.fst (Prod.fst (Prod.snd r1)) <
                        Go.Am.Tryd.S47.f0
                          (List.getD t1_1 (Int.toNat (Go.IntKind.wrap Go.IntKind.i64 (t6 - (1 : Int))))
                            (Go.Am.Tryd.S47.mk (0 : Int) (0 : Int) (0 : Int) (0 : Int)))) =
                    Bool.false then
                if
                    (Prod.fst (Prod.fst (Prod.snd r1)) ==
                        Go.Am.Tryd.S47.f0
                          (List.getD t1_1 (Int.toNat (Go.IntKind.wrap Go.IntKind.i64 (t6 - (1 : Int))))
                            (Go.Am.Tryd.S47.mk (0 : Int) (0 : Int) (0 : Int) (0 : Int)))) =
                      Bool.true then
                  if
                      Decidable.decide
                          (Prod.fst (Prod.snd (Prod.fst (Prod.snd r1))) ≤
                            Go.Am.Tryd.S47.f1
                              (List.getD t1_1 (Int.toNat (Go.IntKind.wrap Go.IntKind.i64 (t6 - (1 : Int))))
                                (Go.Am.Tryd.S47.mk (0 : Int) (0 : Int) (0 : Int) (0 : Int)))) =
                        Bool.true then
                    Option.some (Sum.inl ((Bool.false, ()), ()))
                  else Option.some (Sum.inr ((), ()))
                else Option.some (Sum.inr ((), ()))
              else Option.some (Sum.inl ((Bool.false, ()), ()))
            else Option.none
          else Option.some (Sum.inr ((), ()))
    else Option.none
def junctionref5_Grid.w3 : List Nat := [53, 54, 55, 56, 57, 7, 58, 59, 60, 61, 62, 63, 64, 65, 66, 67, 68, 69, 70, 71, 72, 73, 74, 75, 76, 77, 78, 79, 80, 81, 82, 83, 84, 85, 2, 86, 87, 88, 89, 90, 91, 92, 93, 8, 94, 95, 96, 97, 98, 99, 100, 101, 102, 103, 104, 105, 106, 107, 108, 109, 110, 111, 112]
noncomputable def junctionref5_Grid.e3 (k : Nat) : junctionref5_Grid.s3.den → Option (OutT junctionref5_Grid.o3) := fun d => junctionref5_Grid.l3 k d.1.1.1 d.1.1.2.1 d.1.2.1 d.1.2.2.1
noncomputable def junctionref5_Grid.m3 (k : Nat) : LamS κ := ⟨lamK 113 junctionref5_Grid.w3 junctionref5_Grid.s3 junctionref5_Grid.o3 (junctionref5_Grid.e3 k)⟩
def junctionref5_Grid.o4 : List (Ex × Sh κ) := [(.ret, ⟨0, [2], [.bool], []⟩), (.exit 2, ⟨0, [], [], []⟩)]
noncomputable def junctionref5_Grid.l4 (k : Nat) : Nat → (List S42) → (List S47) → Int → Int → Option ((Bool × Unit) × Unit ⊕ Unit × Unit)
  | 0, _, _, _, _ => none
  | j + 1, t1, t1_1, t3, t6 =>
    if Decidable.decide (t6 < (↑(List.length t1_1) : Int)) = Bool.true then
      Option.bind (Go.Am.Tryd.junctionref5_Grid.l3 k t1 t1_1 t3 t6) fun r0 =>
        Go.Am.onSum r0 (fun r1 => Option.some (Sum.inl ((Prod.fst (Prod.fst r1), ()), ()))) fun r1 =>
          junctionref5_Grid.l4 k j t1 t1_1 t3 (Go.IntKind.wrap Go.IntKind.i64 (t6 + (1 : Int)))
    else Option.some (Sum.inr ((), ()))
def junctionref5_Grid.w4 : List Nat := [46, 47, 48, 49, 50, 53, 54, 55, 56, 57, 7, 58, 59, 60, 61, 62, 63, 64, 65, 66, 67, 68, 69, 70, 71, 72, 73, 74, 75, 76, 77, 78, 79, 80, 81, 82, 83, 84, 85, 2, 86, 87, 88, 89, 90, 91, 92, 93, 8, 94, 95, 96, 97, 98, 99, 100, 101, 102, 103, 104, 105, 106, 107, 108, 109, 110, 111, 112, 51, 52, 6]
noncomputable def junctionref5_Grid.e4 (k j : Nat) : junctionref5_Grid.s4.den → Option (OutT junctionref5_Grid.o4) := fun d => junctionref5_Grid.l4 k j d.1.1.1 d.1.1.2.1 d.1.2.1 d.1.2.2.1
noncomputable def junctionref5_Grid.m4 (k : Nat) : LamS κ := ⟨lamK 113 junctionref5_Grid.w4 junctionref5_Grid.s4 junctionref5_Grid.o4 (junctionref5_Grid.e4 k k)⟩
def junctionref5_Grid.p : Pat κ := .bool
def junctionref5_Grid.b : List (BPat κ) := []
noncomputable def junctionref5_Grid (k : Nat) (t0 : List S42) (t0_1 : List S47) : Option (Bool × Unit) :=
    if Decidable.decide ((↑(List.length t0) : Int) > (64 : Int)) = Bool.true then Option.some (Bool.false, ())
    else
      Option.bind (Go.Am.Tryd.junctionref5_Grid.l1 k k t0 t0_1 (↑(List.length t0) : Int) (0 : Int)) fun r0 =>
        Go.Am.onSum r0 (fun r1 => Option.some (Prod.fst (Prod.fst r1), ())) fun r1 =>
          Option.bind (Go.Am.Tryd.junctionref5_Grid.l4 k k t0 t0_1 (↑(List.length t0) : Int) (0 : Int)) fun r2 =>
            Go.Am.onSum r2 (fun r3 => Option.some (Prod.fst (Prod.fst r3), ())) fun r3 => Option.some (Bool.true, ())
noncomputable def junctionref5_Grid.f (k : Nat) : dens junctionref5_Grid.i → Option (junctionref5_Grid.p.den × densB junctionref5_Grid.b) := fun d => junctionref5_Grid k d.1.1 d.1.2.1
noncomputable def junctionref5_Grid.ctx (k : Nat) : Ctx κ := junctionref5_Grid.x k [junctionref5_Grid.m0 k, junctionref5_Grid.m1 k, junctionref5_Grid.m2 k, junctionref5_Grid.m3 k, junctionref5_Grid.m4 k]
theorem junctionref5_Grid.xOk (k : Nat) : (junctionref5_Grid.ctx k).Ok := ctxOk ⟨junctionref5_within.entOk k, trivial⟩ ⟨junctionref5_within.qentOk k, trivial⟩
theorem junctionref5_Grid.k0 (k : Nat) : LamOk (junctionref5_Grid.ctx k) ((junctionref5_Grid.ctx k).Λ 0) (sub [1, 1, 1, 0, 1, 0, 0, 1, 0] junctionref5_Grid.c) :=
  cut_ok (kindOf := kindOf) (C := junctionref5_Grid.ctx k) (n := .none) (L := junctionref5_Grid.e0 k) (junctionref5_Grid.xOk k) (by kernel_rfl) (by kernel_rfl) (fits_of (l := []) (by kernel_rfl) trivial) (fun _ => by kernel_rfl)
theorem junctionref5_Grid.k1 (k : Nat) : LamOk (junctionref5_Grid.ctx k) ((junctionref5_Grid.ctx k).Λ 1) (.loop (sub [1, 1, 1, 0, 1, 0, 0] junctionref5_Grid.c)) :=
  loop_ok (kindOf := kindOf) (C := junctionref5_Grid.ctx k) (n := (.pair .none (.pair (.cut 0) .none))) (L := junctionref5_Grid.e1 k) (junctionref5_Grid.xOk k) (by kernel_rfl) (by kernel_rfl) (fits_of (l := [(0, (sub [1, 1, 1, 0, 1, 0, 0, 1, 0] junctionref5_Grid.c))]) (by kernel_rfl) ⟨junctionref5_Grid.k0 k, trivial⟩) (fun _ => by kernel_rfl) (fun _ _ => by kernel_rfl) k
theorem junctionref5_Grid.k2 (k : Nat) : LamOk (junctionref5_Grid.ctx k) ((junctionref5_Grid.ctx k).Λ 2) (sub [1, 1, 1, 1, 0, 1, 0, 0, 1, 0, 0, 1, 0] junctionref5_Grid.c) :=
  cut_ok (kindOf := kindOf) (C := junctionref5_Grid.ctx k) (n := .none) (L := junctionref5_Grid.e2 k) (junctionref5_Grid.xOk k) (by kernel_rfl) (by kernel_rfl) (fits_of (l := []) (by kernel_rfl) trivial) (fun _ => by kernel_rfl)
theorem junctionref5_Grid.k3 (k : Nat) : LamOk (junctionref5_Grid.ctx k) ((junctionref5_Grid.ctx k).Λ 3) (sub [1, 1, 1, 1, 0, 1, 0, 0, 1, 0] junctionref5_Grid.c) :=
  cut_ok (kindOf := kindOf) (C := junctionref5_Grid.ctx k) (n := (.pair (.pair .none (.pair (.cut 2) .none)) .none)) (L := junctionref5_Grid.e3 k) (junctionref5_Grid.xOk k) (by kernel_rfl) (by kernel_rfl) (fits_of (l := [(2, (sub [1, 1, 1, 1, 0, 1, 0, 0, 1, 0, 0, 1, 0] junctionref5_Grid.c))]) (by kernel_rfl) ⟨junctionref5_Grid.k2 k, trivial⟩) (fun _ => by kernel_rfl)
theorem junctionref5_Grid.k4 (k : Nat) : LamOk (junctionref5_Grid.ctx k) ((junctionref5_Grid.ctx k).Λ 4) (.loop (sub [1, 1, 1, 1, 0, 1, 0, 0] junctionref5_Grid.c)) :=
  loop_ok (kindOf := kindOf) (C := junctionref5_Grid.ctx k) (n := (.pair .none (.pair (.cut 3) .none))) (L := junctionref5_Grid.e4 k) (junctionref5_Grid.xOk k) (by kernel_rfl) (by kernel_rfl) (fits_of (l := [(3, (sub [1, 1, 1, 1, 0, 1, 0, 0, 1, 0] junctionref5_Grid.c))]) (by kernel_rfl) ⟨junctionref5_Grid.k3 k, trivial⟩) (fun _ => by kernel_rfl) (fun _ _ => by kernel_rfl) k
theorem junctionref5_Grid.call (k : Nat) : CallV Tryd.prog E glob 20 junctionref5_Grid.i junctionref5_Grid.p junctionref5_Grid.b (junctionref5_Grid.f k) :=
  fn_okZ (kindOf := kindOf) (C := junctionref5_Grid.ctx k) (n := (.pair (.ops [0] 0) (.pair .none (.pair .none (.pair (.pair .none (.pair (.cut 1) .none)) (.pair (.pair .none (.pair (.cut 4) .none)) .none)))))) (junctionref5_Grid.xOk k) Tryd.func20 junctionref5_Grid.hb (fits_of (l := [(1, .loop (sub [1, 1, 1, 0, 1, 0, 0] junctionref5_Grid.c)), (4, .loop (sub [1, 1, 1, 1, 0, 1, 0, 0] junctionref5_Grid.c))]) (by kernel_rfl) ⟨junctionref5_Grid.k1 k, junctionref5_Grid.k4 k, trivial⟩) (fun _ => by kernel_rfl)
noncomputable def junctionref5_Grid.ent (k : Nat) : EntS κ := ⟨20, [], entOf junctionref5_Grid.i junctionref5_Grid.p junctionref5_Grid.b true (junctionref5_Grid.f k) E⟩
theorem junctionref5_Grid.entOk (k : Nat) : EntOk Tryd.prog E glob 20 (junctionref5_Grid.ent k).run := ent_free encOk (callable_of Tryd.func20 (by kernel_rfl) (by kernel_rfl)) (by rfl) trivial (junctionref5_Grid.call k)
noncomputable def junctionref5_Grid.qent (k : Nat) : QEntS κ := ⟨20, qentOf junctionref5_Grid.i junctionref5_Grid.p (junctionref5_Grid.f k) E⟩
theorem junctionref5_Grid.qentOk (k : Nat) : QEntOk Tryd.prog E glob 20 (junctionref5_Grid.qent k).run := qent_ok encOk (callable_of Tryd.func20 (by kernel_rfl) (by kernel_rfl)) (junctionref5_Grid.call k)
noncomputable def junctionref2_letter.c : Go.Code := match Tryd.f103.body with | some c => c | none => .skip
theorem junctionref2_letter.hb : Tryd.f103.body = some junctionref2_letter.c := by kernel_rfl
noncomputable def junctionref2_letter.x (k : Nat) (ls : List (LamS κ)) : Ctx κ := mkCtx [] [] ls
def junctionref2_letter.i : List (Pat κ) := [.int .u8]
def junctionref2_letter.p : Pat κ := .bool
def junctionref2_letter.b : List (BPat κ) := []
noncomputable def junctionref2_letter (k : Nat) (t0 : Int) : Option (Bool × Unit) :=
    if Decidable.decide (t0 ≥ (97 : Int)) = Bool.true then
      if Decidable.decide (t0 ≤ (122 : Int)) = Bool.false then
        if Decidable.decide (t0 ≥ (65 : Int)) = Bool.true then Option.some (Decidable.decide (t0 ≤ (90 : Int)), ()) else Option.some (Bool.false, ())
      else Option.some (Bool.true, ())
    else if Decidable.decide (t0 ≥ (65 : Int)) = Bool.true then Option.some (Decidable.decide (t0 ≤ (90 : Int)), ()) else Option.some (Bool.false, ())
noncomputable def junctionref2_letter.f (k : Nat) : dens junctionref2_letter.i → Option (junctionref2_letter.p.den × densB junctionref2_letter.b) := fun d => junctionref2_letter k d.1
noncomputable def junctionref2_letter.ctx (k : Nat) : Ctx κ := junctionref2_letter.x k []
theorem junctionref2_letter.xOk (k : Nat) : (junctionref2_letter.ctx k).Ok := ctxOk trivial trivial
theorem junctionref2_letter.call (k : Nat) : CallV Tryd.prog E glob 103 junctionref2_letter.i junctionref2_letter.p junctionref2_letter.b (junctionref2_letter.f k) :=
  fn_okZ (kindOf := kindOf) (C := junctionref2_letter.ctx k) (n := .none) (junctionref2_letter.xOk k) Tryd.func103 junctionref2_letter.hb (fits_of (l := []) (by kernel_rfl) trivial) (fun _ => by kernel_rfl)
noncomputable def junctionref2_letter.ent (k : Nat) : EntS κ := ⟨103, [], entOf junctionref2_letter.i junctionref2_letter.p junctionref2_letter.b true (junctionref2_letter.f k) E⟩
theorem junctionref2_letter.entOk (k : Nat) : EntOk Tryd.prog E glob 103 (junctionref2_letter.ent k).run := ent_free encOk (callable_of Tryd.func103 (by kernel_rfl) (by kernel_rfl)) (by rfl) trivial (junctionref2_letter.call k)
noncomputable def junctionref2_letter.qent (k : Nat) : QEntS κ := ⟨103, qentOf junctionref2_letter.i junctionref2_letter.p (junctionref2_letter.f k) E⟩
theorem junctionref2_letter.qentOk (k : Nat) : QEntOk Tryd.prog E glob 103 (junctionref2_letter.qent k).run := qent_ok encOk (callable_of Tryd.func103 (by kernel_rfl) (by kernel_rfl)) (junctionref2_letter.call k)
noncomputable def junctionref2_digit.c : Go.Code := match Tryd.f136.body with | some c => c | none => .skip
theorem junctionref2_digit.hb : Tryd.f136.body = some junctionref2_digit.c := by kernel_rfl
noncomputable def junctionref2_digit.x (k : Nat) (ls : List (LamS κ)) : Ctx κ := mkCtx [] [] ls
def junctionref2_digit.i : List (Pat κ) := [.int .u8]
def junctionref2_digit.p : Pat κ := .bool
def junctionref2_digit.b : List (BPat κ) := []
noncomputable def junctionref2_digit (k : Nat) (t0 : Int) : Option (Bool × Unit) :=
    if Decidable.decide (t0 ≥ (48 : Int)) = Bool.true then Option.some (Decidable.decide (t0 ≤ (57 : Int)), ()) else Option.some (Bool.false, ())
noncomputable def junctionref2_digit.f (k : Nat) : dens junctionref2_digit.i → Option (junctionref2_digit.p.den × densB junctionref2_digit.b) := fun d => junctionref2_digit k d.1
noncomputable def junctionref2_digit.ctx (k : Nat) : Ctx κ := junctionref2_digit.x k []
theorem junctionref2_digit.xOk (k : Nat) : (junctionref2_digit.ctx k).Ok := ctxOk trivial trivial
theorem junctionref2_digit.call (k : Nat) : CallV Tryd.prog E glob 136 junctionref2_digit.i junctionref2_digit.p junctionref2_digit.b (junctionref2_digit.f k) :=
  fn_okZ (kindOf := kindOf) (C := junctionref2_digit.ctx k) (n := .none) (junctionref2_digit.xOk k) Tryd.func136 junctionref2_digit.hb (fits_of (l := []) (by kernel_rfl) trivial) (fun _ => by kernel_rfl)
noncomputable def junctionref2_digit.ent (k : Nat) : EntS κ := ⟨136, [], entOf junctionref2_digit.i junctionref2_digit.p junctionref2_digit.b true (junctionref2_digit.f k) E⟩
theorem junctionref2_digit.entOk (k : Nat) : EntOk Tryd.prog E glob 136 (junctionref2_digit.ent k).run := ent_free encOk (callable_of Tryd.func136 (by kernel_rfl) (by kernel_rfl)) (by rfl) trivial (junctionref2_digit.call k)
noncomputable def junctionref2_digit.qent (k : Nat) : QEntS κ := ⟨136, qentOf junctionref2_digit.i junctionref2_digit.p (junctionref2_digit.f k) E⟩
theorem junctionref2_digit.qentOk (k : Nat) : QEntOk Tryd.prog E glob 136 (junctionref2_digit.qent k).run := qent_ok encOk (callable_of Tryd.func136 (by kernel_rfl) (by kernel_rfl)) (junctionref2_digit.call k)
noncomputable def junctionref2_inRun.c : Go.Code := match Tryd.f117.body with | some c => c | none => .skip
theorem junctionref2_inRun.hb : Tryd.f117.body = some junctionref2_inRun.c := by kernel_rfl
noncomputable def junctionref2_inRun.x (k : Nat) (ls : List (LamS κ)) : Ctx κ := mkCtx [junctionref2_letter.ent k, junctionref2_digit.ent k] [junctionref2_letter.qent k, junctionref2_digit.qent k] ls
def junctionref2_inRun.i : List (Pat κ) := [.int .u8]
def junctionref2_inRun.p : Pat κ := .bool
def junctionref2_inRun.b : List (BPat κ) := []
noncomputable def junctionref2_inRun (k : Nat) (t0 : Int) : Option (Bool × Unit) :=
    Option.bind (Go.Am.Tryd.junctionref2_letter k t0) fun r0 =>
      if Prod.fst r0 = Bool.false then
        Option.bind (Go.Am.Tryd.junctionref2_digit k t0) fun r1 =>
          if Prod.fst r1 = Bool.false then Option.some (t0 == (95 : Int), ()) else Option.some (Bool.true, ())
      else Option.some (Bool.true, ())
noncomputable def junctionref2_inRun.f (k : Nat) : dens junctionref2_inRun.i → Option (junctionref2_inRun.p.den × densB junctionref2_inRun.b) := fun d => junctionref2_inRun k d.1
noncomputable def junctionref2_inRun.ctx (k : Nat) : Ctx κ := junctionref2_inRun.x k []
theorem junctionref2_inRun.xOk (k : Nat) : (junctionref2_inRun.ctx k).Ok := ctxOk ⟨junctionref2_letter.entOk k, junctionref2_digit.entOk k, trivial⟩ ⟨junctionref2_letter.qentOk k, junctionref2_digit.qentOk k, trivial⟩
theorem junctionref2_inRun.call (k : Nat) : CallV Tryd.prog E glob 117 junctionref2_inRun.i junctionref2_inRun.p junctionref2_inRun.b (junctionref2_inRun.f k) :=
  fn_okZ (kindOf := kindOf) (C := junctionref2_inRun.ctx k) (n := .none) (junctionref2_inRun.xOk k) Tryd.func117 junctionref2_inRun.hb (fits_of (l := []) (by kernel_rfl) trivial) (fun _ => by kernel_rfl)
noncomputable def junctionref2_inRun.ent (k : Nat) : EntS κ := ⟨117, [], entOf junctionref2_inRun.i junctionref2_inRun.p junctionref2_inRun.b true (junctionref2_inRun.f k) E⟩
theorem junctionref2_inRun.entOk (k : Nat) : EntOk Tryd.prog E glob 117 (junctionref2_inRun.ent k).run := ent_free encOk (callable_of Tryd.func117 (by kernel_rfl) (by kernel_rfl)) (by rfl) trivial (junctionref2_inRun.call k)
noncomputable def junctionref2_inRun.qent (k : Nat) : QEntS κ := ⟨117, qentOf junctionref2_inRun.i junctionref2_inRun.p (junctionref2_inRun.f k) E⟩
theorem junctionref2_inRun.qentOk (k : Nat) : QEntOk Tryd.prog E glob 117 (junctionref2_inRun.qent k).run := qent_ok encOk (callable_of Tryd.func117 (by kernel_rfl) (by kernel_rfl)) (junctionref2_inRun.call k)
noncomputable def junctionref2_runEnd.c : Go.Code := match Tryd.f102.body with | some c => c | none => .skip
theorem junctionref2_runEnd.hb : Tryd.f102.body = some junctionref2_runEnd.c := by kernel_rfl
noncomputable def junctionref2_runEnd.x (k : Nat) (ls : List (LamS κ)) : Ctx κ := mkCtx [junctionref2_inRun.ent k] [junctionref2_inRun.qent k] ls
def junctionref2_runEnd.i : List (Pat κ) := [.str, .int .i64]
def junctionref2_runEnd.s1 : Sh κ := ⟨0, [0, 1], [.str, .int .i64], []⟩
def junctionref2_runEnd.s0 : Sh κ := ⟨0, [0, 1], [.str, .int .i64], []⟩
def junctionref2_runEnd.o0 : List (Ex × Sh κ) := [(.exit 0, ⟨0, [], [], []⟩), (.normal, ⟨0, [], [], []⟩)]
noncomputable def junctionref2_runEnd.l0 (k : Nat) (t0 : ByteArray) (t1 : Int) : Option (Unit × Unit ⊕ Unit × Unit) :=
    if Decidable.decide (t1 < (↑(ByteArray.size t0) : Int)) = Bool.true then
      if (0 : Int) ≤ t1 ∧ t1 < (↑(ByteArray.size t0) : Int) then
        Option.bind (Go.Am.Tryd.junctionref2_inRun k (Go.Am.bt t0 t1)) fun r0 =>
          if Prod.fst r0 = Bool.true then Option.some (Sum.inr ((), ())) else Option.some (Sum.inl ((), ()))
      else Option.none
    else Option.some (Sum.inl ((), ()))
def junctionref2_runEnd.w0 : List Nat := [5, 6, 7, 8, 9, 10, 11, 12, 13, 14]
noncomputable def junctionref2_runEnd.e0 (k : Nat) : junctionref2_runEnd.s0.den → Option (OutT junctionref2_runEnd.o0) := fun d => junctionref2_runEnd.l0 k d.1.1 d.1.2.1
noncomputable def junctionref2_runEnd.m0 (k : Nat) : LamS κ := ⟨lamK 18 junctionref2_runEnd.w0 junctionref2_runEnd.s0 junctionref2_runEnd.o0 (junctionref2_runEnd.e0 k)⟩
def junctionref2_runEnd.o1 : List (Ex × Sh κ) := [(.exit 0, ⟨0, [1], [.int .i64], []⟩)]
noncomputable def junctionref2_runEnd.l1 (k : Nat) : Nat → ByteArray → Int → Option ((Int × Unit) × Unit)
  | 0, _, _ => none
  | j + 1, t0, t1 =>
    Option.bind (Go.Am.Tryd.junctionref2_runEnd.l0 k t0 t1) fun r0 =>
      Go.Am.onSum r0 (fun r1 => Option.some ((t1, ()), ())) fun r1 => junctionref2_runEnd.l1 k j t0 (Go.IntKind.wrap Go.IntKind.i64 (t1 + (1 : Int)))
def junctionref2_runEnd.w1 : List Nat := [5, 6, 7, 8, 9, 10, 11, 12, 13, 14, 15, 16, 1]
noncomputable def junctionref2_runEnd.e1 (k j : Nat) : junctionref2_runEnd.s1.den → Option (OutT junctionref2_runEnd.o1) := fun d => junctionref2_runEnd.l1 k j d.1.1 d.1.2.1
noncomputable def junctionref2_runEnd.m1 (k : Nat) : LamS κ := ⟨lamK 18 junctionref2_runEnd.w1 junctionref2_runEnd.s1 junctionref2_runEnd.o1 (junctionref2_runEnd.e1 k k)⟩
def junctionref2_runEnd.p : Pat κ := .int .i64
def junctionref2_runEnd.b : List (BPat κ) := []
noncomputable def junctionref2_runEnd (k : Nat) (t0 : ByteArray) (t1 : Int) : Option (Int × Unit) :=
    Option.bind (Go.Am.Tryd.junctionref2_runEnd.l1 k k t0 t1) fun r0 => Option.some (Prod.fst (Prod.fst r0), ())
noncomputable def junctionref2_runEnd.f (k : Nat) : dens junctionref2_runEnd.i → Option (junctionref2_runEnd.p.den × densB junctionref2_runEnd.b) := fun d => junctionref2_runEnd k d.1 d.2.1
noncomputable def junctionref2_runEnd.ctx (k : Nat) : Ctx κ := junctionref2_runEnd.x k [junctionref2_runEnd.m0 k, junctionref2_runEnd.m1 k]
theorem junctionref2_runEnd.xOk (k : Nat) : (junctionref2_runEnd.ctx k).Ok := ctxOk ⟨junctionref2_inRun.entOk k, trivial⟩ ⟨junctionref2_inRun.qentOk k, trivial⟩
theorem junctionref2_runEnd.k0 (k : Nat) : LamOk (junctionref2_runEnd.ctx k) ((junctionref2_runEnd.ctx k).Λ 0) (sub [1, 0, 0, 0, 0] junctionref2_runEnd.c) :=
  cut_ok (kindOf := kindOf) (C := junctionref2_runEnd.ctx k) (n := .none) (L := junctionref2_runEnd.e0 k) (junctionref2_runEnd.xOk k) (by kernel_rfl) (by kernel_rfl) (fits_of (l := []) (by kernel_rfl) trivial) (fun _ => by kernel_rfl)
theorem junctionref2_runEnd.k1 (k : Nat) : LamOk (junctionref2_runEnd.ctx k) ((junctionref2_runEnd.ctx k).Λ 1) (.loop (sub [1, 0, 0, 0] junctionref2_runEnd.c)) :=
  loop_ok (kindOf := kindOf) (C := junctionref2_runEnd.ctx k) (n := (.pair (.cut 0) .none)) (L := junctionref2_runEnd.e1 k) (junctionref2_runEnd.xOk k) (by kernel_rfl) (by kernel_rfl) (fits_of (l := [(0, (sub [1, 0, 0, 0, 0] junctionref2_runEnd.c))]) (by kernel_rfl) ⟨junctionref2_runEnd.k0 k, trivial⟩) (fun _ => by kernel_rfl) (fun _ _ => by kernel_rfl) k
theorem junctionref2_runEnd.call (k : Nat) : CallV Tryd.prog E glob 102 junctionref2_runEnd.i junctionref2_runEnd.p junctionref2_runEnd.b (junctionref2_runEnd.f k) :=
  fn_okZ (kindOf := kindOf) (C := junctionref2_runEnd.ctx k) (n := (.pair .none (.pair (.pair (.cut 1) .none) .none))) (junctionref2_runEnd.xOk k) Tryd.func102 junctionref2_runEnd.hb (fits_of (l := [(1, .loop (sub [1, 0, 0, 0] junctionref2_runEnd.c))]) (by kernel_rfl) ⟨junctionref2_runEnd.k1 k, trivial⟩) (fun _ => by kernel_rfl)
noncomputable def junctionref2_runEnd.ent (k : Nat) : EntS κ := ⟨102, [], entOf junctionref2_runEnd.i junctionref2_runEnd.p junctionref2_runEnd.b true (junctionref2_runEnd.f k) E⟩
theorem junctionref2_runEnd.entOk (k : Nat) : EntOk Tryd.prog E glob 102 (junctionref2_runEnd.ent k).run := ent_free encOk (callable_of Tryd.func102 (by kernel_rfl) (by kernel_rfl)) (by rfl) trivial (junctionref2_runEnd.call k)
noncomputable def junctionref2_runEnd.qent (k : Nat) : QEntS κ := ⟨102, qentOf junctionref2_runEnd.i junctionref2_runEnd.p (junctionref2_runEnd.f k) E⟩
theorem junctionref2_runEnd.qentOk (k : Nat) : QEntOk Tryd.prog E glob 102 (junctionref2_runEnd.qent k).run := qent_ok encOk (callable_of Tryd.func102 (by kernel_rfl) (by kernel_rfl)) (junctionref2_runEnd.call k)
noncomputable def junctionref2_value.c : Go.Code := match Tryd.f137.body with | some c => c | none => .skip
theorem junctionref2_value.hb : Tryd.f137.body = some junctionref2_value.c := by kernel_rfl
noncomputable def junctionref2_value.x (k : Nat) (ls : List (LamS κ)) : Ctx κ := mkCtx [junctionref2_digit.ent k] [junctionref2_digit.qent k] ls
def junctionref2_value.i : List (Pat κ) := [.int .u8, .int .i64]
def junctionref2_value.s0 : Sh κ := ⟨0, [0, 1], [.int .u8, .int .i64], []⟩
def junctionref2_value.o0 : List (Ex × Sh κ) := [(.normal, ⟨0, [19], [.bool], []⟩)]
noncomputable def junctionref2_value.l0 (k : Nat) (t0 : Int) (t1 : Int) : Option ((Bool × Unit) × Unit) :=
    if (t1 == (16 : Int)) = Bool.true then
      if Decidable.decide (t0 ≥ (97 : Int)) = Bool.true then Option.some ((Decidable.decide (t0 ≤ (102 : Int)), ()), ()) else Option.some ((Bool.false, ()), ())
    else Option.some ((Bool.false, ()), ())
def junctionref2_value.w0 : List Nat := [10, 11, 12, 13, 14, 15, 16, 17, 18, 19]
noncomputable def junctionref2_value.e0 (k : Nat) : junctionref2_value.s0.den → Option (OutT junctionref2_value.o0) := fun d => junctionref2_value.l0 k d.1.1 d.1.2.1
noncomputable def junctionref2_value.m0 (k : Nat) : LamS κ := ⟨lamK 38 junctionref2_value.w0 junctionref2_value.s0 junctionref2_value.o0 (junctionref2_value.e0 k)⟩
def junctionref2_value.s1 : Sh κ := ⟨0, [0, 1], [.int .u8, .int .i64], []⟩
def junctionref2_value.o1 : List (Ex × Sh κ) := [(.normal, ⟨0, [33], [.bool], []⟩)]
noncomputable def junctionref2_value.l1 (k : Nat) (t0 : Int) (t1 : Int) : Option ((Bool × Unit) × Unit) :=
    if (t1 == (16 : Int)) = Bool.true then
      if Decidable.decide (t0 ≥ (65 : Int)) = Bool.true then Option.some ((Decidable.decide (t0 ≤ (70 : Int)), ()), ()) else Option.some ((Bool.false, ()), ())
    else Option.some ((Bool.false, ()), ())
def junctionref2_value.w1 : List Nat := [24, 25, 26, 27, 28, 29, 30, 31, 32, 33]
noncomputable def junctionref2_value.e1 (k : Nat) : junctionref2_value.s1.den → Option (OutT junctionref2_value.o1) := fun d => junctionref2_value.l1 k d.1.1 d.1.2.1
noncomputable def junctionref2_value.m1 (k : Nat) : LamS κ := ⟨lamK 38 junctionref2_value.w1 junctionref2_value.s1 junctionref2_value.o1 (junctionref2_value.e1 k)⟩
def junctionref2_value.p : Pat κ := .int .i64
def junctionref2_value.b : List (BPat κ) := []
noncomputable def junctionref2_value (k : Nat) (t0 : Int) (t1 : Int) : Option (Int × Unit) :=
    Option.bind (Go.Am.Tryd.junctionref2_digit k t0) fun r0 =>
      if Prod.fst r0 = Bool.true then Option.some (Go.IntKind.wrap Go.IntKind.i64 (Go.IntKind.wrap Go.IntKind.u8 (t0 - (48 : Int))), ())
      else
        Option.bind (Go.Am.Tryd.junctionref2_value.l0 k t0 t1) fun r1 =>
          if Prod.fst (Prod.fst r1) = Bool.true then
            Option.some (Go.IntKind.wrap Go.IntKind.i64 (Go.IntKind.wrap Go.IntKind.i64 (Go.IntKind.wrap Go.IntKind.u8 (t0 - (97 : Int))) + (10 : Int)), ())
          else
            Option.bind (Go.Am.Tryd.junctionref2_value.l1 k t0 t1) fun r2 =>
              if Prod.fst (Prod.fst r2) = Bool.true then
                Option.some (Go.IntKind.wrap Go.IntKind.i64 (Go.IntKind.wrap Go.IntKind.i64 (Go.IntKind.wrap Go.IntKind.u8 (t0 - (65 : Int))) + (10 : Int)), ())
              else Option.some ((-1 : Int), ())
noncomputable def junctionref2_value.f (k : Nat) : dens junctionref2_value.i → Option (junctionref2_value.p.den × densB junctionref2_value.b) := fun d => junctionref2_value k d.1 d.2.1
noncomputable def junctionref2_value.ctx (k : Nat) : Ctx κ := junctionref2_value.x k [junctionref2_value.m0 k, junctionref2_value.m1 k]
theorem junctionref2_value.xOk (k : Nat) : (junctionref2_value.ctx k).Ok := ctxOk ⟨junctionref2_digit.entOk k, trivial⟩ ⟨junctionref2_digit.qentOk k, trivial⟩
theorem junctionref2_value.k0 (k : Nat) : LamOk (junctionref2_value.ctx k) ((junctionref2_value.ctx k).Λ 0) (sub [1, 1, 0, 0] junctionref2_value.c) :=
  cut_ok (kindOf := kindOf) (C := junctionref2_value.ctx k) (n := .none) (L := junctionref2_value.e0 k) (junctionref2_value.xOk k) (by kernel_rfl) (by kernel_rfl) (fits_of (l := []) (by kernel_rfl) trivial) (fun _ => by kernel_rfl)
theorem junctionref2_value.k1 (k : Nat) : LamOk (junctionref2_value.ctx k) ((junctionref2_value.ctx k).Λ 1) (sub [1, 1, 1, 0, 0] junctionref2_value.c) :=
  cut_ok (kindOf := kindOf) (C := junctionref2_value.ctx k) (n := .none) (L := junctionref2_value.e1 k) (junctionref2_value.xOk k) (by kernel_rfl) (by kernel_rfl) (fits_of (l := []) (by kernel_rfl) trivial) (fun _ => by kernel_rfl)
theorem junctionref2_value.call (k : Nat) : CallV Tryd.prog E glob 137 junctionref2_value.i junctionref2_value.p junctionref2_value.b (junctionref2_value.f k) :=
  fn_okZ (kindOf := kindOf) (C := junctionref2_value.ctx k) (n := (.pair .none (.pair .none (.pair (.pair (.cut 0) .none) (.pair (.pair (.cut 1) .none) .none))))) (junctionref2_value.xOk k) Tryd.func137 junctionref2_value.hb (fits_of (l := [(0, (sub [1, 1, 0, 0] junctionref2_value.c)), (1, (sub [1, 1, 1, 0, 0] junctionref2_value.c))]) (by kernel_rfl) ⟨junctionref2_value.k0 k, junctionref2_value.k1 k, trivial⟩) (fun _ => by kernel_rfl)
noncomputable def junctionref2_value.ent (k : Nat) : EntS κ := ⟨137, [], entOf junctionref2_value.i junctionref2_value.p junctionref2_value.b true (junctionref2_value.f k) E⟩
theorem junctionref2_value.entOk (k : Nat) : EntOk Tryd.prog E glob 137 (junctionref2_value.ent k).run := ent_free encOk (callable_of Tryd.func137 (by kernel_rfl) (by kernel_rfl)) (by rfl) trivial (junctionref2_value.call k)
noncomputable def junctionref2_value.qent (k : Nat) : QEntS κ := ⟨137, qentOf junctionref2_value.i junctionref2_value.p (junctionref2_value.f k) E⟩
theorem junctionref2_value.qentOk (k : Nat) : QEntOk Tryd.prog E glob 137 (junctionref2_value.qent k).run := qent_ok encOk (callable_of Tryd.func137 (by kernel_rfl) (by kernel_rfl)) (junctionref2_value.call k)
noncomputable def junctionref2_digits.c : Go.Code := match Tryd.f118.body with | some c => c | none => .skip
theorem junctionref2_digits.hb : Tryd.f118.body = some junctionref2_digits.c := by kernel_rfl
noncomputable def junctionref2_digits.x (k : Nat) (ls : List (LamS κ)) : Ctx κ := mkCtx [junctionref2_value.ent k] [junctionref2_value.qent k] ls
def junctionref2_digits.i : List (Pat κ) := [.str, .int .i64, .bool]
def junctionref2_digits.s1 : Sh κ := ⟨0, [0, 1, 2, 8, 9], [.str, .int .i64, .bool, .int .i64, .int .i64], []⟩
def junctionref2_digits.s0 : Sh κ := ⟨0, [0, 1, 2, 8, 9], [.str, .int .i64, .bool, .int .i64, .int .i64], []⟩
def junctionref2_digits.o0 : List (Ex × Sh κ) := [(.ret, ⟨0, [6, 7], [.int .i64, .bool], []⟩), (.normal, ⟨0, [8], [.int .i64], []⟩)]
noncomputable def junctionref2_digits.l0 (k : Nat) (t0 : ByteArray) (t1 : Int) (t2 : Bool) (t8 : Int) (t9 : Int) : Option ((Int × Bool × Unit) × Unit ⊕ (Int × Unit) × Unit) :=
    if (0 : Int) ≤ t9 ∧ t9 < (↑(ByteArray.size t0) : Int) then
      if (Go.Am.bt t0 t9 == (95 : Int)) = Bool.true then
        if (!t2) = Bool.false then
          if (t9 == (0 : Int)) = Bool.false then
            if (t9 == Go.IntKind.wrap Go.IntKind.i64 ((↑(ByteArray.size t0) : Int) - (1 : Int))) = Bool.false then
              if (0 : Int) ≤ Go.IntKind.wrap Go.IntKind.i64 (t9 - (1 : Int)) ∧ Go.IntKind.wrap Go.IntKind.i64 (t9 - (1 : Int)) < (↑(ByteArray.size t0) : Int) then
                if (Go.Am.bt t0 (Go.IntKind.wrap Go.IntKind.i64 (t9 - (1 : Int))) == (95 : Int)) = Bool.true then
                  Option.some (Sum.inl (((0 : Int), Bool.false, ()), ()))
                else Option.some (Sum.inr ((t8, ()), ()))
              else Option.none
            else Option.some (Sum.inl (((0 : Int), Bool.false, ()), ()))
          else Option.some (Sum.inl (((0 : Int), Bool.false, ()), ()))
        else Option.some (Sum.inl (((0 : Int), Bool.false, ()), ()))
      else
        if (0 : Int) ≤ t9 ∧ t9 < (↑(ByteArray.size t0) : Int) then
          Option.bind (Go.Am.Tryd.junctionref2_value k (Go.Am.bt t0 t9) t1) fun r0 =>
            if Decidable.decide (Prod.fst r0 < (0 : Int)) = Bool.true then Option.some (Sum.inl (((0 : Int), Bool.false, ()), ()))
            else
              if Decidable.decide (Go.IntKind.wrap Go.IntKind.i64 (Go.IntKind.wrap Go.IntKind.i64 (t8 * t1) + Prod.fst r0) > (1099511627776 : Int)) = Bool.true then
                Option.some (Sum.inr (((1099511627776 : Int), ()), ()))
              else Option.some (Sum.inr ((Go.IntKind.wrap Go.IntKind.i64 (Go.IntKind.wrap Go.IntKind.i64 (t8 * t1) + Prod.fst r0), ()), ()))
        else Option.none
    else Option.none
def junctionref2_digits.w0 : List Nat := [17, 18, 19, 20, 21, 22, 23, 24, 25, 26, 27, 28, 29, 30, 31, 32, 33, 34, 35, 36, 37, 38, 39, 40, 6, 7, 41, 42, 43, 44, 45, 10, 46, 47, 48, 49, 50, 51, 52, 8, 53, 54]
noncomputable def junctionref2_digits.e0 (k : Nat) : junctionref2_digits.s0.den → Option (OutT junctionref2_digits.o0) := fun d => junctionref2_digits.l0 k d.1.1 d.1.2.1 d.1.2.2.1 d.1.2.2.2.1 d.1.2.2.2.2.1
noncomputable def junctionref2_digits.m0 (k : Nat) : LamS κ := ⟨lamK 59 junctionref2_digits.w0 junctionref2_digits.s0 junctionref2_digits.o0 (junctionref2_digits.e0 k)⟩
def junctionref2_digits.o1 : List (Ex × Sh κ) := [(.ret, ⟨0, [6, 7], [.int .i64, .bool], []⟩), (.exit 0, ⟨0, [8], [.int .i64], []⟩)]
noncomputable def junctionref2_digits.l1 (k : Nat) : Nat → ByteArray → Int → Bool → Int → Int → Option ((Int × Bool × Unit) × Unit ⊕ (Int × Unit) × Unit)
  | 0, _, _, _, _, _ => none
  | j + 1, t0, t1, t2, t8, t9 =>
    if Decidable.decide (t9 < (↑(ByteArray.size t0) : Int)) = Bool.true then
      Option.bind (Go.Am.Tryd.junctionref2_digits.l0 k t0 t1 t2 t8 t9) fun r0 =>
        Go.Am.onSum r0 (fun r1 => Option.some (Sum.inl ((Prod.fst (Prod.fst r1), Prod.fst (Prod.snd (Prod.fst r1)), ()), ()))) fun r1 =>
          junctionref2_digits.l1 k j t0 t1 t2 (Prod.fst (Prod.fst r1)) (Go.IntKind.wrap Go.IntKind.i64 (t9 + (1 : Int)))
    else Option.some (Sum.inr ((t8, ()), ()))
def junctionref2_digits.w1 : List Nat := [11, 12, 13, 14, 17, 18, 19, 20, 21, 22, 23, 24, 25, 26, 27, 28, 29, 30, 31, 32, 33, 34, 35, 36, 37, 38, 39, 40, 6, 7, 41, 42, 43, 44, 45, 10, 46, 47, 48, 49, 50, 51, 52, 8, 53, 54, 15, 16, 9]
noncomputable def junctionref2_digits.e1 (k j : Nat) : junctionref2_digits.s1.den → Option (OutT junctionref2_digits.o1) := fun d => junctionref2_digits.l1 k j d.1.1 d.1.2.1 d.1.2.2.1 d.1.2.2.2.1 d.1.2.2.2.2.1
noncomputable def junctionref2_digits.m1 (k : Nat) : LamS κ := ⟨lamK 59 junctionref2_digits.w1 junctionref2_digits.s1 junctionref2_digits.o1 (junctionref2_digits.e1 k k)⟩
def junctionref2_digits.p : Pat κ := .tup [.int .i64, .bool]
def junctionref2_digits.b : List (BPat κ) := []
noncomputable def junctionref2_digits (k : Nat) (t0 : ByteArray) (t1 : Int) (t2 : Bool) : Option ((Int × Bool × Unit) × Unit) :=
    Option.bind (Go.Am.Tryd.junctionref2_digits.l1 k k t0 t1 t2 (0 : Int) (0 : Int)) fun r0 =>
      Go.Am.onSum r0 (fun r1 => Option.some ((Prod.fst (Prod.fst r1), Prod.fst (Prod.snd (Prod.fst r1)), ()), ())) fun r1 =>
        Option.some ((Prod.fst (Prod.fst r1), Decidable.decide ((↑(ByteArray.size t0) : Int) > (0 : Int)), ()), ())
noncomputable def junctionref2_digits.f (k : Nat) : dens junctionref2_digits.i → Option (junctionref2_digits.p.den × densB junctionref2_digits.b) := fun d => junctionref2_digits k d.1 d.2.1 d.2.2.1
noncomputable def junctionref2_digits.ctx (k : Nat) : Ctx κ := junctionref2_digits.x k [junctionref2_digits.m0 k, junctionref2_digits.m1 k]
theorem junctionref2_digits.xOk (k : Nat) : (junctionref2_digits.ctx k).Ok := ctxOk ⟨junctionref2_value.entOk k, trivial⟩ ⟨junctionref2_value.qentOk k, trivial⟩
theorem junctionref2_digits.k0 (k : Nat) : LamOk (junctionref2_digits.ctx k) ((junctionref2_digits.ctx k).Λ 0) (sub [1, 1, 0, 1, 0, 0, 1, 0] junctionref2_digits.c) :=
  cut_ok (kindOf := kindOf) (C := junctionref2_digits.ctx k) (n := .none) (L := junctionref2_digits.e0 k) (junctionref2_digits.xOk k) (by kernel_rfl) (by kernel_rfl) (fits_of (l := []) (by kernel_rfl) trivial) (fun _ => by kernel_rfl)
theorem junctionref2_digits.k1 (k : Nat) : LamOk (junctionref2_digits.ctx k) ((junctionref2_digits.ctx k).Λ 1) (.loop (sub [1, 1, 0, 1, 0, 0] junctionref2_digits.c)) :=
  loop_ok (kindOf := kindOf) (C := junctionref2_digits.ctx k) (n := (.pair .none (.pair (.cut 0) .none))) (L := junctionref2_digits.e1 k) (junctionref2_digits.xOk k) (by kernel_rfl) (by kernel_rfl) (fits_of (l := [(0, (sub [1, 1, 0, 1, 0, 0, 1, 0] junctionref2_digits.c))]) (by kernel_rfl) ⟨junctionref2_digits.k0 k, trivial⟩) (fun _ => by kernel_rfl) (fun _ _ => by kernel_rfl) k
theorem junctionref2_digits.call (k : Nat) : CallV Tryd.prog E glob 118 junctionref2_digits.i junctionref2_digits.p junctionref2_digits.b (junctionref2_digits.f k) :=
  fn_okZ (kindOf := kindOf) (C := junctionref2_digits.ctx k) (n := (.pair .none (.pair .none (.pair (.pair .none (.pair (.cut 1) .none)) .none)))) (junctionref2_digits.xOk k) Tryd.func118 junctionref2_digits.hb (fits_of (l := [(1, .loop (sub [1, 1, 0, 1, 0, 0] junctionref2_digits.c))]) (by kernel_rfl) ⟨junctionref2_digits.k1 k, trivial⟩) (fun _ => by kernel_rfl)
noncomputable def junctionref2_digits.ent (k : Nat) : EntS κ := ⟨118, [], entOf junctionref2_digits.i junctionref2_digits.p junctionref2_digits.b true (junctionref2_digits.f k) E⟩
theorem junctionref2_digits.entOk (k : Nat) : EntOk Tryd.prog E glob 118 (junctionref2_digits.ent k).run := ent_free encOk (callable_of Tryd.func118 (by kernel_rfl) (by kernel_rfl)) (by rfl) trivial (junctionref2_digits.call k)
noncomputable def junctionref2_duration.c : Go.Code := match Tryd.f119.body with | some c => c | none => .skip
theorem junctionref2_duration.hb : Tryd.f119.body = some junctionref2_duration.c := by kernel_rfl
noncomputable def junctionref2_duration.x (k : Nat) (ls : List (LamS κ)) : Ctx κ := mkCtx [junctionref2_digit.ent k, junctionref2_digits.ent k] [junctionref2_digit.qent k] ls
def junctionref2_duration.i : List (Pat κ) := [.str]
def junctionref2_duration.s5 : Sh κ := ⟨0, [0, 4, 5, 6, 7, 8], [.str, .str, .ptr 0 0, .int .i64, .int .i64, .int .i64], [.raw 199 [.int .i64, .int .i64, .int .i64]]⟩
def junctionref2_duration.s4 : Sh κ := ⟨0, [0, 4, 5, 6, 7, 8], [.str, .str, .ptr 0 0, .int .i64, .int .i64, .int .i64], [.raw 199 [.int .i64, .int .i64, .int .i64]]⟩
def junctionref2_duration.s1 : Sh κ := ⟨0, [0, 9], [.str, .int .i64], []⟩
def junctionref2_duration.s0 : Sh κ := ⟨0, [0, 9], [.str, .int .i64], []⟩
def junctionref2_duration.o0 : List (Ex × Sh κ) := [(.exit 2, ⟨0, [], [], []⟩), (.normal, ⟨0, [], [], []⟩)]
noncomputable def junctionref2_duration.l0 (k : Nat) (t0 : ByteArray) (t9 : Int) : Option (Unit × Unit ⊕ Unit × Unit) :=
    if Decidable.decide (t9 < (↑(ByteArray.size t0) : Int)) = Bool.true then
      if (0 : Int) ≤ t9 ∧ t9 < (↑(ByteArray.size t0) : Int) then
        Option.bind (Go.Am.Tryd.junctionref2_digit k (Go.Am.bt t0 t9)) fun r0 =>
          if Prod.fst r0 = Bool.true then Option.some (Sum.inr ((), ())) else Option.some (Sum.inl ((), ()))
      else Option.none
    else Option.some (Sum.inl ((), ()))
def junctionref2_duration.w0 : List Nat := [18, 19, 20, 21, 22, 23, 24, 25, 26, 27]
noncomputable def junctionref2_duration.e0 (k : Nat) : junctionref2_duration.s0.den → Option (OutT junctionref2_duration.o0) := fun d => junctionref2_duration.l0 k d.1.1 d.1.2.1
noncomputable def junctionref2_duration.m0 (k : Nat) : LamS κ := ⟨lamK 76 junctionref2_duration.w0 junctionref2_duration.s0 junctionref2_duration.o0 (junctionref2_duration.e0 k)⟩
def junctionref2_duration.o1 : List (Ex × Sh κ) := [(.exit 2, ⟨0, [9], [.int .i64], []⟩)]
noncomputable def junctionref2_duration.l1 (k : Nat) : Nat → ByteArray → Int → Option ((Int × Unit) × Unit)
  | 0, _, _ => none
  | j + 1, t0, t9 =>
    Option.bind (Go.Am.Tryd.junctionref2_duration.l0 k t0 t9) fun r0 =>
      Go.Am.onSum r0 (fun r1 => Option.some ((t9, ()), ())) fun r1 => junctionref2_duration.l1 k j t0 (Go.IntKind.wrap Go.IntKind.i64 (t9 + (1 : Int)))
def junctionref2_duration.w1 : List Nat := [18, 19, 20, 21, 22, 23, 24, 25, 26, 27, 28, 29, 9]
noncomputable def junctionref2_duration.e1 (k j : Nat) : junctionref2_duration.s1.den → Option (OutT junctionref2_duration.o1) := fun d => junctionref2_duration.l1 k j d.1.1 d.1.2.1
noncomputable def junctionref2_duration.m1 (k : Nat) : LamS κ := ⟨lamK 76 junctionref2_duration.w1 junctionref2_duration.s1 junctionref2_duration.o1 (junctionref2_duration.e1 k k)⟩
def junctionref2_duration.s2 : Sh κ := ⟨0, [0, 4, 7, 8, 9], [.str, .str, .int .i64, .int .i64, .int .i64], []⟩
def junctionref2_duration.o2 : List (Ex × Sh κ) := [(.normal, ⟨0, [47], [.bool], []⟩)]
noncomputable def junctionref2_duration.l2 (k : Nat) (t0 : ByteArray) (t4 : ByteArray) (t7 : Int) (t8 : Int) (t9 : Int) : Option ((Bool × Unit) × Unit) :=
    if Decidable.decide (t9 > t7) = Bool.true then
      if Decidable.decide (t9 < (↑(ByteArray.size t0) : Int)) = Bool.true then
        if (0 : Int) ≤ t9 ∧ t9 < (↑(ByteArray.size t0) : Int) then
          if (0 : Int) ≤ t8 ∧ t8 < (↑(ByteArray.size t4) : Int) then Option.some ((Go.Am.bt t0 t9 == Go.Am.bt t4 t8, ()), ()) else Option.none
        else Option.none
      else Option.some ((Bool.false, ()), ())
    else Option.some ((Bool.false, ()), ())
def junctionref2_duration.w2 : List Nat := [30, 31, 32, 33, 34, 35, 36, 37, 38, 39, 40, 41, 42, 43, 44, 45, 46, 47]
noncomputable def junctionref2_duration.e2 (k : Nat) : junctionref2_duration.s2.den → Option (OutT junctionref2_duration.o2) := fun d => junctionref2_duration.l2 k d.1.1 d.1.2.1 d.1.2.2.1 d.1.2.2.2.1 d.1.2.2.2.2.1
noncomputable def junctionref2_duration.m2 (k : Nat) : LamS κ := ⟨lamK 76 junctionref2_duration.w2 junctionref2_duration.s2 junctionref2_duration.o2 (junctionref2_duration.e2 k)⟩
def junctionref2_duration.s3 : Sh κ := ⟨0, [6], [.int .i64], []⟩
def junctionref2_duration.o3 : List (Ex × Sh κ) := [(.normal, ⟨0, [6], [.int .i64], []⟩)]
noncomputable def junctionref2_duration.l3 (k : Nat) (t6 : Int) : Option ((Int × Unit) × Unit) :=
    if Decidable.decide (t6 > (1099511627776 : Int)) = Bool.true then Option.some (((1099511627776 : Int), ()), ()) else Option.some ((t6, ()), ())
def junctionref2_duration.w3 : List Nat := [63, 64, 6]
noncomputable def junctionref2_duration.e3 (k : Nat) : junctionref2_duration.s3.den → Option (OutT junctionref2_duration.o3) := fun d => junctionref2_duration.l3 k d.1.1
noncomputable def junctionref2_duration.m3 (k : Nat) : LamS κ := ⟨lamK 76 junctionref2_duration.w3 junctionref2_duration.s3 junctionref2_duration.o3 (junctionref2_duration.e3 k)⟩
def junctionref2_duration.o4 : List (Ex × Sh κ) := [(.normal, ⟨1, [5, 6, 7], [.ptr 0 0, .int .i64, .int .i64], [.raw 199 [.int .i64, .int .i64, .int .i64]]⟩)]
noncomputable def junctionref2_duration.l4 (k : Nat) (t0 : ByteArray) (t4 : ByteArray) (t6 : Int) (t7 : Int) (t8 : Int) (b0 : Int) (b0_1 : Int) (b0_2 : Int) : Option ((Unit × Int × Int × Unit) × (Int × Int × Int × Unit) × Unit) :=
    Option.bind (Go.Am.Tryd.junctionref2_duration.l1 k k t0 t7) fun r0 =>
      Option.bind (Go.Am.Tryd.junctionref2_duration.l2 k t0 t4 t7 t8 (Prod.fst (Prod.fst r0))) fun r1 =>
        if Prod.fst (Prod.fst r1) = Bool.true then
          if Prod.fst (Prod.fst r0) ≤ (↑(ByteArray.size t0) : Int) ∧ (0 : Int) ≤ t7 ∧ t7 ≤ Prod.fst (Prod.fst r0) then
            Option.bind (Go.Am.Tryd.junctionref2_digits k (ByteArray.extract t0 (Int.toNat t7) (Int.toNat (Prod.fst (Prod.fst r0)))) (10 : Int) Bool.false)
              fun r2 =>
              if t8 = (↑(0 : Nat) : Int) then
                Option.bind
                  (Go.Am.Tryd.junctionref2_duration.l3 k (Go.IntKind.wrap Go.IntKind.i64 (t6 + Go.IntKind.wrap Go.IntKind.i64 (Prod.fst (Prod.fst r2) * b0))))
                  fun r5 =>
                  Option.some (((), Prod.fst (Prod.fst r5), Go.IntKind.wrap Go.IntKind.i64 (Prod.fst (Prod.fst r0) + (1 : Int)), ()), (b0, b0_1, b0_2, ()), ())
              else
                if t8 = (↑((0 : Nat) + (1 : Nat)) : Int) then
                  Option.bind
                    (Go.Am.Tryd.junctionref2_duration.l3 k (Go.IntKind.wrap Go.IntKind.i64 (t6 + Go.IntKind.wrap Go.IntKind.i64 (Prod.fst (Prod.fst r2) * b0_1))))
                    fun r4 =>
                    Option.some (((), Prod.fst (Prod.fst r4), Go.IntKind.wrap Go.IntKind.i64 (Prod.fst (Prod.fst r0) + (1 : Int)), ()), (b0, b0_1, b0_2, ()), ())
                else
                  if t8 = (↑((0 : Nat) + (1 : Nat) + (1 : Nat)) : Int) then
                    Option.bind
                      (Go.Am.Tryd.junctionref2_duration.l3 k (Go.IntKind.wrap Go.IntKind.i64 (t6 + Go.IntKind.wrap Go.IntKind.i64 (Prod.fst (Prod.fst r2) * b0_2))))
                      fun r3 =>
                      Option.some (((), Prod.fst (Prod.fst r3), Go.IntKind.wrap Go.IntKind.i64 (Prod.fst (Prod.fst r0) + (1 : Int)), ()), (b0, b0_1, b0_2, ()), ())
                  else Option.none
          else Option.none
        else Option.some (((), t6, t7, ()), (b0, b0_1, b0_2, ()), ())
def junctionref2_duration.w4 : List Nat := [17, 9, 18, 19, 20, 21, 22, 23, 24, 25, 26, 27, 28, 29, 30, 31, 32, 33, 34, 35, 36, 37, 38, 39, 40, 41, 42, 43, 44, 45, 46, 47, 49, 50, 51, 52, 53, 48, 54, 55, 10, 11, 56, 57, 58, 59, 60, 61, 62, 6, 63, 64, 65, 66, 7]
noncomputable def junctionref2_duration.e4 (k : Nat) : junctionref2_duration.s4.den → Option (OutT junctionref2_duration.o4) := fun d => junctionref2_duration.l4 k d.1.1 d.1.2.1 d.1.2.2.2.1 d.1.2.2.2.2.1 d.1.2.2.2.2.2.1 d.2.1.1 d.2.1.2.1 d.2.1.2.2.1
noncomputable def junctionref2_duration.m4 (k : Nat) : LamS κ := ⟨lamK 76 junctionref2_duration.w4 junctionref2_duration.s4 junctionref2_duration.o4 (junctionref2_duration.e4 k)⟩
def junctionref2_duration.o5 : List (Ex × Sh κ) := [(.exit 0, ⟨1, [7, 6], [.int .i64, .int .i64], [.raw 199 [.int .i64, .int .i64, .int .i64]]⟩)]
noncomputable def junctionref2_duration.l5 (k : Nat) : Nat → ByteArray → ByteArray → Int → Int → Int → Int → Int → Int → Option ((Int × Int × Unit) × (Int × Int × Int × Unit) × Unit)
  | 0, _, _, _, _, _, _, _, _ => none
  | j + 1, t0, t4, t6, t7, t8, b0, b0_1, b0_2 =>
    if Decidable.decide (t8 < (3 : Int)) = Bool.true then
      Option.bind (Go.Am.Tryd.junctionref2_duration.l4 k t0 t4 t6 t7 t8 b0 b0_1 b0_2) fun r0 =>
        junctionref2_duration.l5 k j t0 t4 (Prod.fst (Prod.snd (Prod.fst r0))) (Prod.fst (Prod.snd (Prod.snd (Prod.fst r0)))) (Go.IntKind.wrap Go.IntKind.i64 (t8 + (1 : Int)))
          (Prod.fst (Prod.fst (Prod.snd r0))) (Prod.fst (Prod.snd (Prod.fst (Prod.snd r0)))) (Prod.fst (Prod.snd (Prod.snd (Prod.fst (Prod.snd r0)))))
    else Option.some ((t7, t6, ()), (b0, b0_1, b0_2, ()), ())
def junctionref2_duration.w5 : List Nat := [13, 14, 17, 9, 18, 19, 20, 21, 22, 23, 24, 25, 26, 27, 28, 29, 30, 31, 32, 33, 34, 35, 36, 37, 38, 39, 40, 41, 42, 43, 44, 45, 46, 47, 49, 50, 51, 52, 53, 48, 54, 55, 10, 11, 56, 57, 58, 59, 60, 61, 62, 6, 63, 64, 65, 66, 7, 15, 16, 8]
noncomputable def junctionref2_duration.e5 (k j : Nat) : junctionref2_duration.s5.den → Option (OutT junctionref2_duration.o5) := fun d => junctionref2_duration.l5 k j d.1.1 d.1.2.1 d.1.2.2.2.1 d.1.2.2.2.2.1 d.1.2.2.2.2.2.1 d.2.1.1 d.2.1.2.1 d.2.1.2.2.1
noncomputable def junctionref2_duration.m5 (k : Nat) : LamS κ := ⟨lamK 76 junctionref2_duration.w5 junctionref2_duration.s5 junctionref2_duration.o5 (junctionref2_duration.e5 k k)⟩
def junctionref2_duration.p : Pat κ := .tup [.int .i64, .bool]
def junctionref2_duration.b : List (BPat κ) := []
noncomputable def junctionref2_duration (k : Nat) (t0 : ByteArray) : Option ((Int × Bool × Unit) × Unit) :=
    Option.bind
      (Go.Am.Tryd.junctionref2_duration.l5 k k t0 (ByteArray.mk #[(104 : UInt8), (109 : UInt8), (115 : UInt8)]) (0 : Int) (0 : Int) (0 : Int) (3600 : Int)
        (60 : Int) (1 : Int))
      fun r0 =>
      if Decidable.decide (Prod.fst (Prod.fst r0) > (0 : Int)) = Bool.true then
        Option.some ((Prod.fst (Prod.snd (Prod.fst r0)), Prod.fst (Prod.fst r0) == (↑(ByteArray.size t0) : Int), ()), ())
      else Option.some ((Prod.fst (Prod.snd (Prod.fst r0)), Bool.false, ()), ())
noncomputable def junctionref2_duration.f (k : Nat) : dens junctionref2_duration.i → Option (junctionref2_duration.p.den × densB junctionref2_duration.b) := fun d => junctionref2_duration k d.1
noncomputable def junctionref2_duration.ctx (k : Nat) : Ctx κ := junctionref2_duration.x k [junctionref2_duration.m0 k, junctionref2_duration.m1 k, junctionref2_duration.m2 k, junctionref2_duration.m3 k, junctionref2_duration.m4 k, junctionref2_duration.m5 k]
theorem junctionref2_duration.xOk (k : Nat) : (junctionref2_duration.ctx k).Ok := ctxOk ⟨junctionref2_digit.entOk k, junctionref2_digits.entOk k, trivial⟩ ⟨junctionref2_digit.qentOk k, trivial⟩
theorem junctionref2_duration.k0 (k : Nat) : LamOk (junctionref2_duration.ctx k) ((junctionref2_duration.ctx k).Λ 0) (sub [1, 1, 1, 1, 1, 0, 1, 0, 0, 1, 0, 0, 1, 0, 0, 0, 0] junctionref2_duration.c) :=
  cut_ok (kindOf := kindOf) (C := junctionref2_duration.ctx k) (n := .none) (L := junctionref2_duration.e0 k) (junctionref2_duration.xOk k) (by kernel_rfl) (by kernel_rfl) (fits_of (l := []) (by kernel_rfl) trivial) (fun _ => by kernel_rfl)
theorem junctionref2_duration.k1 (k : Nat) : LamOk (junctionref2_duration.ctx k) ((junctionref2_duration.ctx k).Λ 1) (.loop (sub [1, 1, 1, 1, 1, 0, 1, 0, 0, 1, 0, 0, 1, 0, 0, 0] junctionref2_duration.c)) :=
  loop_ok (kindOf := kindOf) (C := junctionref2_duration.ctx k) (n := (.pair (.cut 0) .none)) (L := junctionref2_duration.e1 k) (junctionref2_duration.xOk k) (by kernel_rfl) (by kernel_rfl) (fits_of (l := [(0, (sub [1, 1, 1, 1, 1, 0, 1, 0, 0, 1, 0, 0, 1, 0, 0, 0, 0] junctionref2_duration.c))]) (by kernel_rfl) ⟨junctionref2_duration.k0 k, trivial⟩) (fun _ => by kernel_rfl) (fun _ _ => by kernel_rfl) k
theorem junctionref2_duration.k2 (k : Nat) : LamOk (junctionref2_duration.ctx k) ((junctionref2_duration.ctx k).Λ 2) (sub [1, 1, 1, 1, 1, 0, 1, 0, 0, 1, 0, 0, 1, 1, 0] junctionref2_duration.c) :=
  cut_ok (kindOf := kindOf) (C := junctionref2_duration.ctx k) (n := (.ops [] 18)) (L := junctionref2_duration.e2 k) (junctionref2_duration.xOk k) (by kernel_rfl) (by kernel_rfl) (fits_of (l := []) (by kernel_rfl) trivial) (fun _ => by kernel_rfl)
theorem junctionref2_duration.k3 (k : Nat) : LamOk (junctionref2_duration.ctx k) ((junctionref2_duration.ctx k).Λ 3) (sub [1, 1, 1, 1, 1, 0, 1, 0, 0, 1, 0, 0, 1, 1, 1, 0, 1, 1, 0] junctionref2_duration.c) :=
  cut_ok (kindOf := kindOf) (C := junctionref2_duration.ctx k) (n := .none) (L := junctionref2_duration.e3 k) (junctionref2_duration.xOk k) (by kernel_rfl) (by kernel_rfl) (fits_of (l := []) (by kernel_rfl) trivial) (fun _ => by kernel_rfl)
theorem junctionref2_duration.k4 (k : Nat) : LamOk (junctionref2_duration.ctx k) ((junctionref2_duration.ctx k).Λ 4) (sub [1, 1, 1, 1, 1, 0, 1, 0, 0, 1, 0] junctionref2_duration.c) :=
  cut_ok (kindOf := kindOf) (C := junctionref2_duration.ctx k) (n := (.pair (.pair .none (.pair (.pair (.cut 1) .none) (.pair (.cut 2) (.pair (.pair .none (.pair .none (.pair (.cut 3) .none))) .none)))) .none)) (L := junctionref2_duration.e4 k) (junctionref2_duration.xOk k) (by kernel_rfl) (by kernel_rfl) (fits_of (l := [(1, .loop (sub [1, 1, 1, 1, 1, 0, 1, 0, 0, 1, 0, 0, 1, 0, 0, 0] junctionref2_duration.c)), (2, (sub [1, 1, 1, 1, 1, 0, 1, 0, 0, 1, 0, 0, 1, 1, 0] junctionref2_duration.c)), (3, (sub [1, 1, 1, 1, 1, 0, 1, 0, 0, 1, 0, 0, 1, 1, 1, 0, 1, 1, 0] junctionref2_duration.c))]) (by kernel_rfl) ⟨junctionref2_duration.k1 k, junctionref2_duration.k2 k, junctionref2_duration.k3 k, trivial⟩) (fun _ => by kernel_rfl)
theorem junctionref2_duration.k5 (k : Nat) : LamOk (junctionref2_duration.ctx k) ((junctionref2_duration.ctx k).Λ 5) (.loop (sub [1, 1, 1, 1, 1, 0, 1, 0, 0] junctionref2_duration.c)) :=
  loop_ok (kindOf := kindOf) (C := junctionref2_duration.ctx k) (n := (.pair .none (.pair (.cut 4) .none))) (L := junctionref2_duration.e5 k) (junctionref2_duration.xOk k) (by kernel_rfl) (by kernel_rfl) (fits_of (l := [(4, (sub [1, 1, 1, 1, 1, 0, 1, 0, 0, 1, 0] junctionref2_duration.c))]) (by kernel_rfl) ⟨junctionref2_duration.k4 k, trivial⟩) (fun _ => by kernel_rfl) (fun _ _ => by kernel_rfl) k
theorem junctionref2_duration.call (k : Nat) : CallV Tryd.prog E glob 119 junctionref2_duration.i junctionref2_duration.p junctionref2_duration.b (junctionref2_duration.f k) :=
  fn_okZ (kindOf := kindOf) (C := junctionref2_duration.ctx k) (n := (.pair .none (.pair .none (.pair .none (.pair .none (.pair .none (.pair (.pair .none (.pair (.cut 5) .none)) .none))))))) (junctionref2_duration.xOk k) Tryd.func119 junctionref2_duration.hb (fits_of (l := [(5, .loop (sub [1, 1, 1, 1, 1, 0, 1, 0, 0] junctionref2_duration.c))]) (by kernel_rfl) ⟨junctionref2_duration.k5 k, trivial⟩) (fun _ => by kernel_rfl)
noncomputable def junctionref2_duration.ent (k : Nat) : EntS κ := ⟨119, [], entOf junctionref2_duration.i junctionref2_duration.p junctionref2_duration.b true (junctionref2_duration.f k) E⟩
theorem junctionref2_duration.entOk (k : Nat) : EntOk Tryd.prog E glob 119 (junctionref2_duration.ent k).run := ent_free encOk (callable_of Tryd.func119 (by kernel_rfl) (by kernel_rfl)) (by rfl) trivial (junctionref2_duration.call k)
noncomputable def junctionref2_Number.c : Go.Code := match Tryd.f104.body with | some c => c | none => .skip
theorem junctionref2_Number.hb : Tryd.f104.body = some junctionref2_Number.c := by kernel_rfl
noncomputable def junctionref2_Number.x (k : Nat) (ls : List (LamS κ)) : Ctx κ := mkCtx [junctionref2_digits.ent k, junctionref2_duration.ent k] [] ls
def junctionref2_Number.i : List (Pat κ) := [.str]
def junctionref2_Number.s1 : Sh κ := ⟨0, [0, 4, 5], [.str, .int .i64, .bool], []⟩
def junctionref2_Number.s0 : Sh κ := ⟨0, [0, 5], [.str, .bool], []⟩
def junctionref2_Number.o0 : List (Ex × Sh κ) := [(.normal, ⟨0, [27], [.bool], []⟩)]
noncomputable def junctionref2_Number.l0 (k : Nat) (t0 : ByteArray) (t5 : Bool) : Option ((Bool × Unit) × Unit) :=
    if (!t5) = Bool.true then
      if Decidable.decide ((↑(ByteArray.size t0) : Int) > (2 : Int)) = Bool.true then
        if (0 : Int) ≤ (0 : Int) ∧ (0 : Int) < (↑(ByteArray.size t0) : Int) then
          if (Go.Am.bt t0 (0 : Int) == (48 : Int)) = Bool.true then
            if (0 : Int) ≤ (1 : Int) ∧ (1 : Int) < (↑(ByteArray.size t0) : Int) then Option.some ((Go.Am.bt t0 (1 : Int) == (120 : Int), ()), ()) else Option.none
          else Option.some ((Bool.false, ()), ())
        else Option.none
      else Option.some ((Bool.false, ()), ())
    else Option.some ((Bool.false, ()), ())
def junctionref2_Number.w0 : List Nat := [11, 12, 13, 14, 15, 16, 17, 18, 19, 20, 21, 22, 23, 24, 25, 26, 27]
noncomputable def junctionref2_Number.e0 (k : Nat) : junctionref2_Number.s0.den → Option (OutT junctionref2_Number.o0) := fun d => junctionref2_Number.l0 k d.1.1 d.1.2.1
noncomputable def junctionref2_Number.m0 (k : Nat) : LamS κ := ⟨lamK 47 junctionref2_Number.w0 junctionref2_Number.s0 junctionref2_Number.o0 (junctionref2_Number.e0 k)⟩
def junctionref2_Number.o1 : List (Ex × Sh κ) := [(.normal, ⟨0, [4, 5], [.int .i64, .bool], []⟩)]
noncomputable def junctionref2_Number.l1 (k : Nat) (t0 : ByteArray) (t4 : Int) (t5 : Bool) : Option ((Int × Bool × Unit) × Unit) :=
    Option.bind (Go.Am.Tryd.junctionref2_Number.l0 k t0 t5) fun r0 =>
      if Prod.fst (Prod.fst r0) = Bool.true then
        if (0 : Int) ≤ (2 : Int) ∧ (2 : Int) ≤ (↑(ByteArray.size t0) : Int) then
          Option.bind (Go.Am.Tryd.junctionref2_digits k (ByteArray.extract t0 (Int.toNat (2 : Int)) (ByteArray.size t0)) (16 : Int) Bool.true) fun r1 =>
            Option.some ((Prod.fst (Prod.fst r1), Prod.fst (Prod.snd (Prod.fst r1)), ()), ())
        else Option.none
      else Option.some ((t4, t5, ()), ())
def junctionref2_Number.w1 : List Nat := [11, 12, 13, 14, 15, 16, 17, 18, 19, 20, 21, 22, 23, 24, 25, 26, 27, 29, 30, 31, 28, 32, 33, 4, 5]
noncomputable def junctionref2_Number.e1 (k : Nat) : junctionref2_Number.s1.den → Option (OutT junctionref2_Number.o1) := fun d => junctionref2_Number.l1 k d.1.1 d.1.2.1 d.1.2.2.1
noncomputable def junctionref2_Number.m1 (k : Nat) : LamS κ := ⟨lamK 47 junctionref2_Number.w1 junctionref2_Number.s1 junctionref2_Number.o1 (junctionref2_Number.e1 k)⟩
def junctionref2_Number.s2 : Sh κ := ⟨0, [0, 4, 5], [.str, .int .i64, .bool], []⟩
def junctionref2_Number.o2 : List (Ex × Sh κ) := [(.normal, ⟨0, [4, 5], [.int .i64, .bool], []⟩)]
noncomputable def junctionref2_Number.l2 (k : Nat) (t0 : ByteArray) (t4 : Int) (t5 : Bool) : Option ((Int × Bool × Unit) × Unit) :=
    if (!t5) = Bool.true then
      Option.bind (Go.Am.Tryd.junctionref2_duration k t0) fun r0 => Option.some ((Prod.fst (Prod.fst r0), Prod.fst (Prod.snd (Prod.fst r0)), ()), ())
    else Option.some ((t4, t5, ()), ())
def junctionref2_Number.w2 : List Nat := [34, 35, 37, 38, 36, 39, 40, 4, 5]
noncomputable def junctionref2_Number.e2 (k : Nat) : junctionref2_Number.s2.den → Option (OutT junctionref2_Number.o2) := fun d => junctionref2_Number.l2 k d.1.1 d.1.2.1 d.1.2.2.1
noncomputable def junctionref2_Number.m2 (k : Nat) : LamS κ := ⟨lamK 47 junctionref2_Number.w2 junctionref2_Number.s2 junctionref2_Number.o2 (junctionref2_Number.e2 k)⟩
def junctionref2_Number.p : Pat κ := .tup [.int .i32, .int .i64]
def junctionref2_Number.b : List (BPat κ) := []
noncomputable def junctionref2_Number (k : Nat) (t0 : ByteArray) : Option ((Int × Int × Unit) × Unit) :=
    Option.bind (Go.Am.Tryd.junctionref2_digits k t0 (10 : Int) Bool.true) fun r0 =>
      Option.bind (Go.Am.Tryd.junctionref2_Number.l1 k t0 (Prod.fst (Prod.fst r0)) (Prod.fst (Prod.snd (Prod.fst r0)))) fun r1 =>
        Option.bind (Go.Am.Tryd.junctionref2_Number.l2 k t0 (Prod.fst (Prod.fst r1)) (Prod.fst (Prod.snd (Prod.fst r1)))) fun r2 =>
          if (!Prod.fst (Prod.snd (Prod.fst r2))) = Bool.true then Option.some (((0 : Int), (22 : Int), ()), ())
          else
            if Decidable.decide (Prod.fst (Prod.fst r2) > (2147483647 : Int)) = Bool.true then Option.some (((0 : Int), (23 : Int), ()), ())
            else Option.some ((Go.IntKind.wrap Go.IntKind.i32 (Prod.fst (Prod.fst r2)), (0 : Int), ()), ())
noncomputable def junctionref2_Number.f (k : Nat) : dens junctionref2_Number.i → Option (junctionref2_Number.p.den × densB junctionref2_Number.b) := fun d => junctionref2_Number k d.1
noncomputable def junctionref2_Number.ctx (k : Nat) : Ctx κ := junctionref2_Number.x k [junctionref2_Number.m0 k, junctionref2_Number.m1 k, junctionref2_Number.m2 k]
theorem junctionref2_Number.xOk (k : Nat) : (junctionref2_Number.ctx k).Ok := ctxOk ⟨junctionref2_digits.entOk k, junctionref2_duration.entOk k, trivial⟩ trivial
theorem junctionref2_Number.k0 (k : Nat) : LamOk (junctionref2_Number.ctx k) ((junctionref2_Number.ctx k).Λ 0) (sub [1, 1, 0, 0] junctionref2_Number.c) :=
  cut_ok (kindOf := kindOf) (C := junctionref2_Number.ctx k) (n := .none) (L := junctionref2_Number.e0 k) (junctionref2_Number.xOk k) (by kernel_rfl) (by kernel_rfl) (fits_of (l := []) (by kernel_rfl) trivial) (fun _ => by kernel_rfl)
theorem junctionref2_Number.k1 (k : Nat) : LamOk (junctionref2_Number.ctx k) ((junctionref2_Number.ctx k).Λ 1) (sub [1, 1, 0] junctionref2_Number.c) :=
  cut_ok (kindOf := kindOf) (C := junctionref2_Number.ctx k) (n := (.pair (.cut 0) .none)) (L := junctionref2_Number.e1 k) (junctionref2_Number.xOk k) (by kernel_rfl) (by kernel_rfl) (fits_of (l := [(0, (sub [1, 1, 0, 0] junctionref2_Number.c))]) (by kernel_rfl) ⟨junctionref2_Number.k0 k, trivial⟩) (fun _ => by kernel_rfl)
theorem junctionref2_Number.k2 (k : Nat) : LamOk (junctionref2_Number.ctx k) ((junctionref2_Number.ctx k).Λ 2) (sub [1, 1, 1, 0] junctionref2_Number.c) :=
  cut_ok (kindOf := kindOf) (C := junctionref2_Number.ctx k) (n := .none) (L := junctionref2_Number.e2 k) (junctionref2_Number.xOk k) (by kernel_rfl) (by kernel_rfl) (fits_of (l := []) (by kernel_rfl) trivial) (fun _ => by kernel_rfl)
theorem junctionref2_Number.call (k : Nat) : CallV Tryd.prog E glob 104 junctionref2_Number.i junctionref2_Number.p junctionref2_Number.b (junctionref2_Number.f k) :=
  fn_okZ (kindOf := kindOf) (C := junctionref2_Number.ctx k) (n := (.pair .none (.pair .none (.pair (.cut 1) (.pair (.cut 2) .none))))) (junctionref2_Number.xOk k) Tryd.func104 junctionref2_Number.hb (fits_of (l := [(1, (sub [1, 1, 0] junctionref2_Number.c)), (2, (sub [1, 1, 1, 0] junctionref2_Number.c))]) (by kernel_rfl) ⟨junctionref2_Number.k1 k, junctionref2_Number.k2 k, trivial⟩) (fun _ => by kernel_rfl)
noncomputable def junctionref2_Number.ent (k : Nat) : EntS κ := ⟨104, [], entOf junctionref2_Number.i junctionref2_Number.p junctionref2_Number.b true (junctionref2_Number.f k) E⟩
theorem junctionref2_Number.entOk (k : Nat) : EntOk Tryd.prog E glob 104 (junctionref2_Number.ent k).run := ent_free encOk (callable_of Tryd.func104 (by kernel_rfl) (by kernel_rfl)) (by rfl) trivial (junctionref2_Number.call k)
noncomputable def junctionref2_KindOf.c : Go.Code := match Tryd.f87.body with | some c => c | none => .skip
theorem junctionref2_KindOf.hb : Tryd.f87.body = some junctionref2_KindOf.c := by kernel_rfl
noncomputable def junctionref2_KindOf.x (k : Nat) (ls : List (LamS κ)) : Ctx κ := mkCtx [junctionref2_letter.ent k, junctionref2_runEnd.ent k, junctionref2_Number.ent k] [junctionref2_letter.qent k, junctionref2_runEnd.qent k] ls
def junctionref2_KindOf.i : List (Pat κ) := [.str]
def junctionref2_KindOf.s0 : Sh κ := ⟨0, [0, 3], [.str, .int .i64], []⟩
def junctionref2_KindOf.o0 : List (Ex × Sh κ) := [(.ret, ⟨0, [2], [.int .i64], []⟩), (.exit 0, ⟨0, [], [], []⟩)]
noncomputable def junctionref2_KindOf.l0 (k : Nat) : Nat → ByteArray → Int → Option ((Int × Unit) × Unit ⊕ Unit × Unit)
  | 0, _, _ => none
  | j + 1, t0, t3 =>
    if Decidable.decide (t3 < (41 : Int)) = Bool.true then
      if (0 : Int) ≤ t3 ∧ t3 < (↑(41 : Nat) : Int) then
        if (ByteArray.toList (List.getD Go.Am.Tryd.tab2 (Int.toNat t3) ByteArray.empty) == ByteArray.toList t0) = Bool.true then
          Option.some (Sum.inl ((Go.IntKind.wrap Go.IntKind.i64 ((10 : Int) + t3), ()), ()))
        else junctionref2_KindOf.l0 k j t0 (Go.IntKind.wrap Go.IntKind.i64 (t3 + (1 : Int)))
      else Option.none
    else Option.some (Sum.inr ((), ()))
def junctionref2_KindOf.w0 : List Nat := [7, 8, 11, 12, 13, 14, 15, 16, 17, 2, 9, 10, 3]
noncomputable def junctionref2_KindOf.e0 (k j : Nat) : junctionref2_KindOf.s0.den → Option (OutT junctionref2_KindOf.o0) := fun d => junctionref2_KindOf.l0 k j d.1.1 d.1.2.1
noncomputable def junctionref2_KindOf.m0 (k : Nat) : LamS κ := ⟨lamK 51 junctionref2_KindOf.w0 junctionref2_KindOf.s0 junctionref2_KindOf.o0 (junctionref2_KindOf.e0 k k)⟩
def junctionref2_KindOf.s1 : Sh κ := ⟨0, [0, 4], [.str, .int .i64], []⟩
def junctionref2_KindOf.o1 : List (Ex × Sh κ) := [(.ret, ⟨0, [2], [.int .i64], []⟩), (.exit 2, ⟨0, [], [], []⟩)]
noncomputable def junctionref2_KindOf.l1 (k : Nat) : Nat → ByteArray → Int → Option ((Int × Unit) × Unit ⊕ Unit × Unit)
  | 0, _, _ => none
  | j + 1, t0, t4 =>
    if Decidable.decide (t4 < (18 : Int)) = Bool.true then
      if (0 : Int) ≤ t4 ∧ t4 < (↑(18 : Nat) : Int) then
        if (ByteArray.toList (List.getD Go.Am.Tryd.tab3 (Int.toNat t4) ByteArray.empty) == ByteArray.toList t0) = Bool.true then
          Option.some (Sum.inl ((Go.IntKind.wrap Go.IntKind.i64 ((60 : Int) + t4), ()), ()))
        else junctionref2_KindOf.l1 k j t0 (Go.IntKind.wrap Go.IntKind.i64 (t4 + (1 : Int)))
      else Option.none
    else Option.some (Sum.inr ((), ()))
def junctionref2_KindOf.w1 : List Nat := [18, 19, 22, 23, 24, 25, 26, 27, 28, 2, 20, 21, 4]
noncomputable def junctionref2_KindOf.e1 (k j : Nat) : junctionref2_KindOf.s1.den → Option (OutT junctionref2_KindOf.o1) := fun d => junctionref2_KindOf.l1 k j d.1.1 d.1.2.1
noncomputable def junctionref2_KindOf.m1 (k : Nat) : LamS κ := ⟨lamK 51 junctionref2_KindOf.w1 junctionref2_KindOf.s1 junctionref2_KindOf.o1 (junctionref2_KindOf.e1 k k)⟩
def junctionref2_KindOf.s2 : Sh κ := ⟨0, [0], [.str], []⟩
def junctionref2_KindOf.o2 : List (Ex × Sh κ) := [(.ret, ⟨0, [2], [.int .i64], []⟩), (.normal, ⟨0, [], [], []⟩)]
noncomputable def junctionref2_KindOf.l2 (k : Nat) (t0 : ByteArray) : Option ((Int × Unit) × Unit ⊕ Unit × Unit) :=
    if (ByteArray.toList t0 == ByteArray.toList (ByteArray.mk #[])) = Bool.false then
      Option.bind (Go.Am.Tryd.junctionref2_runEnd k t0 (0 : Int)) fun r0 =>
        if (Prod.fst r0 != (↑(ByteArray.size t0) : Int)) = Bool.true then Option.some (Sum.inl (((-1 : Int), ()), ())) else Option.some (Sum.inr ((), ()))
    else Option.some (Sum.inl (((-1 : Int), ()), ()))
def junctionref2_KindOf.w2 : List Nat := [29, 30, 31, 32, 33, 34, 35, 36, 37, 2]
noncomputable def junctionref2_KindOf.e2 (k : Nat) : junctionref2_KindOf.s2.den → Option (OutT junctionref2_KindOf.o2) := fun d => junctionref2_KindOf.l2 k d.1.1
noncomputable def junctionref2_KindOf.m2 (k : Nat) : LamS κ := ⟨lamK 51 junctionref2_KindOf.w2 junctionref2_KindOf.s2 junctionref2_KindOf.o2 (junctionref2_KindOf.e2 k)⟩
def junctionref2_KindOf.p : Pat κ := .int .i64
def junctionref2_KindOf.b : List (BPat κ) := []
noncomputable def junctionref2_KindOf (k : Nat) (t0 : ByteArray) : Option (Int × Unit) :=
    Option.bind (Go.Am.Tryd.junctionref2_KindOf.l0 k k t0 (0 : Int)) fun r0 =>
      Go.Am.onSum r0 (fun r1 => Option.some (Prod.fst (Prod.fst r1), ())) fun r1 =>
        Option.bind (Go.Am.Tryd.junctionref2_KindOf.l1 k k t0 (0 : Int)) fun r2 =>
          Go.Am.onSum r2 (fun r3 => Option.some (Prod.fst (Prod.fst r3), ())) fun r3 =>
            Option.bind (Go.Am.Tryd.junctionref2_KindOf.l2 k t0) fun r4 =>
              Go.Am.onSum r4 (fun r5 => Option.some (Prod.fst (Prod.fst r5), ())) fun r5 =>
                if (0 : Int) ≤ (0 : Int) ∧ (0 : Int) < (↑(ByteArray.size t0) : Int) then
                  Option.bind (Go.Am.Tryd.junctionref2_letter k (Go.Am.bt t0 (0 : Int))) fun r6 =>
                    if Prod.fst r6 = Bool.true then
                      if Decidable.decide ((↑(ByteArray.size t0) : Int) > (32 : Int)) = Bool.true then Option.some ((-1 : Int), ()) else Option.some ((1 : Int), ())
                    else
                      Option.bind (Go.Am.Tryd.junctionref2_Number k t0) fun r7 =>
                        if (Prod.fst (Prod.snd (Prod.fst r7)) != (0 : Int)) = Bool.true then Option.some ((-1 : Int), ()) else Option.some ((2 : Int), ())
                else Option.none
noncomputable def junctionref2_KindOf.f (k : Nat) : dens junctionref2_KindOf.i → Option (junctionref2_KindOf.p.den × densB junctionref2_KindOf.b) := fun d => junctionref2_KindOf k d.1
noncomputable def junctionref2_KindOf.ctx (k : Nat) : Ctx κ := junctionref2_KindOf.x k [junctionref2_KindOf.m0 k, junctionref2_KindOf.m1 k, junctionref2_KindOf.m2 k]
theorem junctionref2_KindOf.xOk (k : Nat) : (junctionref2_KindOf.ctx k).Ok := ctxOk ⟨junctionref2_letter.entOk k, junctionref2_runEnd.entOk k, junctionref2_Number.entOk k, trivial⟩ ⟨junctionref2_letter.qentOk k, junctionref2_runEnd.qentOk k, trivial⟩
theorem junctionref2_KindOf.k0 (k : Nat) : LamOk (junctionref2_KindOf.ctx k) ((junctionref2_KindOf.ctx k).Λ 0) (.loop (sub [1, 0, 1, 0, 0] junctionref2_KindOf.c)) :=
  loop_ok (kindOf := kindOf) (C := junctionref2_KindOf.ctx k) (n := .none) (L := junctionref2_KindOf.e0 k) (junctionref2_KindOf.xOk k) (by kernel_rfl) (by kernel_rfl) (fits_of (l := []) (by kernel_rfl) trivial) (fun _ => by kernel_rfl) (fun _ _ => by kernel_rfl) k
theorem junctionref2_KindOf.k1 (k : Nat) : LamOk (junctionref2_KindOf.ctx k) ((junctionref2_KindOf.ctx k).Λ 1) (.loop (sub [1, 1, 0, 1, 0, 0] junctionref2_KindOf.c)) :=
  loop_ok (kindOf := kindOf) (C := junctionref2_KindOf.ctx k) (n := .none) (L := junctionref2_KindOf.e1 k) (junctionref2_KindOf.xOk k) (by kernel_rfl) (by kernel_rfl) (fits_of (l := []) (by kernel_rfl) trivial) (fun _ => by kernel_rfl) (fun _ _ => by kernel_rfl) k
theorem junctionref2_KindOf.k2 (k : Nat) : LamOk (junctionref2_KindOf.ctx k) ((junctionref2_KindOf.ctx k).Λ 2) (sub [1, 1, 1, 0] junctionref2_KindOf.c) :=
  cut_ok (kindOf := kindOf) (C := junctionref2_KindOf.ctx k) (n := .none) (L := junctionref2_KindOf.e2 k) (junctionref2_KindOf.xOk k) (by kernel_rfl) (by kernel_rfl) (fits_of (l := []) (by kernel_rfl) trivial) (fun _ => by kernel_rfl)
theorem junctionref2_KindOf.call (k : Nat) : CallV Tryd.prog E glob 87 junctionref2_KindOf.i junctionref2_KindOf.p junctionref2_KindOf.b (junctionref2_KindOf.f k) :=
  fn_okZ (kindOf := kindOf) (C := junctionref2_KindOf.ctx k) (n := (.pair .none (.pair (.pair .none (.pair (.cut 0) .none)) (.pair (.pair .none (.pair (.cut 1) .none)) (.pair (.cut 2) .none))))) (junctionref2_KindOf.xOk k) Tryd.func87 junctionref2_KindOf.hb (fits_of (l := [(0, .loop (sub [1, 0, 1, 0, 0] junctionref2_KindOf.c)), (1, .loop (sub [1, 1, 0, 1, 0, 0] junctionref2_KindOf.c)), (2, (sub [1, 1, 1, 0] junctionref2_KindOf.c))]) (by kernel_rfl) ⟨junctionref2_KindOf.k0 k, junctionref2_KindOf.k1 k, junctionref2_KindOf.k2 k, trivial⟩) (fun _ => by kernel_rfl)
noncomputable def junctionref2_KindOf.ent (k : Nat) : EntS κ := ⟨87, [], entOf junctionref2_KindOf.i junctionref2_KindOf.p junctionref2_KindOf.b true (junctionref2_KindOf.f k) E⟩
theorem junctionref2_KindOf.entOk (k : Nat) : EntOk Tryd.prog E glob 87 (junctionref2_KindOf.ent k).run := ent_free encOk (callable_of Tryd.func87 (by kernel_rfl) (by kernel_rfl)) (by rfl) trivial (junctionref2_KindOf.call k)
noncomputable def junctionref2_KindOf.qent (k : Nat) : QEntS κ := ⟨87, qentOf junctionref2_KindOf.i junctionref2_KindOf.p (junctionref2_KindOf.f k) E⟩
theorem junctionref2_KindOf.qentOk (k : Nat) : QEntOk Tryd.prog E glob 87 (junctionref2_KindOf.qent k).run := qent_ok encOk (callable_of Tryd.func87 (by kernel_rfl) (by kernel_rfl)) (junctionref2_KindOf.call k)
noncomputable def junctionref5_unlike.c : Go.Code := match Tryd.f63.body with | some c => c | none => .skip
theorem junctionref5_unlike.hb : Tryd.f63.body = some junctionref5_unlike.c := by kernel_rfl
noncomputable def junctionref5_unlike.x (k : Nat) (ls : List (LamS κ)) : Ctx κ := mkCtx [junctionref2_KindOf.ent k] [junctionref2_KindOf.qent k] ls
def junctionref5_unlike.i : List (Pat κ) := [.ro .T9]
def junctionref5_unlike.s1 : Sh κ := ⟨0, [0, 3], [.ro .T9, .int .i64], []⟩
def junctionref5_unlike.s0 : Sh κ := ⟨0, [0, 3, 4], [.ro .T9, .int .i64, .int .i64], []⟩
def junctionref5_unlike.o0 : List (Ex × Sh κ) := [(.ret, ⟨0, [2], [.bool], []⟩), (.exit 2, ⟨0, [], [], []⟩)]
noncomputable def junctionref5_unlike.l0 (k : Nat) : Nat → (List ByteArray) → Int → Int → Option ((Bool × Unit) × Unit ⊕ Unit × Unit)
  | 0, _, _, _ => none
  | j + 1, t0, t3, t4 =>
    if Decidable.decide (t4 < t3) = Bool.true then
      if (0 : Int) ≤ t3 ∧ t3 < (↑(List.length t0) : Int) then
        if (0 : Int) ≤ t4 ∧ t4 < (↑(List.length t0) : Int) then
          if (ByteArray.toList (List.getD t0 (Int.toNat t3) ByteArray.empty) == ByteArray.toList (List.getD t0 (Int.toNat t4) ByteArray.empty)) = Bool.true then
            Option.some (Sum.inl ((Bool.false, ()), ()))
          else junctionref5_unlike.l0 k j t0 t3 (Go.IntKind.wrap Go.IntKind.i64 (t4 + (1 : Int)))
        else Option.none
      else Option.none
    else Option.some (Sum.inr ((), ()))
def junctionref5_unlike.w0 : List Nat := [17, 18, 19, 22, 23, 24, 25, 26, 27, 28, 29, 30, 2, 20, 21, 4]
noncomputable def junctionref5_unlike.e0 (k j : Nat) : junctionref5_unlike.s0.den → Option (OutT junctionref5_unlike.o0) := fun d => junctionref5_unlike.l0 k j d.1.1 d.1.2.1 d.1.2.2.1
noncomputable def junctionref5_unlike.m0 (k : Nat) : LamS κ := ⟨lamK 31 junctionref5_unlike.w0 junctionref5_unlike.s0 junctionref5_unlike.o0 (junctionref5_unlike.e0 k k)⟩
def junctionref5_unlike.o1 : List (Ex × Sh κ) := [(.ret, ⟨0, [2], [.bool], []⟩), (.exit 0, ⟨0, [], [], []⟩)]
noncomputable def junctionref5_unlike.l1 (k : Nat) : Nat → (List ByteArray) → Int → Option ((Bool × Unit) × Unit ⊕ Unit × Unit)
  | 0, _, _ => none
  | j + 1, t0, t3 =>
    if Decidable.decide (t3 < (↑(List.length t0) : Int)) = Bool.true then
      if (0 : Int) ≤ t3 ∧ t3 < (↑(List.length t0) : Int) then
        Option.bind (Go.Am.Tryd.junctionref2_KindOf k (List.getD t0 (Int.toNat t3) ByteArray.empty)) fun r0 =>
          if (Prod.fst r0 != (1 : Int)) = Bool.true then Option.some (Sum.inl ((Bool.false, ()), ()))
          else
            Option.bind (Go.Am.Tryd.junctionref5_unlike.l0 k k t0 t3 (0 : Int)) fun r1 =>
              Go.Am.onSum r1 (fun r2 => Option.some (Sum.inl ((Prod.fst (Prod.fst r2), ()), ()))) fun r2 =>
                junctionref5_unlike.l1 k j t0 (Go.IntKind.wrap Go.IntKind.i64 (t3 + (1 : Int)))
      else Option.none
    else Option.some (Sum.inr ((), ()))
def junctionref5_unlike.w1 : List Nat := [5, 6, 7, 8, 11, 12, 13, 14, 15, 16, 2, 4, 17, 18, 19, 22, 23, 24, 25, 26, 27, 28, 29, 30, 20, 21, 9, 10, 3]
noncomputable def junctionref5_unlike.e1 (k j : Nat) : junctionref5_unlike.s1.den → Option (OutT junctionref5_unlike.o1) := fun d => junctionref5_unlike.l1 k j d.1.1 d.1.2.1
noncomputable def junctionref5_unlike.m1 (k : Nat) : LamS κ := ⟨lamK 31 junctionref5_unlike.w1 junctionref5_unlike.s1 junctionref5_unlike.o1 (junctionref5_unlike.e1 k k)⟩
def junctionref5_unlike.p : Pat κ := .bool
def junctionref5_unlike.b : List (BPat κ) := []
noncomputable def junctionref5_unlike (k : Nat) (t0 : List ByteArray) : Option (Bool × Unit) :=
    Option.bind (Go.Am.Tryd.junctionref5_unlike.l1 k k t0 (0 : Int)) fun r0 =>
      Go.Am.onSum r0 (fun r1 => Option.some (Prod.fst (Prod.fst r1), ())) fun r1 => Option.some (Bool.true, ())
noncomputable def junctionref5_unlike.f (k : Nat) : dens junctionref5_unlike.i → Option (junctionref5_unlike.p.den × densB junctionref5_unlike.b) := fun d => junctionref5_unlike k d.1
noncomputable def junctionref5_unlike.ctx (k : Nat) : Ctx κ := junctionref5_unlike.x k [junctionref5_unlike.m0 k, junctionref5_unlike.m1 k]
theorem junctionref5_unlike.xOk (k : Nat) : (junctionref5_unlike.ctx k).Ok := ctxOk ⟨junctionref2_KindOf.entOk k, trivial⟩ ⟨junctionref2_KindOf.qentOk k, trivial⟩
theorem junctionref5_unlike.k0 (k : Nat) : LamOk (junctionref5_unlike.ctx k) ((junctionref5_unlike.ctx k).Λ 0) (.loop (sub [1, 0, 1, 0, 0, 1, 0, 0, 1, 1, 0, 0] junctionref5_unlike.c)) :=
  loop_ok (kindOf := kindOf) (C := junctionref5_unlike.ctx k) (n := (.pair .none (.pair (.pair (.pair (.ops [] 9) .none) .none) .none))) (L := junctionref5_unlike.e0 k) (junctionref5_unlike.xOk k) (by kernel_rfl) (by kernel_rfl) (fits_of (l := []) (by kernel_rfl) trivial) (fun _ => by kernel_rfl) (fun _ _ => by kernel_rfl) k
theorem junctionref5_unlike.k1 (k : Nat) : LamOk (junctionref5_unlike.ctx k) ((junctionref5_unlike.ctx k).Λ 1) (.loop (sub [1, 0, 1, 0, 0] junctionref5_unlike.c)) :=
  loop_ok (kindOf := kindOf) (C := junctionref5_unlike.ctx k) (n := (.pair .none (.pair (.pair (.pair .none (.pair .none (.pair (.cut 0) .none))) .none) .none))) (L := junctionref5_unlike.e1 k) (junctionref5_unlike.xOk k) (by kernel_rfl) (by kernel_rfl) (fits_of (l := [(0, .loop (sub [1, 0, 1, 0, 0, 1, 0, 0, 1, 1, 0, 0] junctionref5_unlike.c))]) (by kernel_rfl) ⟨junctionref5_unlike.k0 k, trivial⟩) (fun _ => by kernel_rfl) (fun _ _ => by kernel_rfl) k
theorem junctionref5_unlike.call (k : Nat) : CallV Tryd.prog E glob 63 junctionref5_unlike.i junctionref5_unlike.p junctionref5_unlike.b (junctionref5_unlike.f k) :=
  fn_okZ (kindOf := kindOf) (C := junctionref5_unlike.ctx k) (n := (.pair .none (.pair (.pair .none (.pair (.cut 1) .none)) .none))) (junctionref5_unlike.xOk k) Tryd.func63 junctionref5_unlike.hb (fits_of (l := [(1, .loop (sub [1, 0, 1, 0, 0] junctionref5_unlike.c))]) (by kernel_rfl) ⟨junctionref5_unlike.k1 k, trivial⟩) (fun _ => by kernel_rfl)
noncomputable def junctionref5_unlike.ent (k : Nat) : EntS κ := ⟨63, [], entOf junctionref5_unlike.i junctionref5_unlike.p junctionref5_unlike.b true (junctionref5_unlike.f k) E⟩
theorem junctionref5_unlike.entOk (k : Nat) : EntOk Tryd.prog E glob 63 (junctionref5_unlike.ent k).run := ent_free encOk (callable_of Tryd.func63 (by kernel_rfl) (by kernel_rfl)) (by rfl) trivial (junctionref5_unlike.call k)
noncomputable def junctionref5_unlike.qent (k : Nat) : QEntS κ := ⟨63, qentOf junctionref5_unlike.i junctionref5_unlike.p (junctionref5_unlike.f k) E⟩
theorem junctionref5_unlike.qentOk (k : Nat) : QEntOk Tryd.prog E glob 63 (junctionref5_unlike.qent k).run := qent_ok encOk (callable_of Tryd.func63 (by kernel_rfl) (by kernel_rfl)) (junctionref5_unlike.call k)
noncomputable def junctionref5_things.c : Go.Code := match Tryd.f64.body with | some c => c | none => .skip
theorem junctionref5_things.hb : Tryd.f64.body = some junctionref5_things.c := by kernel_rfl
noncomputable def junctionref5_things.x (k : Nat) (ls : List (LamS κ)) : Ctx κ := mkCtx [] [] ls
def junctionref5_things.i : List (Pat κ) := [.agg [.str, .ro .T42, .ro .T47, .ro .T110, .ro .T9, .ro .T9, .ro .T112, .ro .T98, .int .i64]]
def junctionref5_things.s0 : Sh κ := ⟨0, [1, 3, 4], [.rop [.str, .ro .T42, .ro .T47, .ro .T110, .ro .T9, .ro .T9, .ro .T112, .ro .T98, .int .i64], .own .T9 0, .int .i64], [.rows .T9]⟩
def junctionref5_things.o0 : List (Ex × Sh κ) := [(.exit 0, ⟨1, [3], [.own .T9 0], [.rows .T9]⟩)]
noncomputable def junctionref5_things.l0 (k : Nat) : Nat → ByteArray → (List S42) → (List S47) → (List S110) → (List ByteArray) → (List ByteArray) → (List S112) → (List S98) → Int → Int → (List ByteArray) → Option ((Unit × Unit) × List ByteArray × Unit)
  | 0, _, _, _, _, _, _, _, _, _, _, _ => none
  | j + 1, t1, t1_1, t1_2, t1_3, t1_4, t1_5, t1_6, t1_7, t1_8, t4, b0 =>
    if Decidable.decide (t4 < (↑(List.length t1_1) : Int)) = Bool.true then
      if (0 : Int) ≤ t4 ∧ t4 < (↑(List.length t1_1) : Int) then
        Go.Am.room
          ((List.length b0 +
              List.length [Go.Am.Tryd.S42.f0 (List.getD t1_1 (Int.toNat t4) (Go.Am.Tryd.S42.mk ByteArray.empty (0 : Int) (0 : Int) (0 : Int) (0 : Int)))]) *
            (16 : Nat))
          (junctionref5_things.l0 k j t1 t1_1 t1_2 t1_3 t1_4 t1_5 t1_6 t1_7 t1_8 (Go.IntKind.wrap Go.IntKind.i64 (t4 + (1 : Int)))
            (b0 ++ [Go.Am.Tryd.S42.f0 (List.getD t1_1 (Int.toNat t4) (Go.Am.Tryd.S42.mk ByteArray.empty (0 : Int) (0 : Int) (0 : Int) (0 : Int)))]))
      else Option.none
    else Option.some (((), ()), b0, ())
def junctionref5_things.w0 : List Nat := [8, 9, 10, 11, 12, 13, 16, 17, 18, 19, 20, 21, 22, 23, 24, 25, 3, 14, 15, 4]
noncomputable def junctionref5_things.e0 (k j : Nat) : junctionref5_things.s0.den → Option (OutT junctionref5_things.o0) := fun d => junctionref5_things.l0 k j d.1.1.1 d.1.1.2.1 d.1.1.2.2.1 d.1.1.2.2.2.1 d.1.1.2.2.2.2.1 d.1.1.2.2.2.2.2.1 d.1.1.2.2.2.2.2.2.1 d.1.1.2.2.2.2.2.2.2.1 d.1.1.2.2.2.2.2.2.2.2.1 d.1.2.2.1 d.2.1
noncomputable def junctionref5_things.m0 (k : Nat) : LamS κ := ⟨lamK 83 junctionref5_things.w0 junctionref5_things.s0 junctionref5_things.o0 (junctionref5_things.e0 k k)⟩
def junctionref5_things.s1 : Sh κ := ⟨0, [1, 3, 5], [.rop [.str, .ro .T42, .ro .T47, .ro .T110, .ro .T9, .ro .T9, .ro .T112, .ro .T98, .int .i64], .own .T9 0, .int .i64], [.rows .T9]⟩
def junctionref5_things.o1 : List (Ex × Sh κ) := [(.exit 2, ⟨1, [3], [.own .T9 0], [.rows .T9]⟩)]
noncomputable def junctionref5_things.l1 (k : Nat) : Nat → ByteArray → (List S42) → (List S47) → (List S110) → (List ByteArray) → (List ByteArray) → (List S112) → (List S98) → Int → Int → (List ByteArray) → Option ((Unit × Unit) × List ByteArray × Unit)
  | 0, _, _, _, _, _, _, _, _, _, _, _ => none
  | j + 1, t1, t1_1, t1_2, t1_3, t1_4, t1_5, t1_6, t1_7, t1_8, t5, b0 =>
    if Decidable.decide (t5 < (↑(List.length t1_3) : Int)) = Bool.true then
      if (0 : Int) ≤ t5 ∧ t5 < (↑(List.length t1_3) : Int) then
        Go.Am.room
          ((List.length b0 + List.length [Go.Am.Tryd.S110.f0 (List.getD t1_3 (Int.toNat t5) (Go.Am.Tryd.S110.mk ByteArray.empty Bool.false (0 : Int) (0 : Int)))]) *
            (16 : Nat))
          (junctionref5_things.l1 k j t1 t1_1 t1_2 t1_3 t1_4 t1_5 t1_6 t1_7 t1_8 (Go.IntKind.wrap Go.IntKind.i64 (t5 + (1 : Int)))
            (b0 ++ [Go.Am.Tryd.S110.f0 (List.getD t1_3 (Int.toNat t5) (Go.Am.Tryd.S110.mk ByteArray.empty Bool.false (0 : Int) (0 : Int)))]))
      else Option.none
    else Option.some (((), ()), b0, ())
def junctionref5_things.w1 : List Nat := [26, 27, 28, 29, 30, 33, 34, 35, 36, 37, 38, 39, 40, 41, 3, 31, 32, 5]
noncomputable def junctionref5_things.e1 (k j : Nat) : junctionref5_things.s1.den → Option (OutT junctionref5_things.o1) := fun d => junctionref5_things.l1 k j d.1.1.1 d.1.1.2.1 d.1.1.2.2.1 d.1.1.2.2.2.1 d.1.1.2.2.2.2.1 d.1.1.2.2.2.2.2.1 d.1.1.2.2.2.2.2.2.1 d.1.1.2.2.2.2.2.2.2.1 d.1.1.2.2.2.2.2.2.2.2.1 d.1.2.2.1 d.2.1
noncomputable def junctionref5_things.m1 (k : Nat) : LamS κ := ⟨lamK 83 junctionref5_things.w1 junctionref5_things.s1 junctionref5_things.o1 (junctionref5_things.e1 k k)⟩
def junctionref5_things.s2 : Sh κ := ⟨0, [1, 3, 6], [.rop [.str, .ro .T42, .ro .T47, .ro .T110, .ro .T9, .ro .T9, .ro .T112, .ro .T98, .int .i64], .own .T9 0, .int .i64], [.rows .T9]⟩
def junctionref5_things.o2 : List (Ex × Sh κ) := [(.exit 4, ⟨1, [3], [.own .T9 0], [.rows .T9]⟩)]
noncomputable def junctionref5_things.l2 (k : Nat) : Nat → ByteArray → (List S42) → (List S47) → (List S110) → (List ByteArray) → (List ByteArray) → (List S112) → (List S98) → Int → Int → (List ByteArray) → Option ((Unit × Unit) × List ByteArray × Unit)
  | 0, _, _, _, _, _, _, _, _, _, _, _ => none
  | j + 1, t1, t1_1, t1_2, t1_3, t1_4, t1_5, t1_6, t1_7, t1_8, t6, b0 =>
    if Decidable.decide (t6 < (↑(List.length t1_6) : Int)) = Bool.true then
      if (0 : Int) ≤ t6 ∧ t6 < (↑(List.length t1_6) : Int) then
        Go.Am.room ((List.length b0 + List.length [Go.Am.Tryd.S112.f0 (List.getD t1_6 (Int.toNat t6) (Go.Am.Tryd.S112.mk ByteArray.empty (0 : Int)))]) * (16 : Nat))
          (junctionref5_things.l2 k j t1 t1_1 t1_2 t1_3 t1_4 t1_5 t1_6 t1_7 t1_8 (Go.IntKind.wrap Go.IntKind.i64 (t6 + (1 : Int)))
            (b0 ++ [Go.Am.Tryd.S112.f0 (List.getD t1_6 (Int.toNat t6) (Go.Am.Tryd.S112.mk ByteArray.empty (0 : Int)))]))
      else Option.none
    else Option.some (((), ()), b0, ())
def junctionref5_things.w2 : List Nat := [50, 51, 52, 53, 54, 57, 58, 59, 60, 61, 62, 63, 64, 65, 3, 55, 56, 6]
noncomputable def junctionref5_things.e2 (k j : Nat) : junctionref5_things.s2.den → Option (OutT junctionref5_things.o2) := fun d => junctionref5_things.l2 k j d.1.1.1 d.1.1.2.1 d.1.1.2.2.1 d.1.1.2.2.2.1 d.1.1.2.2.2.2.1 d.1.1.2.2.2.2.2.1 d.1.1.2.2.2.2.2.2.1 d.1.1.2.2.2.2.2.2.2.1 d.1.1.2.2.2.2.2.2.2.2.1 d.1.2.2.1 d.2.1
noncomputable def junctionref5_things.m2 (k : Nat) : LamS κ := ⟨lamK 83 junctionref5_things.w2 junctionref5_things.s2 junctionref5_things.o2 (junctionref5_things.e2 k k)⟩
def junctionref5_things.s3 : Sh κ := ⟨0, [1, 3, 7], [.rop [.str, .ro .T42, .ro .T47, .ro .T110, .ro .T9, .ro .T9, .ro .T112, .ro .T98, .int .i64], .own .T9 0, .int .i64], [.rows .T9]⟩
def junctionref5_things.o3 : List (Ex × Sh κ) := [(.exit 6, ⟨1, [3], [.own .T9 0], [.rows .T9]⟩)]
noncomputable def junctionref5_things.l3 (k : Nat) : Nat → ByteArray → (List S42) → (List S47) → (List S110) → (List ByteArray) → (List ByteArray) → (List S112) → (List S98) → Int → Int → (List ByteArray) → Option ((Unit × Unit) × List ByteArray × Unit)
  | 0, _, _, _, _, _, _, _, _, _, _, _ => none
  | j + 1, t1, t1_1, t1_2, t1_3, t1_4, t1_5, t1_6, t1_7, t1_8, t7, b0 =>
    if Decidable.decide (t7 < (↑(List.length t1_7) : Int)) = Bool.true then
      if (0 : Int) ≤ t7 ∧ t7 < (↑(List.length t1_7) : Int) then
        Go.Am.room
          ((List.length b0 + List.length [Go.Am.Tryd.S98.f0 (List.getD t1_7 (Int.toNat t7) (Go.Am.Tryd.S98.mk ByteArray.empty (0 : Int) (0 : Int) [] [] [] []))]) *
            (16 : Nat))
          (junctionref5_things.l3 k j t1 t1_1 t1_2 t1_3 t1_4 t1_5 t1_6 t1_7 t1_8 (Go.IntKind.wrap Go.IntKind.i64 (t7 + (1 : Int)))
            (b0 ++ [Go.Am.Tryd.S98.f0 (List.getD t1_7 (Int.toNat t7) (Go.Am.Tryd.S98.mk ByteArray.empty (0 : Int) (0 : Int) [] [] [] []))]))
      else Option.none
    else Option.some (((), ()), b0, ())
def junctionref5_things.w3 : List Nat := [66, 67, 68, 69, 70, 73, 74, 75, 76, 77, 78, 79, 80, 81, 3, 71, 72, 7]
noncomputable def junctionref5_things.e3 (k j : Nat) : junctionref5_things.s3.den → Option (OutT junctionref5_things.o3) := fun d => junctionref5_things.l3 k j d.1.1.1 d.1.1.2.1 d.1.1.2.2.1 d.1.1.2.2.2.1 d.1.1.2.2.2.2.1 d.1.1.2.2.2.2.2.1 d.1.1.2.2.2.2.2.2.1 d.1.1.2.2.2.2.2.2.2.1 d.1.1.2.2.2.2.2.2.2.2.1 d.1.2.2.1 d.2.1
noncomputable def junctionref5_things.m3 (k : Nat) : LamS κ := ⟨lamK 83 junctionref5_things.w3 junctionref5_things.s3 junctionref5_things.o3 (junctionref5_things.e3 k k)⟩
def junctionref5_things.p : Pat κ := .ro .T9
def junctionref5_things.b : List (BPat κ) := []
noncomputable def junctionref5_things (k : Nat) (t0 : ByteArray) (t0_1 : List S42) (t0_2 : List S47) (t0_3 : List S110) (t0_4 : List ByteArray) (t0_5 : List ByteArray) (t0_6 : List S112) (t0_7 : List S98) (t0_8 : Int) : Option (List ByteArray × Unit) :=
    Option.bind (Go.Am.Tryd.junctionref5_things.l0 k k t0 t0_1 t0_2 t0_3 t0_4 t0_5 t0_6 t0_7 t0_8 (0 : Int) []) fun r0 =>
      Option.bind (Go.Am.Tryd.junctionref5_things.l1 k k t0 t0_1 t0_2 t0_3 t0_4 t0_5 t0_6 t0_7 t0_8 (0 : Int) (Prod.fst (Prod.snd r0))) fun r1 =>
        Go.Am.room ((List.length (Prod.fst (Prod.snd r1)) + List.length t0_4) * (16 : Nat))
          (Go.Am.room ((List.length (Prod.fst (Prod.snd r1) ++ t0_4) + List.length t0_5) * (16 : Nat))
            (Option.bind (Go.Am.Tryd.junctionref5_things.l2 k k t0 t0_1 t0_2 t0_3 t0_4 t0_5 t0_6 t0_7 t0_8 (0 : Int) (Prod.fst (Prod.snd r1) ++ t0_4 ++ t0_5))
              fun r2 =>
              Option.bind (Go.Am.Tryd.junctionref5_things.l3 k k t0 t0_1 t0_2 t0_3 t0_4 t0_5 t0_6 t0_7 t0_8 (0 : Int) (Prod.fst (Prod.snd r2))) fun r3 =>
                Option.some (Prod.fst (Prod.snd r3), ())))
noncomputable def junctionref5_things.f (k : Nat) : dens junctionref5_things.i → Option (junctionref5_things.p.den × densB junctionref5_things.b) := fun d => junctionref5_things k d.1.1 d.1.2.1 d.1.2.2.1 d.1.2.2.2.1 d.1.2.2.2.2.1 d.1.2.2.2.2.2.1 d.1.2.2.2.2.2.2.1 d.1.2.2.2.2.2.2.2.1 d.1.2.2.2.2.2.2.2.2.1
noncomputable def junctionref5_things.ctx (k : Nat) : Ctx κ := junctionref5_things.x k [junctionref5_things.m0 k, junctionref5_things.m1 k, junctionref5_things.m2 k, junctionref5_things.m3 k]
theorem junctionref5_things.xOk (k : Nat) : (junctionref5_things.ctx k).Ok := ctxOk trivial trivial
theorem junctionref5_things.k0 (k : Nat) : LamOk (junctionref5_things.ctx k) ((junctionref5_things.ctx k).Λ 0) (.loop (sub [1, 1, 0, 1, 0, 0] junctionref5_things.c)) :=
  loop_ok (kindOf := kindOf) (C := junctionref5_things.ctx k) (n := .none) (L := junctionref5_things.e0 k) (junctionref5_things.xOk k) (by kernel_rfl) (by kernel_rfl) (fits_of (l := []) (by kernel_rfl) trivial) (fun _ => by kernel_rfl) (fun _ _ => by kernel_rfl) k
theorem junctionref5_things.k1 (k : Nat) : LamOk (junctionref5_things.ctx k) ((junctionref5_things.ctx k).Λ 1) (.loop (sub [1, 1, 1, 0, 1, 0, 0] junctionref5_things.c)) :=
  loop_ok (kindOf := kindOf) (C := junctionref5_things.ctx k) (n := .none) (L := junctionref5_things.e1 k) (junctionref5_things.xOk k) (by kernel_rfl) (by kernel_rfl) (fits_of (l := []) (by kernel_rfl) trivial) (fun _ => by kernel_rfl) (fun _ _ => by kernel_rfl) k
theorem junctionref5_things.k2 (k : Nat) : LamOk (junctionref5_things.ctx k) ((junctionref5_things.ctx k).Λ 2) (.loop (sub [1, 1, 1, 1, 1, 1, 0, 1, 0, 0] junctionref5_things.c)) :=
  loop_ok (kindOf := kindOf) (C := junctionref5_things.ctx k) (n := .none) (L := junctionref5_things.e2 k) (junctionref5_things.xOk k) (by kernel_rfl) (by kernel_rfl) (fits_of (l := []) (by kernel_rfl) trivial) (fun _ => by kernel_rfl) (fun _ _ => by kernel_rfl) k
theorem junctionref5_things.k3 (k : Nat) : LamOk (junctionref5_things.ctx k) ((junctionref5_things.ctx k).Λ 3) (.loop (sub [1, 1, 1, 1, 1, 1, 1, 0, 1, 0, 0] junctionref5_things.c)) :=
  loop_ok (kindOf := kindOf) (C := junctionref5_things.ctx k) (n := .none) (L := junctionref5_things.e3 k) (junctionref5_things.xOk k) (by kernel_rfl) (by kernel_rfl) (fits_of (l := []) (by kernel_rfl) trivial) (fun _ => by kernel_rfl) (fun _ _ => by kernel_rfl) k
theorem junctionref5_things.call (k : Nat) : CallV Tryd.prog E glob 64 junctionref5_things.i junctionref5_things.p junctionref5_things.b (junctionref5_things.f k) :=
  fn_okZ (kindOf := kindOf) (C := junctionref5_things.ctx k) (n := (.pair (.ops [0] 0) (.pair .none (.pair (.pair .none (.pair (.cut 0) .none)) (.pair (.pair .none (.pair (.cut 1) .none)) (.pair .none (.pair .none (.pair (.pair .none (.pair (.cut 2) .none)) (.pair (.pair .none (.pair (.cut 3) .none)) .none))))))))) (junctionref5_things.xOk k) Tryd.func64 junctionref5_things.hb (fits_of (l := [(0, .loop (sub [1, 1, 0, 1, 0, 0] junctionref5_things.c)), (1, .loop (sub [1, 1, 1, 0, 1, 0, 0] junctionref5_things.c)), (2, .loop (sub [1, 1, 1, 1, 1, 1, 0, 1, 0, 0] junctionref5_things.c)), (3, .loop (sub [1, 1, 1, 1, 1, 1, 1, 0, 1, 0, 0] junctionref5_things.c))]) (by kernel_rfl) ⟨junctionref5_things.k0 k, junctionref5_things.k1 k, junctionref5_things.k2 k, junctionref5_things.k3 k, trivial⟩) (fun _ => by kernel_rfl)
noncomputable def junctionref5_things.ent (k : Nat) : EntS κ := ⟨64, [], entOf junctionref5_things.i junctionref5_things.p junctionref5_things.b false (junctionref5_things.f k) E⟩
theorem junctionref5_things.entOk (k : Nat) : EntOk Tryd.prog E glob 64 (junctionref5_things.ent k).run := ent_bound encOk (callable_of Tryd.func64 (by kernel_rfl) (by kernel_rfl)) (junctionref5_things.call k)
noncomputable def junctionref3_Arity.c : Go.Code := match Tryd.f120.body with | some c => c | none => .skip
theorem junctionref3_Arity.hb : Tryd.f120.body = some junctionref3_Arity.c := by kernel_rfl
noncomputable def junctionref3_Arity.x (k : Nat) (ls : List (LamS κ)) : Ctx κ := mkCtx [] [] ls
def junctionref3_Arity.i : List (Pat κ) := [.int .i64]
def junctionref3_Arity.s0 : Sh κ := ⟨0, [0], [.int .i64], []⟩
def junctionref3_Arity.o0 : List (Ex × Sh κ) := [(.normal, ⟨0, [3], [.bool], []⟩)]
noncomputable def junctionref3_Arity.l0 (k : Nat) (t0 : Int) : Option ((Bool × Unit) × Unit) :=
    if Decidable.decide (t0 ≥ (1 : Int)) = Bool.true then Option.some ((Decidable.decide (t0 ≤ (10 : Int)), ()), ()) else Option.some ((Bool.false, ()), ())
def junctionref3_Arity.w0 : List Nat := [4, 5, 6, 7, 8, 9, 3]
noncomputable def junctionref3_Arity.e0 (k : Nat) : junctionref3_Arity.s0.den → Option (OutT junctionref3_Arity.o0) := fun d => junctionref3_Arity.l0 k d.1.1
noncomputable def junctionref3_Arity.m0 (k : Nat) : LamS κ := ⟨lamK 34 junctionref3_Arity.w0 junctionref3_Arity.s0 junctionref3_Arity.o0 (junctionref3_Arity.e0 k)⟩
def junctionref3_Arity.s1 : Sh κ := ⟨0, [0], [.int .i64], []⟩
def junctionref3_Arity.o1 : List (Ex × Sh κ) := [(.normal, ⟨0, [10], [.bool], []⟩)]
noncomputable def junctionref3_Arity.l1 (k : Nat) (t0 : Int) : Option ((Bool × Unit) × Unit) :=
    if Decidable.decide (t0 ≥ (20 : Int)) = Bool.true then Option.some ((Decidable.decide (t0 ≤ (22 : Int)), ()), ()) else Option.some ((Bool.false, ()), ())
def junctionref3_Arity.w1 : List Nat := [11, 12, 13, 14, 15, 16, 10]
noncomputable def junctionref3_Arity.e1 (k : Nat) : junctionref3_Arity.s1.den → Option (OutT junctionref3_Arity.o1) := fun d => junctionref3_Arity.l1 k d.1.1
noncomputable def junctionref3_Arity.m1 (k : Nat) : LamS κ := ⟨lamK 34 junctionref3_Arity.w1 junctionref3_Arity.s1 junctionref3_Arity.o1 (junctionref3_Arity.e1 k)⟩
def junctionref3_Arity.s2 : Sh κ := ⟨0, [0], [.int .i64], []⟩
def junctionref3_Arity.o2 : List (Ex × Sh κ) := [(.normal, ⟨0, [17], [.bool], []⟩)]
noncomputable def junctionref3_Arity.l2 (k : Nat) (t0 : Int) : Option ((Bool × Unit) × Unit) :=
    if Decidable.decide (t0 ≥ (30 : Int)) = Bool.true then Option.some ((Decidable.decide (t0 ≤ (36 : Int)), ()), ()) else Option.some ((Bool.false, ()), ())
def junctionref3_Arity.w2 : List Nat := [18, 19, 20, 21, 22, 23, 17]
noncomputable def junctionref3_Arity.e2 (k : Nat) : junctionref3_Arity.s2.den → Option (OutT junctionref3_Arity.o2) := fun d => junctionref3_Arity.l2 k d.1.1
noncomputable def junctionref3_Arity.m2 (k : Nat) : LamS κ := ⟨lamK 34 junctionref3_Arity.w2 junctionref3_Arity.s2 junctionref3_Arity.o2 (junctionref3_Arity.e2 k)⟩
def junctionref3_Arity.s3 : Sh κ := ⟨0, [0], [.int .i64], []⟩
def junctionref3_Arity.o3 : List (Ex × Sh κ) := [(.normal, ⟨0, [17], [.bool], []⟩)]
noncomputable def junctionref3_Arity.l3 (k : Nat) (t0 : Int) : Option ((Bool × Unit) × Unit) :=
    if Decidable.decide (t0 ≥ (40 : Int)) = Bool.true then Option.some ((Decidable.decide (t0 ≤ (45 : Int)), ()), ()) else Option.some ((Bool.false, ()), ())
def junctionref3_Arity.w3 : List Nat := [24, 25, 26, 27, 28, 29, 17]
noncomputable def junctionref3_Arity.e3 (k : Nat) : junctionref3_Arity.s3.den → Option (OutT junctionref3_Arity.o3) := fun d => junctionref3_Arity.l3 k d.1.1
noncomputable def junctionref3_Arity.m3 (k : Nat) : LamS κ := ⟨lamK 34 junctionref3_Arity.w3 junctionref3_Arity.s3 junctionref3_Arity.o3 (junctionref3_Arity.e3 k)⟩
def junctionref3_Arity.p : Pat κ := .int .i64
def junctionref3_Arity.b : List (BPat κ) := []
noncomputable def junctionref3_Arity (k : Nat) (t0 : Int) : Option (Int × Unit) :=
    Option.bind (Go.Am.Tryd.junctionref3_Arity.l0 k t0) fun r0 =>
      if Prod.fst (Prod.fst r0) = Bool.true then Option.some ((0 : Int), ())
      else
        Option.bind (Go.Am.Tryd.junctionref3_Arity.l1 k t0) fun r1 =>
          if Prod.fst (Prod.fst r1) = Bool.true then Option.some ((1 : Int), ())
          else
            Option.bind (Go.Am.Tryd.junctionref3_Arity.l2 k t0) fun r2 =>
              if Prod.fst (Prod.fst r2) = Bool.true then Option.some ((2 : Int), ())
              else
                Option.bind (Go.Am.Tryd.junctionref3_Arity.l3 k t0) fun r3 =>
                  if Prod.fst (Prod.fst r3) = Bool.true then Option.some ((2 : Int), ())
                  else
                    if (t0 == (50 : Int)) = Bool.true then Option.some ((2 : Int), ())
                    else if (t0 == (51 : Int)) = Bool.true then Option.some ((2 : Int), ()) else Option.some ((-1 : Int), ())
noncomputable def junctionref3_Arity.f (k : Nat) : dens junctionref3_Arity.i → Option (junctionref3_Arity.p.den × densB junctionref3_Arity.b) := fun d => junctionref3_Arity k d.1
noncomputable def junctionref3_Arity.ctx (k : Nat) : Ctx κ := junctionref3_Arity.x k [junctionref3_Arity.m0 k, junctionref3_Arity.m1 k, junctionref3_Arity.m2 k, junctionref3_Arity.m3 k]
theorem junctionref3_Arity.xOk (k : Nat) : (junctionref3_Arity.ctx k).Ok := ctxOk trivial trivial
theorem junctionref3_Arity.k0 (k : Nat) : LamOk (junctionref3_Arity.ctx k) ((junctionref3_Arity.ctx k).Λ 0) (sub [1, 0, 0, 0] junctionref3_Arity.c) :=
  cut_ok (kindOf := kindOf) (C := junctionref3_Arity.ctx k) (n := .none) (L := junctionref3_Arity.e0 k) (junctionref3_Arity.xOk k) (by kernel_rfl) (by kernel_rfl) (fits_of (l := []) (by kernel_rfl) trivial) (fun _ => by kernel_rfl)
theorem junctionref3_Arity.k1 (k : Nat) : LamOk (junctionref3_Arity.ctx k) ((junctionref3_Arity.ctx k).Λ 1) (sub [1, 0, 0, 1, 1, 0] junctionref3_Arity.c) :=
  cut_ok (kindOf := kindOf) (C := junctionref3_Arity.ctx k) (n := .none) (L := junctionref3_Arity.e1 k) (junctionref3_Arity.xOk k) (by kernel_rfl) (by kernel_rfl) (fits_of (l := []) (by kernel_rfl) trivial) (fun _ => by kernel_rfl)
theorem junctionref3_Arity.k2 (k : Nat) : LamOk (junctionref3_Arity.ctx k) ((junctionref3_Arity.ctx k).Λ 2) (sub [1, 0, 0, 1, 1, 1, 1, 0, 0] junctionref3_Arity.c) :=
  cut_ok (kindOf := kindOf) (C := junctionref3_Arity.ctx k) (n := .none) (L := junctionref3_Arity.e2 k) (junctionref3_Arity.xOk k) (by kernel_rfl) (by kernel_rfl) (fits_of (l := []) (by kernel_rfl) trivial) (fun _ => by kernel_rfl)
theorem junctionref3_Arity.k3 (k : Nat) : LamOk (junctionref3_Arity.ctx k) ((junctionref3_Arity.ctx k).Λ 3) (sub [1, 0, 0, 1, 1, 1, 1, 0, 1, 1, 0] junctionref3_Arity.c) :=
  cut_ok (kindOf := kindOf) (C := junctionref3_Arity.ctx k) (n := .none) (L := junctionref3_Arity.e3 k) (junctionref3_Arity.xOk k) (by kernel_rfl) (by kernel_rfl) (fits_of (l := []) (by kernel_rfl) trivial) (fun _ => by kernel_rfl)
theorem junctionref3_Arity.call (k : Nat) : CallV Tryd.prog E glob 120 junctionref3_Arity.i junctionref3_Arity.p junctionref3_Arity.b (junctionref3_Arity.f k) :=
  fn_okZ (kindOf := kindOf) (C := junctionref3_Arity.ctx k) (n := (.pair .none (.pair (.pair (.pair (.cut 0) (.pair .none (.pair (.cut 1) (.pair .none (.pair (.pair (.cut 2) (.pair .none (.pair (.cut 3) .none))) .none))))) .none) .none))) (junctionref3_Arity.xOk k) Tryd.func120 junctionref3_Arity.hb (fits_of (l := [(0, (sub [1, 0, 0, 0] junctionref3_Arity.c)), (1, (sub [1, 0, 0, 1, 1, 0] junctionref3_Arity.c)), (2, (sub [1, 0, 0, 1, 1, 1, 1, 0, 0] junctionref3_Arity.c)), (3, (sub [1, 0, 0, 1, 1, 1, 1, 0, 1, 1, 0] junctionref3_Arity.c))]) (by kernel_rfl) ⟨junctionref3_Arity.k0 k, junctionref3_Arity.k1 k, junctionref3_Arity.k2 k, junctionref3_Arity.k3 k, trivial⟩) (fun _ => by kernel_rfl)
noncomputable def junctionref3_Arity.ent (k : Nat) : EntS κ := ⟨120, [], entOf junctionref3_Arity.i junctionref3_Arity.p junctionref3_Arity.b true (junctionref3_Arity.f k) E⟩
theorem junctionref3_Arity.entOk (k : Nat) : EntOk Tryd.prog E glob 120 (junctionref3_Arity.ent k).run := ent_free encOk (callable_of Tryd.func120 (by kernel_rfl) (by kernel_rfl)) (by rfl) trivial (junctionref3_Arity.call k)
noncomputable def junctionref3_Arity.qent (k : Nat) : QEntS κ := ⟨120, qentOf junctionref3_Arity.i junctionref3_Arity.p (junctionref3_Arity.f k) E⟩
theorem junctionref3_Arity.qentOk (k : Nat) : QEntOk Tryd.prog E glob 120 (junctionref3_Arity.qent k).run := qent_ok encOk (callable_of Tryd.func120 (by kernel_rfl) (by kernel_rfl)) (junctionref3_Arity.call k)
noncomputable def junctionref3_Span.c : Go.Code := match Tryd.f105.body with | some c => c | none => .skip
theorem junctionref3_Span.hb : Tryd.f105.body = some junctionref3_Span.c := by kernel_rfl
noncomputable def junctionref3_Span.x (k : Nat) (ls : List (LamS κ)) : Ctx κ := mkCtx [junctionref3_Arity.ent k] [junctionref3_Arity.qent k] ls
def junctionref3_Span.i : List (Pat κ) := [.ro .T120, .int .i64]
def junctionref3_Span.s0 : Sh κ := ⟨0, [0, 1], [.ro .T120, .int .i64], []⟩
def junctionref3_Span.o0 : List (Ex × Sh κ) := [(.ret, ⟨0, [4], [.int .i64], []⟩), (.normal, ⟨0, [], [], []⟩)]
noncomputable def junctionref3_Span.l0 (k : Nat) (t0 : List S120) (t1 : Int) : Option ((Int × Unit) × Unit ⊕ Unit × Unit) :=
    if Decidable.decide (t1 < (0 : Int)) = Bool.false then
      if Decidable.decide (t1 ≥ (↑(List.length t0) : Int)) = Bool.true then Option.some (Sum.inl (((-1 : Int), ()), ())) else Option.some (Sum.inr ((), ()))
    else Option.some (Sum.inl (((-1 : Int), ()), ()))
def junctionref3_Span.w0 : List Nat := [8, 9, 10, 11, 12, 13, 14, 15, 4]
noncomputable def junctionref3_Span.e0 (k : Nat) : junctionref3_Span.s0.den → Option (OutT junctionref3_Span.o0) := fun d => junctionref3_Span.l0 k d.1.1 d.1.2.1
noncomputable def junctionref3_Span.m0 (k : Nat) : LamS κ := ⟨lamK 36 junctionref3_Span.w0 junctionref3_Span.s0 junctionref3_Span.o0 (junctionref3_Span.e0 k)⟩
def junctionref3_Span.s1 : Sh κ := ⟨0, [0, 5, 6], [.ro .T120, .int .i64, .int .i64], []⟩
def junctionref3_Span.o1 : List (Ex × Sh κ) := [(.ret, ⟨0, [4], [.int .i64], []⟩), (.exit 0, ⟨0, [], [], []⟩)]
noncomputable def junctionref3_Span.l1 (k : Nat) : Nat → (List S120) → Int → Int → Option ((Int × Unit) × Unit ⊕ Unit × Unit)
  | 0, _, _, _ => none
  | j + 1, t0, t5, t6 =>
    if Decidable.decide (t6 ≥ (0 : Int)) = Bool.true then
      if (0 : Int) ≤ t6 ∧ t6 < (↑(List.length t0) : Int) then
        Option.bind
          (Go.Am.Tryd.junctionref3_Arity k
            (Go.Am.Tryd.S120.f0 (List.getD t0 (Int.toNat t6) (Go.Am.Tryd.S120.mk (0 : Int) (0 : Int) ByteArray.empty (0 : Int) (0 : Int)))))
          fun r0 =>
          if Decidable.decide (Prod.fst r0 < (0 : Int)) = Bool.true then Option.some (Sum.inl (((-1 : Int), ()), ()))
          else
            if (Go.IntKind.wrap Go.IntKind.i64 (Go.IntKind.wrap Go.IntKind.i64 (t5 - (1 : Int)) + Prod.fst r0) == (0 : Int)) = Bool.true then
              Option.some (Sum.inl ((t6, ()), ()))
            else
              junctionref3_Span.l1 k j t0 (Go.IntKind.wrap Go.IntKind.i64 (Go.IntKind.wrap Go.IntKind.i64 (t5 - (1 : Int)) + Prod.fst r0))
                (Go.IntKind.wrap Go.IntKind.i64 (t6 - (1 : Int)))
      else Option.none
    else Option.some (Sum.inr ((), ()))
def junctionref3_Span.w1 : List Nat := [17, 18, 21, 22, 23, 24, 25, 26, 7, 27, 28, 4, 29, 30, 31, 32, 5, 33, 34, 35, 19, 20, 6]
noncomputable def junctionref3_Span.e1 (k j : Nat) : junctionref3_Span.s1.den → Option (OutT junctionref3_Span.o1) := fun d => junctionref3_Span.l1 k j d.1.1 d.1.2.1 d.1.2.2.1
noncomputable def junctionref3_Span.m1 (k : Nat) : LamS κ := ⟨lamK 36 junctionref3_Span.w1 junctionref3_Span.s1 junctionref3_Span.o1 (junctionref3_Span.e1 k k)⟩
def junctionref3_Span.p : Pat κ := .int .i64
def junctionref3_Span.b : List (BPat κ) := []
noncomputable def junctionref3_Span (k : Nat) (t0 : List S120) (t1 : Int) : Option (Int × Unit) :=
    Option.bind (Go.Am.Tryd.junctionref3_Span.l0 k t0 t1) fun r0 =>
      Go.Am.onSum r0 (fun r1 => Option.some (Prod.fst (Prod.fst r1), ())) fun r1 =>
        Option.bind (Go.Am.Tryd.junctionref3_Span.l1 k k t0 (1 : Int) t1) fun r2 =>
          Go.Am.onSum r2 (fun r3 => Option.some (Prod.fst (Prod.fst r3), ())) fun r3 => Option.some ((-1 : Int), ())
noncomputable def junctionref3_Span.f (k : Nat) : dens junctionref3_Span.i → Option (junctionref3_Span.p.den × densB junctionref3_Span.b) := fun d => junctionref3_Span k d.1 d.2.1
noncomputable def junctionref3_Span.ctx (k : Nat) : Ctx κ := junctionref3_Span.x k [junctionref3_Span.m0 k, junctionref3_Span.m1 k]
theorem junctionref3_Span.xOk (k : Nat) : (junctionref3_Span.ctx k).Ok := ctxOk ⟨junctionref3_Arity.entOk k, trivial⟩ ⟨junctionref3_Arity.qentOk k, trivial⟩
theorem junctionref3_Span.k0 (k : Nat) : LamOk (junctionref3_Span.ctx k) ((junctionref3_Span.ctx k).Λ 0) (sub [1, 0] junctionref3_Span.c) :=
  cut_ok (kindOf := kindOf) (C := junctionref3_Span.ctx k) (n := .none) (L := junctionref3_Span.e0 k) (junctionref3_Span.xOk k) (by kernel_rfl) (by kernel_rfl) (fits_of (l := []) (by kernel_rfl) trivial) (fun _ => by kernel_rfl)
theorem junctionref3_Span.k1 (k : Nat) : LamOk (junctionref3_Span.ctx k) ((junctionref3_Span.ctx k).Λ 1) (.loop (sub [1, 1, 1, 0, 1, 0, 0] junctionref3_Span.c)) :=
  loop_ok (kindOf := kindOf) (C := junctionref3_Span.ctx k) (n := .none) (L := junctionref3_Span.e1 k) (junctionref3_Span.xOk k) (by kernel_rfl) (by kernel_rfl) (fits_of (l := []) (by kernel_rfl) trivial) (fun _ => by kernel_rfl) (fun _ _ => by kernel_rfl) k
theorem junctionref3_Span.call (k : Nat) : CallV Tryd.prog E glob 105 junctionref3_Span.i junctionref3_Span.p junctionref3_Span.b (junctionref3_Span.f k) :=
  fn_okZ (kindOf := kindOf) (C := junctionref3_Span.ctx k) (n := (.pair .none (.pair (.cut 0) (.pair .none (.pair (.pair .none (.pair (.cut 1) .none)) .none))))) (junctionref3_Span.xOk k) Tryd.func105 junctionref3_Span.hb (fits_of (l := [(0, (sub [1, 0] junctionref3_Span.c)), (1, .loop (sub [1, 1, 1, 0, 1, 0, 0] junctionref3_Span.c))]) (by kernel_rfl) ⟨junctionref3_Span.k0 k, junctionref3_Span.k1 k, trivial⟩) (fun _ => by kernel_rfl)
noncomputable def junctionref3_Span.ent (k : Nat) : EntS κ := ⟨105, [], entOf junctionref3_Span.i junctionref3_Span.p junctionref3_Span.b true (junctionref3_Span.f k) E⟩
theorem junctionref3_Span.entOk (k : Nat) : EntOk Tryd.prog E glob 105 (junctionref3_Span.ent k).run := ent_free encOk (callable_of Tryd.func105 (by kernel_rfl) (by kernel_rfl)) (by rfl) trivial (junctionref3_Span.call k)
noncomputable def junctionref3_Span.qent (k : Nat) : QEntS κ := ⟨105, qentOf junctionref3_Span.i junctionref3_Span.p (junctionref3_Span.f k) E⟩
theorem junctionref3_Span.qentOk (k : Nat) : QEntOk Tryd.prog E glob 105 (junctionref3_Span.qent k).run := qent_ok encOk (callable_of Tryd.func105 (by kernel_rfl) (by kernel_rfl)) (junctionref3_Span.call k)
noncomputable def junctionref3_One.c : Go.Code := match Tryd.f121.body with | some c => c | none => .skip
theorem junctionref3_One.hb : Tryd.f121.body = some junctionref3_One.c := by kernel_rfl
noncomputable def junctionref3_One.x (k : Nat) (ls : List (LamS κ)) : Ctx κ := mkCtx [junctionref3_Span.ent k] [junctionref3_Span.qent k] ls
def junctionref3_One.i : List (Pat κ) := [.ro .T120]
def junctionref3_One.p : Pat κ := .bool
def junctionref3_One.b : List (BPat κ) := []
noncomputable def junctionref3_One (k : Nat) (t0 : List S120) : Option (Bool × Unit) :=
    if ((↑(List.length t0) : Int) == (0 : Int)) = Bool.true then Option.some (Bool.false, ())
    else
      Option.bind (Go.Am.Tryd.junctionref3_Span k t0 (Go.IntKind.wrap Go.IntKind.i64 ((↑(List.length t0) : Int) - (1 : Int)))) fun r0 =>
        Option.some (Prod.fst r0 == (0 : Int), ())
noncomputable def junctionref3_One.f (k : Nat) : dens junctionref3_One.i → Option (junctionref3_One.p.den × densB junctionref3_One.b) := fun d => junctionref3_One k d.1
noncomputable def junctionref3_One.ctx (k : Nat) : Ctx κ := junctionref3_One.x k []
theorem junctionref3_One.xOk (k : Nat) : (junctionref3_One.ctx k).Ok := ctxOk ⟨junctionref3_Span.entOk k, trivial⟩ ⟨junctionref3_Span.qentOk k, trivial⟩
theorem junctionref3_One.call (k : Nat) : CallV Tryd.prog E glob 121 junctionref3_One.i junctionref3_One.p junctionref3_One.b (junctionref3_One.f k) :=
  fn_okZ (kindOf := kindOf) (C := junctionref3_One.ctx k) (n := .none) (junctionref3_One.xOk k) Tryd.func121 junctionref3_One.hb (fits_of (l := []) (by kernel_rfl) trivial) (fun _ => by kernel_rfl)
noncomputable def junctionref3_One.ent (k : Nat) : EntS κ := ⟨121, [], entOf junctionref3_One.i junctionref3_One.p junctionref3_One.b true (junctionref3_One.f k) E⟩
theorem junctionref3_One.entOk (k : Nat) : EntOk Tryd.prog E glob 121 (junctionref3_One.ent k).run := ent_free encOk (callable_of Tryd.func121 (by kernel_rfl) (by kernel_rfl)) (by rfl) trivial (junctionref3_One.call k)
noncomputable def junctionref3_One.qent (k : Nat) : QEntS κ := ⟨121, qentOf junctionref3_One.i junctionref3_One.p (junctionref3_One.f k) E⟩
theorem junctionref3_One.qentOk (k : Nat) : QEntOk Tryd.prog E glob 121 (junctionref3_One.qent k).run := qent_ok encOk (callable_of Tryd.func121 (by kernel_rfl) (by kernel_rfl)) (junctionref3_One.call k)
noncomputable def junctionref3_Asked.c : Go.Code := match Tryd.f122.body with | some c => c | none => .skip
theorem junctionref3_Asked.hb : Tryd.f122.body = some junctionref3_Asked.c := by kernel_rfl
noncomputable def junctionref3_Asked.x (k : Nat) (ls : List (LamS κ)) : Ctx κ := mkCtx [] [] ls
def junctionref3_Asked.i : List (Pat κ) := [.int .i64]
def junctionref3_Asked.s0 : Sh κ := ⟨0, [4], [.int .i64], []⟩
def junctionref3_Asked.o0 : List (Ex × Sh κ) := [(.normal, ⟨0, [11], [.bool], []⟩)]
noncomputable def junctionref3_Asked.l0 (k : Nat) (t4 : Int) : Option ((Bool × Unit) × Unit) :=
    if (t4 == (40 : Int)) = Bool.true then Option.some ((Bool.true, ()), ())
    else
      if (t4 == (41 : Int)) = Bool.true then Option.some ((Bool.true, ()), ())
      else
        if (t4 == (42 : Int)) = Bool.true then Option.some ((Bool.true, ()), ())
        else
          if (t4 == (43 : Int)) = Bool.true then Option.some ((Bool.true, ()), ())
          else if (t4 == (44 : Int)) = Bool.true then Option.some ((Bool.true, ()), ()) else Option.some ((t4 == (45 : Int), ()), ())
def junctionref3_Asked.w0 : List Nat := [12, 11, 13, 14, 15, 16, 17]
noncomputable def junctionref3_Asked.e0 (k : Nat) : junctionref3_Asked.s0.den → Option (OutT junctionref3_Asked.o0) := fun d => junctionref3_Asked.l0 k d.1.1
noncomputable def junctionref3_Asked.m0 (k : Nat) : LamS κ := ⟨lamK 27 junctionref3_Asked.w0 junctionref3_Asked.s0 junctionref3_Asked.o0 (junctionref3_Asked.e0 k)⟩
def junctionref3_Asked.s1 : Sh κ := ⟨0, [4], [.int .i64], []⟩
def junctionref3_Asked.o1 : List (Ex × Sh κ) := [(.normal, ⟨0, [18], [.bool], []⟩)]
noncomputable def junctionref3_Asked.l1 (k : Nat) (t4 : Int) : Option ((Bool × Unit) × Unit) :=
    if (t4 == (30 : Int)) = Bool.true then Option.some ((Bool.true, ()), ()) else Option.some ((t4 == (31 : Int), ()), ())
def junctionref3_Asked.w1 : List Nat := [19, 18, 20]
noncomputable def junctionref3_Asked.e1 (k : Nat) : junctionref3_Asked.s1.den → Option (OutT junctionref3_Asked.o1) := fun d => junctionref3_Asked.l1 k d.1.1
noncomputable def junctionref3_Asked.m1 (k : Nat) : LamS κ := ⟨lamK 27 junctionref3_Asked.w1 junctionref3_Asked.s1 junctionref3_Asked.o1 (junctionref3_Asked.e1 k)⟩
def junctionref3_Asked.s2 : Sh κ := ⟨0, [4], [.int .i64], []⟩
def junctionref3_Asked.o2 : List (Ex × Sh κ) := [(.normal, ⟨0, [21], [.bool], []⟩)]
noncomputable def junctionref3_Asked.l2 (k : Nat) (t4 : Int) : Option ((Bool × Unit) × Unit) :=
    if (t4 == (32 : Int)) = Bool.true then Option.some ((Bool.true, ()), ())
    else if (t4 == (33 : Int)) = Bool.true then Option.some ((Bool.true, ()), ()) else Option.some ((t4 == (34 : Int), ()), ())
def junctionref3_Asked.w2 : List Nat := [22, 21, 23, 24]
noncomputable def junctionref3_Asked.e2 (k : Nat) : junctionref3_Asked.s2.den → Option (OutT junctionref3_Asked.o2) := fun d => junctionref3_Asked.l2 k d.1.1
noncomputable def junctionref3_Asked.m2 (k : Nat) : LamS κ := ⟨lamK 27 junctionref3_Asked.w2 junctionref3_Asked.s2 junctionref3_Asked.o2 (junctionref3_Asked.e2 k)⟩
def junctionref3_Asked.p : Pat κ := .tup [.int .i64, .int .i64]
def junctionref3_Asked.b : List (BPat κ) := []
noncomputable def junctionref3_Asked (k : Nat) (t0 : Int) : Option ((Int × Int × Unit) × Unit) :=
    if (t0 == (51 : Int)) = Bool.true then Option.some (((1 : Int), (2 : Int), ()), ())
    else
      if (t0 == (50 : Int)) = Bool.true then Option.some (((2 : Int), (3 : Int), ()), ())
      else
        if (t0 == (21 : Int)) = Bool.true then Option.some (((3 : Int), (3 : Int), ()), ())
        else
          Option.bind (Go.Am.Tryd.junctionref3_Asked.l0 k t0) fun r0 =>
            if Prod.fst (Prod.fst r0) = Bool.true then Option.some (((5 : Int), (5 : Int), ()), ())
            else
              Option.bind (Go.Am.Tryd.junctionref3_Asked.l1 k t0) fun r1 =>
                if Prod.fst (Prod.fst r1) = Bool.true then Option.some (((5 : Int), (6 : Int), ()), ())
                else
                  Option.bind (Go.Am.Tryd.junctionref3_Asked.l2 k t0) fun r2 =>
                    if Prod.fst (Prod.fst r2) = Bool.true then Option.some (((6 : Int), (7 : Int), ()), ())
                    else if (t0 == (20 : Int)) = Bool.true then Option.some (((7 : Int), (7 : Int), ()), ()) else Option.some (((1 : Int), (1 : Int), ()), ())
noncomputable def junctionref3_Asked.f (k : Nat) : dens junctionref3_Asked.i → Option (junctionref3_Asked.p.den × densB junctionref3_Asked.b) := fun d => junctionref3_Asked k d.1
noncomputable def junctionref3_Asked.ctx (k : Nat) : Ctx κ := junctionref3_Asked.x k [junctionref3_Asked.m0 k, junctionref3_Asked.m1 k, junctionref3_Asked.m2 k]
theorem junctionref3_Asked.xOk (k : Nat) : (junctionref3_Asked.ctx k).Ok := ctxOk trivial trivial
theorem junctionref3_Asked.k0 (k : Nat) : LamOk (junctionref3_Asked.ctx k) ((junctionref3_Asked.ctx k).Λ 0) (sub [1, 0, 1, 0, 1, 1, 1, 1, 1, 1, 0] junctionref3_Asked.c) :=
  cut_ok (kindOf := kindOf) (C := junctionref3_Asked.ctx k) (n := .none) (L := junctionref3_Asked.e0 k) (junctionref3_Asked.xOk k) (by kernel_rfl) (by kernel_rfl) (fits_of (l := []) (by kernel_rfl) trivial) (fun _ => by kernel_rfl)
theorem junctionref3_Asked.k1 (k : Nat) : LamOk (junctionref3_Asked.ctx k) ((junctionref3_Asked.ctx k).Λ 1) (sub [1, 0, 1, 0, 1, 1, 1, 1, 1, 1, 1, 1, 0] junctionref3_Asked.c) :=
  cut_ok (kindOf := kindOf) (C := junctionref3_Asked.ctx k) (n := .none) (L := junctionref3_Asked.e1 k) (junctionref3_Asked.xOk k) (by kernel_rfl) (by kernel_rfl) (fits_of (l := []) (by kernel_rfl) trivial) (fun _ => by kernel_rfl)
theorem junctionref3_Asked.k2 (k : Nat) : LamOk (junctionref3_Asked.ctx k) ((junctionref3_Asked.ctx k).Λ 2) (sub [1, 0, 1, 0, 1, 1, 1, 1, 1, 1, 1, 1, 1, 1, 0] junctionref3_Asked.c) :=
  cut_ok (kindOf := kindOf) (C := junctionref3_Asked.ctx k) (n := .none) (L := junctionref3_Asked.e2 k) (junctionref3_Asked.xOk k) (by kernel_rfl) (by kernel_rfl) (fits_of (l := []) (by kernel_rfl) trivial) (fun _ => by kernel_rfl)
theorem junctionref3_Asked.call (k : Nat) : CallV Tryd.prog E glob 122 junctionref3_Asked.i junctionref3_Asked.p junctionref3_Asked.b (junctionref3_Asked.f k) :=
  fn_okZ (kindOf := kindOf) (C := junctionref3_Asked.ctx k) (n := (.pair .none (.pair (.pair .none (.pair (.pair .none (.pair .none (.pair .none (.pair .none (.pair .none (.pair .none (.pair (.cut 0) (.pair .none (.pair (.cut 1) (.pair .none (.pair (.cut 2) .none))))))))))) .none)) .none))) (junctionref3_Asked.xOk k) Tryd.func122 junctionref3_Asked.hb (fits_of (l := [(0, (sub [1, 0, 1, 0, 1, 1, 1, 1, 1, 1, 0] junctionref3_Asked.c)), (1, (sub [1, 0, 1, 0, 1, 1, 1, 1, 1, 1, 1, 1, 0] junctionref3_Asked.c)), (2, (sub [1, 0, 1, 0, 1, 1, 1, 1, 1, 1, 1, 1, 1, 1, 0] junctionref3_Asked.c))]) (by kernel_rfl) ⟨junctionref3_Asked.k0 k, junctionref3_Asked.k1 k, junctionref3_Asked.k2 k, trivial⟩) (fun _ => by kernel_rfl)
noncomputable def junctionref3_Asked.ent (k : Nat) : EntS κ := ⟨122, [], entOf junctionref3_Asked.i junctionref3_Asked.p junctionref3_Asked.b true (junctionref3_Asked.f k) E⟩
theorem junctionref3_Asked.entOk (k : Nat) : EntOk Tryd.prog E glob 122 (junctionref3_Asked.ent k).run := ent_free encOk (callable_of Tryd.func122 (by kernel_rfl) (by kernel_rfl)) (by rfl) trivial (junctionref3_Asked.call k)
noncomputable def junctionref3_Level.c : Go.Code := match Tryd.f123.body with | some c => c | none => .skip
theorem junctionref3_Level.hb : Tryd.f123.body = some junctionref3_Level.c := by kernel_rfl
noncomputable def junctionref3_Level.x (k : Nat) (ls : List (LamS κ)) : Ctx κ := mkCtx [] [] ls
def junctionref3_Level.i : List (Pat κ) := [.int .i64]
def junctionref3_Level.s0 : Sh κ := ⟨0, [3], [.int .i64], []⟩
def junctionref3_Level.o0 : List (Ex × Sh κ) := [(.normal, ⟨0, [10], [.bool], []⟩)]
noncomputable def junctionref3_Level.l0 (k : Nat) (t3 : Int) : Option ((Bool × Unit) × Unit) :=
    if (t3 == (40 : Int)) = Bool.true then Option.some ((Bool.true, ()), ())
    else
      if (t3 == (41 : Int)) = Bool.true then Option.some ((Bool.true, ()), ())
      else
        if (t3 == (42 : Int)) = Bool.true then Option.some ((Bool.true, ()), ())
        else
          if (t3 == (43 : Int)) = Bool.true then Option.some ((Bool.true, ()), ())
          else if (t3 == (44 : Int)) = Bool.true then Option.some ((Bool.true, ()), ()) else Option.some ((t3 == (45 : Int), ()), ())
def junctionref3_Level.w0 : List Nat := [11, 10, 12, 13, 14, 15, 16]
noncomputable def junctionref3_Level.e0 (k : Nat) : junctionref3_Level.s0.den → Option (OutT junctionref3_Level.o0) := fun d => junctionref3_Level.l0 k d.1.1
noncomputable def junctionref3_Level.m0 (k : Nat) : LamS κ := ⟨lamK 26 junctionref3_Level.w0 junctionref3_Level.s0 junctionref3_Level.o0 (junctionref3_Level.e0 k)⟩
def junctionref3_Level.s1 : Sh κ := ⟨0, [3], [.int .i64], []⟩
def junctionref3_Level.o1 : List (Ex × Sh κ) := [(.normal, ⟨0, [17], [.bool], []⟩)]
noncomputable def junctionref3_Level.l1 (k : Nat) (t3 : Int) : Option ((Bool × Unit) × Unit) :=
    if (t3 == (30 : Int)) = Bool.true then Option.some ((Bool.true, ()), ()) else Option.some ((t3 == (31 : Int), ()), ())
def junctionref3_Level.w1 : List Nat := [18, 17, 19]
noncomputable def junctionref3_Level.e1 (k : Nat) : junctionref3_Level.s1.den → Option (OutT junctionref3_Level.o1) := fun d => junctionref3_Level.l1 k d.1.1
noncomputable def junctionref3_Level.m1 (k : Nat) : LamS κ := ⟨lamK 26 junctionref3_Level.w1 junctionref3_Level.s1 junctionref3_Level.o1 (junctionref3_Level.e1 k)⟩
def junctionref3_Level.s2 : Sh κ := ⟨0, [3], [.int .i64], []⟩
def junctionref3_Level.o2 : List (Ex × Sh κ) := [(.normal, ⟨0, [20], [.bool], []⟩)]
noncomputable def junctionref3_Level.l2 (k : Nat) (t3 : Int) : Option ((Bool × Unit) × Unit) :=
    if (t3 == (32 : Int)) = Bool.true then Option.some ((Bool.true, ()), ())
    else if (t3 == (33 : Int)) = Bool.true then Option.some ((Bool.true, ()), ()) else Option.some ((t3 == (34 : Int), ()), ())
def junctionref3_Level.w2 : List Nat := [21, 20, 22, 23]
noncomputable def junctionref3_Level.e2 (k : Nat) : junctionref3_Level.s2.den → Option (OutT junctionref3_Level.o2) := fun d => junctionref3_Level.l2 k d.1.1
noncomputable def junctionref3_Level.m2 (k : Nat) : LamS κ := ⟨lamK 26 junctionref3_Level.w2 junctionref3_Level.s2 junctionref3_Level.o2 (junctionref3_Level.e2 k)⟩
def junctionref3_Level.p : Pat κ := .int .i64
def junctionref3_Level.b : List (BPat κ) := []
noncomputable def junctionref3_Level (k : Nat) (t0 : Int) : Option (Int × Unit) :=
    if (t0 == (51 : Int)) = Bool.true then Option.some ((1 : Int), ())
    else
      if (t0 == (50 : Int)) = Bool.true then Option.some ((2 : Int), ())
      else
        if (t0 == (21 : Int)) = Bool.true then Option.some ((3 : Int), ())
        else
          Option.bind (Go.Am.Tryd.junctionref3_Level.l0 k t0) fun r0 =>
            if Prod.fst (Prod.fst r0) = Bool.true then Option.some ((4 : Int), ())
            else
              Option.bind (Go.Am.Tryd.junctionref3_Level.l1 k t0) fun r1 =>
                if Prod.fst (Prod.fst r1) = Bool.true then Option.some ((5 : Int), ())
                else
                  Option.bind (Go.Am.Tryd.junctionref3_Level.l2 k t0) fun r2 =>
                    if Prod.fst (Prod.fst r2) = Bool.true then Option.some ((6 : Int), ())
                    else if (t0 == (20 : Int)) = Bool.true then Option.some ((7 : Int), ()) else Option.some ((8 : Int), ())
noncomputable def junctionref3_Level.f (k : Nat) : dens junctionref3_Level.i → Option (junctionref3_Level.p.den × densB junctionref3_Level.b) := fun d => junctionref3_Level k d.1
noncomputable def junctionref3_Level.ctx (k : Nat) : Ctx κ := junctionref3_Level.x k [junctionref3_Level.m0 k, junctionref3_Level.m1 k, junctionref3_Level.m2 k]
theorem junctionref3_Level.xOk (k : Nat) : (junctionref3_Level.ctx k).Ok := ctxOk trivial trivial
theorem junctionref3_Level.k0 (k : Nat) : LamOk (junctionref3_Level.ctx k) ((junctionref3_Level.ctx k).Λ 0) (sub [1, 0, 1, 0, 1, 1, 1, 1, 1, 1, 0] junctionref3_Level.c) :=
  cut_ok (kindOf := kindOf) (C := junctionref3_Level.ctx k) (n := .none) (L := junctionref3_Level.e0 k) (junctionref3_Level.xOk k) (by kernel_rfl) (by kernel_rfl) (fits_of (l := []) (by kernel_rfl) trivial) (fun _ => by kernel_rfl)
theorem junctionref3_Level.k1 (k : Nat) : LamOk (junctionref3_Level.ctx k) ((junctionref3_Level.ctx k).Λ 1) (sub [1, 0, 1, 0, 1, 1, 1, 1, 1, 1, 1, 1, 0] junctionref3_Level.c) :=
  cut_ok (kindOf := kindOf) (C := junctionref3_Level.ctx k) (n := .none) (L := junctionref3_Level.e1 k) (junctionref3_Level.xOk k) (by kernel_rfl) (by kernel_rfl) (fits_of (l := []) (by kernel_rfl) trivial) (fun _ => by kernel_rfl)
theorem junctionref3_Level.k2 (k : Nat) : LamOk (junctionref3_Level.ctx k) ((junctionref3_Level.ctx k).Λ 2) (sub [1, 0, 1, 0, 1, 1, 1, 1, 1, 1, 1, 1, 1, 1, 0] junctionref3_Level.c) :=
  cut_ok (kindOf := kindOf) (C := junctionref3_Level.ctx k) (n := .none) (L := junctionref3_Level.e2 k) (junctionref3_Level.xOk k) (by kernel_rfl) (by kernel_rfl) (fits_of (l := []) (by kernel_rfl) trivial) (fun _ => by kernel_rfl)
theorem junctionref3_Level.call (k : Nat) : CallV Tryd.prog E glob 123 junctionref3_Level.i junctionref3_Level.p junctionref3_Level.b (junctionref3_Level.f k) :=
  fn_okZ (kindOf := kindOf) (C := junctionref3_Level.ctx k) (n := (.pair .none (.pair (.pair .none (.pair (.pair .none (.pair .none (.pair .none (.pair .none (.pair .none (.pair .none (.pair (.cut 0) (.pair .none (.pair (.cut 1) (.pair .none (.pair (.cut 2) .none))))))))))) .none)) .none))) (junctionref3_Level.xOk k) Tryd.func123 junctionref3_Level.hb (fits_of (l := [(0, (sub [1, 0, 1, 0, 1, 1, 1, 1, 1, 1, 0] junctionref3_Level.c)), (1, (sub [1, 0, 1, 0, 1, 1, 1, 1, 1, 1, 1, 1, 0] junctionref3_Level.c)), (2, (sub [1, 0, 1, 0, 1, 1, 1, 1, 1, 1, 1, 1, 1, 1, 0] junctionref3_Level.c))]) (by kernel_rfl) ⟨junctionref3_Level.k0 k, junctionref3_Level.k1 k, junctionref3_Level.k2 k, trivial⟩) (fun _ => by kernel_rfl)
noncomputable def junctionref3_Level.ent (k : Nat) : EntS κ := ⟨123, [], entOf junctionref3_Level.i junctionref3_Level.p junctionref3_Level.b true (junctionref3_Level.f k) E⟩
theorem junctionref3_Level.entOk (k : Nat) : EntOk Tryd.prog E glob 123 (junctionref3_Level.ent k).run := ent_free encOk (callable_of Tryd.func123 (by kernel_rfl) (by kernel_rfl)) (by rfl) trivial (junctionref3_Level.call k)
noncomputable def junctionref3_Level.qent (k : Nat) : QEntS κ := ⟨123, qentOf junctionref3_Level.i junctionref3_Level.p (junctionref3_Level.f k) E⟩
theorem junctionref3_Level.qentOk (k : Nat) : QEntOk Tryd.prog E glob 123 (junctionref3_Level.qent k).run := qent_ok encOk (callable_of Tryd.func123 (by kernel_rfl) (by kernel_rfl)) (junctionref3_Level.call k)
noncomputable def junctionref3_Nest.c : Go.Code := match Tryd.f106.body with | some c => c | none => .skip
theorem junctionref3_Nest.hb : Tryd.f106.body = some junctionref3_Nest.c := by kernel_rfl
noncomputable def junctionref3_Nest.x (k : Nat) (ls : List (LamS κ)) : Ctx κ := mkCtx [junctionref3_Arity.ent k, junctionref3_One.ent k, junctionref3_Asked.ent k, junctionref3_Level.ent k] [junctionref3_Arity.qent k, junctionref3_One.qent k, junctionref3_Level.qent k] ls
def junctionref3_Nest.i : List (Pat κ) := [.ro .T120]
def junctionref3_Nest.s6 : Sh κ := ⟨0, [0, 4, 5, 6], [.ro .T120, .own .T3 0, .own .T3 1, .int .i64], [.rows .T3, .rows .T3]⟩
def junctionref3_Nest.s3 : Sh κ := ⟨0, [4, 5, 8, 9, 10, 11, 12], [.own .T3 0, .own .T3 1, .int .i64, .int .i64, .int .i64, .int .i64, .int .i64], [.rows .T3, .rows .T3]⟩
def junctionref3_Nest.s2 : Sh κ := ⟨0, [4, 5, 8, 9, 10, 11, 12], [.own .T3 0, .own .T3 1, .int .i64, .int .i64, .int .i64, .int .i64, .int .i64], [.rows .T3, .rows .T3]⟩
def junctionref3_Nest.s0 : Sh κ := ⟨0, [10, 12, 14], [.int .i64, .int .i64, .int .i64], []⟩
def junctionref3_Nest.o0 : List (Ex × Sh κ) := [(.normal, ⟨0, [14], [.int .i64], []⟩)]
noncomputable def junctionref3_Nest.l0 (k : Nat) (t10 : Int) (t12 : Int) (t14 : Int) : Option ((Int × Unit) × Unit) :=
    if (t12 == (1 : Int)) = Bool.true then Option.some ((t10, ()), ()) else Option.some ((t14, ()), ())
def junctionref3_Nest.w0 : List Nat := [50, 51, 52, 14]
noncomputable def junctionref3_Nest.e0 (k : Nat) : junctionref3_Nest.s0.den → Option (OutT junctionref3_Nest.o0) := fun d => junctionref3_Nest.l0 k d.1.1 d.1.2.1 d.1.2.2.1
noncomputable def junctionref3_Nest.m0 (k : Nat) : LamS κ := ⟨lamK 107 junctionref3_Nest.w0 junctionref3_Nest.s0 junctionref3_Nest.o0 (junctionref3_Nest.e0 k)⟩
def junctionref3_Nest.s1 : Sh κ := ⟨0, [5, 13, 14, 15], [.own .T3 0, .int .i64, .int .i64, .int .i64], [.rows .T3]⟩
def junctionref3_Nest.o1 : List (Ex × Sh κ) := [(.normal, ⟨1, [5, 15], [.own .T3 0, .int .i64], [.rows .T3]⟩)]
noncomputable def junctionref3_Nest.l1 (k : Nat) (t13 : Int) (t14 : Int) (t15 : Int) (b0 : List Int) : Option ((Unit × Int × Unit) × List Int × Unit) :=
    if (0 : Int) ≤ t13 ∧ t13 < (↑(List.length b0) : Int) then
      Option.bind (Go.Am.Tryd.junctionref3_Level k (List.getD b0 (Int.toNat t13) (0 : Int))) fun r0 =>
        if Decidable.decide (Prod.fst r0 < t14) = Bool.true then Option.some (((), Go.IntKind.wrap Go.IntKind.i64 (t15 + (1 : Int)), ()), b0, ())
        else Option.some (((), t15, ()), b0, ())
    else Option.none
def junctionref3_Nest.w1 : List Nat := [57, 58, 59, 60, 61, 62, 63, 64, 65, 15]
noncomputable def junctionref3_Nest.e1 (k : Nat) : junctionref3_Nest.s1.den → Option (OutT junctionref3_Nest.o1) := fun d => junctionref3_Nest.l1 k d.1.2.1 d.1.2.2.1 d.1.2.2.2.1 d.2.1
noncomputable def junctionref3_Nest.m1 (k : Nat) : LamS κ := ⟨lamK 107 junctionref3_Nest.w1 junctionref3_Nest.s1 junctionref3_Nest.o1 (junctionref3_Nest.e1 k)⟩
def junctionref3_Nest.o2 : List (Ex × Sh κ) := [(.normal, ⟨2, [11, 5, 4], [.int .i64, .own .T3 1, .own .T3 0], [.rows .T3, .rows .T3]⟩)]
noncomputable def junctionref3_Nest.l2 (k : Nat) (t8 : Int) (t9 : Int) (t10 : Int) (t11 : Int) (t12 : Int) (b0 : List Int) (b1 : List Int) : Option ((Int × Unit × Unit × Unit) × List Int × List Int × Unit) :=
    Option.bind (Go.Am.Tryd.junctionref3_Nest.l0 k t10 t12 t9) fun r0 =>
      if
          (0 : Int) ≤ Go.IntKind.wrap Go.IntKind.i64 (Go.IntKind.wrap Go.IntKind.i64 ((↑(List.length b0) : Int) - t8) + t12) ∧
            Go.IntKind.wrap Go.IntKind.i64 (Go.IntKind.wrap Go.IntKind.i64 ((↑(List.length b0) : Int) - t8) + t12) < (↑(List.length b0) : Int) then
        Option.bind
          (Go.Am.Tryd.junctionref3_Nest.l1 k (Go.IntKind.wrap Go.IntKind.i64 (Go.IntKind.wrap Go.IntKind.i64 ((↑(List.length b0) : Int) - t8) + t12))
            (Prod.fst (Prod.fst r0))
            (List.getD b0 (Int.toNat (Go.IntKind.wrap Go.IntKind.i64 (Go.IntKind.wrap Go.IntKind.i64 ((↑(List.length b0) : Int) - t8) + t12))) (0 : Int)) b1)
          fun r1 =>
          if Decidable.decide (Prod.fst (Prod.snd (Prod.fst r1)) > t11) = Bool.true then
            Option.some ((Prod.fst (Prod.snd (Prod.fst r1)), (), (), ()), b0, Prod.fst (Prod.snd r1), ())
          else Option.some ((t11, (), (), ()), b0, Prod.fst (Prod.snd r1), ())
      else Option.none
def junctionref3_Nest.w2 : List Nat := [43, 44, 45, 46, 47, 48, 13, 49, 14, 50, 51, 52, 53, 54, 55, 56, 15, 57, 58, 59, 60, 61, 62, 63, 64, 65, 66, 67, 68, 69, 11]
noncomputable def junctionref3_Nest.e2 (k : Nat) : junctionref3_Nest.s2.den → Option (OutT junctionref3_Nest.o2) := fun d => junctionref3_Nest.l2 k d.1.2.2.1 d.1.2.2.2.1 d.1.2.2.2.2.1 d.1.2.2.2.2.2.1 d.1.2.2.2.2.2.2.1 d.2.1 d.2.2.1
noncomputable def junctionref3_Nest.m2 (k : Nat) : LamS κ := ⟨lamK 107 junctionref3_Nest.w2 junctionref3_Nest.s2 junctionref3_Nest.o2 (junctionref3_Nest.e2 k)⟩
def junctionref3_Nest.o3 : List (Ex × Sh κ) := [(.exit 2, ⟨2, [5, 4, 11], [.own .T3 1, .own .T3 0, .int .i64], [.rows .T3, .rows .T3]⟩)]
noncomputable def junctionref3_Nest.l3 (k : Nat) : Nat → Int → Int → Int → Int → Int → (List Int) → (List Int) → Option ((Unit × Unit × Int × Unit) × List Int × List Int × Unit)
  | 0, _, _, _, _, _, _, _ => none
  | j + 1, t8, t9, t10, t11, t12, b0, b1 =>
    if Decidable.decide (t12 < t8) = Bool.true then
      Option.bind (Go.Am.Tryd.junctionref3_Nest.l2 k t8 t9 t10 t11 t12 b0 b1) fun r0 =>
        junctionref3_Nest.l3 k j t8 t9 t10 (Prod.fst (Prod.fst r0)) (Go.IntKind.wrap Go.IntKind.i64 (t12 + (1 : Int))) (Prod.fst (Prod.snd r0)) (Prod.fst (Prod.snd (Prod.snd r0)))
    else Option.some (((), (), t11, ()), b0, b1, ())
def junctionref3_Nest.w3 : List Nat := [38, 39, 40, 43, 44, 45, 46, 47, 48, 13, 49, 14, 50, 51, 52, 53, 54, 55, 56, 15, 57, 58, 59, 60, 61, 62, 63, 64, 65, 66, 67, 68, 69, 11, 41, 42, 12]
noncomputable def junctionref3_Nest.e3 (k j : Nat) : junctionref3_Nest.s3.den → Option (OutT junctionref3_Nest.o3) := fun d => junctionref3_Nest.l3 k j d.1.2.2.1 d.1.2.2.2.1 d.1.2.2.2.2.1 d.1.2.2.2.2.2.1 d.1.2.2.2.2.2.2.1 d.2.1 d.2.2.1
noncomputable def junctionref3_Nest.m3 (k : Nat) : LamS κ := ⟨lamK 107 junctionref3_Nest.w3 junctionref3_Nest.s3 junctionref3_Nest.o3 (junctionref3_Nest.e3 k k)⟩
def junctionref3_Nest.s5 : Sh κ := ⟨0, [7, 11], [.int .i64, .int .i64], []⟩
def junctionref3_Nest.s4 : Sh κ := ⟨0, [7], [.int .i64], []⟩
def junctionref3_Nest.o4 : List (Ex × Sh κ) := [(.normal, ⟨0, [83], [.bool], []⟩)]
noncomputable def junctionref3_Nest.l4 (k : Nat) (t7 : Int) : Option ((Bool × Unit) × Unit) :=
    if Decidable.decide (t7 ≥ (20 : Int)) = Bool.true then
      if Decidable.decide (t7 ≤ (22 : Int)) = Bool.false then
        if (t7 == (35 : Int)) = Bool.false then Option.some ((t7 == (36 : Int), ()), ()) else Option.some ((Bool.true, ()), ())
      else Option.some ((Bool.true, ()), ())
    else if (t7 == (35 : Int)) = Bool.false then Option.some ((t7 == (36 : Int), ()), ()) else Option.some ((Bool.true, ()), ())
def junctionref3_Nest.w4 : List Nat := [70, 71, 72, 73, 74, 75, 76, 77, 78, 79, 80, 81, 82, 83]
noncomputable def junctionref3_Nest.e4 (k : Nat) : junctionref3_Nest.s4.den → Option (OutT junctionref3_Nest.o4) := fun d => junctionref3_Nest.l4 k d.1.1
noncomputable def junctionref3_Nest.m4 (k : Nat) : LamS κ := ⟨lamK 107 junctionref3_Nest.w4 junctionref3_Nest.s4 junctionref3_Nest.o4 (junctionref3_Nest.e4 k)⟩
def junctionref3_Nest.o5 : List (Ex × Sh κ) := [(.normal, ⟨0, [11], [.int .i64], []⟩)]
noncomputable def junctionref3_Nest.l5 (k : Nat) (t7 : Int) (t11 : Int) : Option ((Int × Unit) × Unit) :=
    Option.bind (Go.Am.Tryd.junctionref3_Nest.l4 k t7) fun r0 =>
      if Prod.fst (Prod.fst r0) = Bool.true then Option.some ((Go.IntKind.wrap Go.IntKind.i64 (t11 + (1 : Int)), ()), ()) else Option.some ((t11, ()), ())
def junctionref3_Nest.w5 : List Nat := [70, 71, 72, 73, 74, 75, 76, 77, 78, 79, 80, 81, 82, 83, 84, 85, 11]
noncomputable def junctionref3_Nest.e5 (k : Nat) : junctionref3_Nest.s5.den → Option (OutT junctionref3_Nest.o5) := fun d => junctionref3_Nest.l5 k d.1.1 d.1.2.1
noncomputable def junctionref3_Nest.m5 (k : Nat) : LamS κ := ⟨lamK 107 junctionref3_Nest.w5 junctionref3_Nest.s5 junctionref3_Nest.o5 (junctionref3_Nest.e5 k)⟩
def junctionref3_Nest.o6 : List (Ex × Sh κ) := [(.exit 0, ⟨2, [4], [.own .T3 0], [.rows .T3, .rows .T3]⟩)]
noncomputable def junctionref3_Nest.l6 (k : Nat) : Nat → (List S120) → Int → (List Int) → (List Int) → Option ((Unit × Unit) × List Int × List Int × Unit)
  | 0, _, _, _, _ => none
  | j + 1, t0, t6, b0, b1 =>
    if Decidable.decide (t6 < (↑(List.length t0) : Int)) = Bool.true then
      if (0 : Int) ≤ t6 ∧ t6 < (↑(List.length t0) : Int) then
        Option.bind
          (Go.Am.Tryd.junctionref3_Arity k
            (Go.Am.Tryd.S120.f0 (List.getD t0 (Int.toNat t6) (Go.Am.Tryd.S120.mk (0 : Int) (0 : Int) ByteArray.empty (0 : Int) (0 : Int)))))
          fun r0 =>
          Option.bind
            (Go.Am.Tryd.junctionref3_Asked k
              (Go.Am.Tryd.S120.f0 (List.getD t0 (Int.toNat t6) (Go.Am.Tryd.S120.mk (0 : Int) (0 : Int) ByteArray.empty (0 : Int) (0 : Int)))))
            fun r1 =>
            Option.bind (Go.Am.Tryd.junctionref3_Nest.l3 k k (Prod.fst r0) (Prod.fst (Prod.fst r1)) (Prod.fst (Prod.snd (Prod.fst r1))) (0 : Int) (0 : Int) b0 b1)
              fun r2 =>
              Option.bind
                (Go.Am.Tryd.junctionref3_Nest.l5 k
                  (Go.Am.Tryd.S120.f0 (List.getD t0 (Int.toNat t6) (Go.Am.Tryd.S120.mk (0 : Int) (0 : Int) ByteArray.empty (0 : Int) (0 : Int))))
                  (Prod.fst (Prod.snd (Prod.snd (Prod.fst r2)))))
                fun r3 =>
                if
                    (0 : Int) ≤ Go.IntKind.wrap Go.IntKind.i64 ((↑(List.length (Prod.fst (Prod.snd r2))) : Int) - Prod.fst r0) ∧
                      Go.IntKind.wrap Go.IntKind.i64 ((↑(List.length (Prod.fst (Prod.snd r2))) : Int) - Prod.fst r0) ≤
                        (↑(List.length (Prod.fst (Prod.snd r2))) : Int) then
                  Go.Am.room
                    ((List.length
                          (List.take (Int.toNat (Go.IntKind.wrap Go.IntKind.i64 ((↑(List.length (Prod.fst (Prod.snd r2))) : Int) - Prod.fst r0)))
                            (Prod.fst (Prod.snd r2))) +
                        List.length [Prod.fst (Prod.fst r3)]) *
                      (8 : Nat))
                    (if
                        (0 : Int) ≤ Go.IntKind.wrap Go.IntKind.i64 ((↑(List.length (Prod.fst (Prod.snd (Prod.snd r2)))) : Int) - Prod.fst r0) ∧
                          Go.IntKind.wrap Go.IntKind.i64 ((↑(List.length (Prod.fst (Prod.snd (Prod.snd r2)))) : Int) - Prod.fst r0) ≤
                            (↑(List.length (Prod.fst (Prod.snd (Prod.snd r2)))) : Int) then
                      Go.Am.room
                        ((List.length
                              (List.take (Int.toNat (Go.IntKind.wrap Go.IntKind.i64 ((↑(List.length (Prod.fst (Prod.snd (Prod.snd r2)))) : Int) - Prod.fst r0)))
                                (Prod.fst (Prod.snd (Prod.snd r2)))) +
                            List.length
                              [Go.Am.Tryd.S120.f0 (List.getD t0 (Int.toNat t6) (Go.Am.Tryd.S120.mk (0 : Int) (0 : Int) ByteArray.empty (0 : Int) (0 : Int)))]) *
                          (8 : Nat))
                        (junctionref3_Nest.l6 k j t0 (Go.IntKind.wrap Go.IntKind.i64 (t6 + (1 : Int)))
                          (List.take (Int.toNat (Go.IntKind.wrap Go.IntKind.i64 ((↑(List.length (Prod.fst (Prod.snd r2))) : Int) - Prod.fst r0)))
                              (Prod.fst (Prod.snd r2)) ++
                            [Prod.fst (Prod.fst r3)])
                          (List.take (Int.toNat (Go.IntKind.wrap Go.IntKind.i64 ((↑(List.length (Prod.fst (Prod.snd (Prod.snd r2)))) : Int) - Prod.fst r0)))
                              (Prod.fst (Prod.snd (Prod.snd r2))) ++
                            [Go.Am.Tryd.S120.f0 (List.getD t0 (Int.toNat t6) (Go.Am.Tryd.S120.mk (0 : Int) (0 : Int) ByteArray.empty (0 : Int) (0 : Int)))]))
                    else Option.none)
                else Option.none
      else Option.none
    else Option.some (((), ()), b0, b1, ())
def junctionref3_Nest.w6 : List Nat := [20, 21, 22, 23, 26, 27, 28, 29, 30, 7, 31, 32, 8, 34, 35, 33, 36, 37, 9, 10, 11, 12, 38, 39, 40, 43, 44, 45, 46, 47, 48, 13, 49, 14, 50, 51, 52, 53, 54, 55, 56, 15, 57, 58, 59, 60, 61, 62, 63, 64, 65, 66, 67, 68, 69, 41, 42, 70, 71, 72, 73, 74, 75, 76, 77, 78, 79, 80, 81, 82, 83, 84, 85, 86, 87, 88, 89, 90, 91, 92, 93, 94, 4, 95, 96, 97, 98, 99, 100, 101, 102, 103, 5, 24, 25, 6]
noncomputable def junctionref3_Nest.e6 (k j : Nat) : junctionref3_Nest.s6.den → Option (OutT junctionref3_Nest.o6) := fun d => junctionref3_Nest.l6 k j d.1.1 d.1.2.2.2.1 d.2.1 d.2.2.1
noncomputable def junctionref3_Nest.m6 (k : Nat) : LamS κ := ⟨lamK 107 junctionref3_Nest.w6 junctionref3_Nest.s6 junctionref3_Nest.o6 (junctionref3_Nest.e6 k k)⟩
def junctionref3_Nest.p : Pat κ := .int .i64
def junctionref3_Nest.b : List (BPat κ) := []
noncomputable def junctionref3_Nest (k : Nat) (t0 : List S120) : Option (Int × Unit) :=
    Option.bind (Go.Am.Tryd.junctionref3_One k t0) fun r0 =>
      if (!Prod.fst r0) = Bool.true then Option.some ((-1 : Int), ())
      else
        Option.bind (Go.Am.Tryd.junctionref3_Nest.l6 k k t0 (0 : Int) [] []) fun r1 =>
          if (0 : Int) ≤ (0 : Int) ∧ (0 : Int) < (↑(List.length (Prod.fst (Prod.snd r1))) : Int) then
            Option.some (List.getD (Prod.fst (Prod.snd r1)) (Int.toNat (0 : Int)) (0 : Int), ())
          else Option.none
noncomputable def junctionref3_Nest.f (k : Nat) : dens junctionref3_Nest.i → Option (junctionref3_Nest.p.den × densB junctionref3_Nest.b) := fun d => junctionref3_Nest k d.1
noncomputable def junctionref3_Nest.ctx (k : Nat) : Ctx κ := junctionref3_Nest.x k [junctionref3_Nest.m0 k, junctionref3_Nest.m1 k, junctionref3_Nest.m2 k, junctionref3_Nest.m3 k, junctionref3_Nest.m4 k, junctionref3_Nest.m5 k, junctionref3_Nest.m6 k]
theorem junctionref3_Nest.xOk (k : Nat) : (junctionref3_Nest.ctx k).Ok := ctxOk ⟨junctionref3_Arity.entOk k, junctionref3_One.entOk k, junctionref3_Asked.entOk k, junctionref3_Level.entOk k, trivial⟩ ⟨junctionref3_Arity.qentOk k, junctionref3_One.qentOk k, junctionref3_Level.qentOk k, trivial⟩
theorem junctionref3_Nest.k0 (k : Nat) : LamOk (junctionref3_Nest.ctx k) ((junctionref3_Nest.ctx k).Λ 0) (sub [1, 1, 1, 1, 1, 0, 1, 0, 0, 1, 0, 0, 1, 1, 1, 1, 0, 1, 0, 0, 1, 0, 0, 1, 1, 0] junctionref3_Nest.c) :=
  cut_ok (kindOf := kindOf) (C := junctionref3_Nest.ctx k) (n := .none) (L := junctionref3_Nest.e0 k) (junctionref3_Nest.xOk k) (by kernel_rfl) (by kernel_rfl) (fits_of (l := []) (by kernel_rfl) trivial) (fun _ => by kernel_rfl)
theorem junctionref3_Nest.k1 (k : Nat) : LamOk (junctionref3_Nest.ctx k) ((junctionref3_Nest.ctx k).Λ 1) (sub [1, 1, 1, 1, 1, 0, 1, 0, 0, 1, 0, 0, 1, 1, 1, 1, 0, 1, 0, 0, 1, 0, 0, 1, 1, 1, 1, 0] junctionref3_Nest.c) :=
  cut_ok (kindOf := kindOf) (C := junctionref3_Nest.ctx k) (n := .none) (L := junctionref3_Nest.e1 k) (junctionref3_Nest.xOk k) (by kernel_rfl) (by kernel_rfl) (fits_of (l := []) (by kernel_rfl) trivial) (fun _ => by kernel_rfl)
theorem junctionref3_Nest.k2 (k : Nat) : LamOk (junctionref3_Nest.ctx k) ((junctionref3_Nest.ctx k).Λ 2) (sub [1, 1, 1, 1, 1, 0, 1, 0, 0, 1, 0, 0, 1, 1, 1, 1, 0, 1, 0, 0, 1, 0] junctionref3_Nest.c) :=
  cut_ok (kindOf := kindOf) (C := junctionref3_Nest.ctx k) (n := (.pair (.pair .none (.pair .none (.pair (.cut 0) (.pair .none (.pair (.cut 1) .none))))) .none)) (L := junctionref3_Nest.e2 k) (junctionref3_Nest.xOk k) (by kernel_rfl) (by kernel_rfl) (fits_of (l := [(0, (sub [1, 1, 1, 1, 1, 0, 1, 0, 0, 1, 0, 0, 1, 1, 1, 1, 0, 1, 0, 0, 1, 0, 0, 1, 1, 0] junctionref3_Nest.c)), (1, (sub [1, 1, 1, 1, 1, 0, 1, 0, 0, 1, 0, 0, 1, 1, 1, 1, 0, 1, 0, 0, 1, 0, 0, 1, 1, 1, 1, 0] junctionref3_Nest.c))]) (by kernel_rfl) ⟨junctionref3_Nest.k0 k, junctionref3_Nest.k1 k, trivial⟩) (fun _ => by kernel_rfl)
theorem junctionref3_Nest.k3 (k : Nat) : LamOk (junctionref3_Nest.ctx k) ((junctionref3_Nest.ctx k).Λ 3) (.loop (sub [1, 1, 1, 1, 1, 0, 1, 0, 0, 1, 0, 0, 1, 1, 1, 1, 0, 1, 0, 0] junctionref3_Nest.c)) :=
  loop_ok (kindOf := kindOf) (C := junctionref3_Nest.ctx k) (n := (.pair .none (.pair (.cut 2) .none))) (L := junctionref3_Nest.e3 k) (junctionref3_Nest.xOk k) (by kernel_rfl) (by kernel_rfl) (fits_of (l := [(2, (sub [1, 1, 1, 1, 1, 0, 1, 0, 0, 1, 0, 0, 1, 1, 1, 1, 0, 1, 0, 0, 1, 0] junctionref3_Nest.c))]) (by kernel_rfl) ⟨junctionref3_Nest.k2 k, trivial⟩) (fun _ => by kernel_rfl) (fun _ _ => by kernel_rfl) k
theorem junctionref3_Nest.k4 (k : Nat) : LamOk (junctionref3_Nest.ctx k) ((junctionref3_Nest.ctx k).Λ 4) (sub [1, 1, 1, 1, 1, 0, 1, 0, 0, 1, 0, 0, 1, 1, 1, 1, 1, 0, 0] junctionref3_Nest.c) :=
  cut_ok (kindOf := kindOf) (C := junctionref3_Nest.ctx k) (n := .none) (L := junctionref3_Nest.e4 k) (junctionref3_Nest.xOk k) (by kernel_rfl) (by kernel_rfl) (fits_of (l := []) (by kernel_rfl) trivial) (fun _ => by kernel_rfl)
theorem junctionref3_Nest.k5 (k : Nat) : LamOk (junctionref3_Nest.ctx k) ((junctionref3_Nest.ctx k).Λ 5) (sub [1, 1, 1, 1, 1, 0, 1, 0, 0, 1, 0, 0, 1, 1, 1, 1, 1, 0] junctionref3_Nest.c) :=
  cut_ok (kindOf := kindOf) (C := junctionref3_Nest.ctx k) (n := (.pair (.cut 4) .none)) (L := junctionref3_Nest.e5 k) (junctionref3_Nest.xOk k) (by kernel_rfl) (by kernel_rfl) (fits_of (l := [(4, (sub [1, 1, 1, 1, 1, 0, 1, 0, 0, 1, 0, 0, 1, 1, 1, 1, 1, 0, 0] junctionref3_Nest.c))]) (by kernel_rfl) ⟨junctionref3_Nest.k4 k, trivial⟩) (fun _ => by kernel_rfl)
theorem junctionref3_Nest.k6 (k : Nat) : LamOk (junctionref3_Nest.ctx k) ((junctionref3_Nest.ctx k).Λ 6) (.loop (sub [1, 1, 1, 1, 1, 0, 1, 0, 0] junctionref3_Nest.c)) :=
  loop_ok (kindOf := kindOf) (C := junctionref3_Nest.ctx k) (n := (.pair .none (.pair (.pair (.pair .none (.pair .none (.pair .none (.pair .none (.pair (.pair .none (.pair (.cut 3) .none)) (.pair (.cut 5) .none)))))) .none) .none))) (L := junctionref3_Nest.e6 k) (junctionref3_Nest.xOk k) (by kernel_rfl) (by kernel_rfl) (fits_of (l := [(3, .loop (sub [1, 1, 1, 1, 1, 0, 1, 0, 0, 1, 0, 0, 1, 1, 1, 1, 0, 1, 0, 0] junctionref3_Nest.c)), (5, (sub [1, 1, 1, 1, 1, 0, 1, 0, 0, 1, 0, 0, 1, 1, 1, 1, 1, 0] junctionref3_Nest.c))]) (by kernel_rfl) ⟨junctionref3_Nest.k3 k, junctionref3_Nest.k5 k, trivial⟩) (fun _ => by kernel_rfl) (fun _ _ => by kernel_rfl) k
theorem junctionref3_Nest.call (k : Nat) : CallV Tryd.prog E glob 106 junctionref3_Nest.i junctionref3_Nest.p junctionref3_Nest.b (junctionref3_Nest.f k) :=
  fn_okZ (kindOf := kindOf) (C := junctionref3_Nest.ctx k) (n := (.pair .none (.pair .none (.pair .none (.pair .none (.pair .none (.pair (.pair .none (.pair (.cut 6) .none)) .none))))))) (junctionref3_Nest.xOk k) Tryd.func106 junctionref3_Nest.hb (fits_of (l := [(6, .loop (sub [1, 1, 1, 1, 1, 0, 1, 0, 0] junctionref3_Nest.c))]) (by kernel_rfl) ⟨junctionref3_Nest.k6 k, trivial⟩) (fun _ => by kernel_rfl)
noncomputable def junctionref3_Nest.ent (k : Nat) : EntS κ := ⟨106, [], entOf junctionref3_Nest.i junctionref3_Nest.p junctionref3_Nest.b true (junctionref3_Nest.f k) E⟩
theorem junctionref3_Nest.entOk (k : Nat) : EntOk Tryd.prog E glob 106 (junctionref3_Nest.ent k).run := ent_free encOk (callable_of Tryd.func106 (by kernel_rfl) (by kernel_rfl)) (by rfl) trivial (junctionref3_Nest.call k)
noncomputable def junctionref3_Nest.qent (k : Nat) : QEntS κ := ⟨106, qentOf junctionref3_Nest.i junctionref3_Nest.p (junctionref3_Nest.f k) E⟩
theorem junctionref3_Nest.qentOk (k : Nat) : QEntOk Tryd.prog E glob 106 (junctionref3_Nest.qent k).run := qent_ok encOk (callable_of Tryd.func106 (by kernel_rfl) (by kernel_rfl)) (junctionref3_Nest.call k)
noncomputable def junctionref5_operands.c : Go.Code := match Tryd.f124.body with | some c => c | none => .skip
theorem junctionref5_operands.hb : Tryd.f124.body = some junctionref5_operands.c := by kernel_rfl
noncomputable def junctionref5_operands.x (k : Nat) (ls : List (LamS κ)) : Ctx κ := mkCtx [] [] ls
def junctionref5_operands.i : List (Pat κ) := [.int .i64]
def junctionref5_operands.p : Pat κ := .int .i64
def junctionref5_operands.b : List (BPat κ) := []
noncomputable def junctionref5_operands (k : Nat) (t0 : Int) : Option (Int × Unit) :=
    if Decidable.decide (t0 ≥ (30 : Int)) = Bool.true then Option.some ((2 : Int), ())
    else if Decidable.decide (t0 ≥ (20 : Int)) = Bool.true then Option.some ((1 : Int), ()) else Option.some ((0 : Int), ())
noncomputable def junctionref5_operands.f (k : Nat) : dens junctionref5_operands.i → Option (junctionref5_operands.p.den × densB junctionref5_operands.b) := fun d => junctionref5_operands k d.1
noncomputable def junctionref5_operands.ctx (k : Nat) : Ctx κ := junctionref5_operands.x k []
theorem junctionref5_operands.xOk (k : Nat) : (junctionref5_operands.ctx k).Ok := ctxOk trivial trivial
theorem junctionref5_operands.call (k : Nat) : CallV Tryd.prog E glob 124 junctionref5_operands.i junctionref5_operands.p junctionref5_operands.b (junctionref5_operands.f k) :=
  fn_okZ (kindOf := kindOf) (C := junctionref5_operands.ctx k) (n := .none) (junctionref5_operands.xOk k) Tryd.func124 junctionref5_operands.hb (fits_of (l := []) (by kernel_rfl) trivial) (fun _ => by kernel_rfl)
noncomputable def junctionref5_operands.ent (k : Nat) : EntS κ := ⟨124, [], entOf junctionref5_operands.i junctionref5_operands.p junctionref5_operands.b true (junctionref5_operands.f k) E⟩
theorem junctionref5_operands.entOk (k : Nat) : EntOk Tryd.prog E glob 124 (junctionref5_operands.ent k).run := ent_free encOk (callable_of Tryd.func124 (by kernel_rfl) (by kernel_rfl)) (by rfl) trivial (junctionref5_operands.call k)
noncomputable def junctionref5_operands.qent (k : Nat) : QEntS κ := ⟨124, qentOf junctionref5_operands.i junctionref5_operands.p (junctionref5_operands.f k) E⟩
theorem junctionref5_operands.qentOk (k : Nat) : QEntOk Tryd.prog E glob 124 (junctionref5_operands.qent k).run := qent_ok encOk (callable_of Tryd.func124 (by kernel_rfl) (by kernel_rfl)) (junctionref5_operands.call k)
noncomputable def junctionref5_room.c : Go.Code := match Tryd.f138.body with | some c => c | none => .skip
theorem junctionref5_room.hb : Tryd.f138.body = some junctionref5_room.c := by kernel_rfl
noncomputable def junctionref5_room.x (k : Nat) (ls : List (LamS κ)) : Ctx κ := mkCtx [] [] ls
def junctionref5_room.i : List (Pat κ) := [.agg [.str, .ro .T42, .ro .T47, .ro .T110, .ro .T9, .ro .T9, .ro .T112, .ro .T98, .int .i64], .int .i64]
def junctionref5_room.s0 : Sh κ := ⟨0, [5], [.int .i64], []⟩
def junctionref5_room.o0 : List (Ex × Sh κ) := [(.normal, ⟨0, [6], [.bool], []⟩)]
noncomputable def junctionref5_room.l0 (k : Nat) (t5 : Int) : Option ((Bool × Unit) × Unit) :=
    if (t5 == (5 : Int)) = Bool.true then Option.some ((Bool.true, ()), ()) else Option.some ((t5 == (6 : Int), ()), ())
def junctionref5_room.w0 : List Nat := [7, 6, 8]
noncomputable def junctionref5_room.e0 (k : Nat) : junctionref5_room.s0.den → Option (OutT junctionref5_room.o0) := fun d => junctionref5_room.l0 k d.1.1
noncomputable def junctionref5_room.m0 (k : Nat) : LamS κ := ⟨lamK 33 junctionref5_room.w0 junctionref5_room.s0 junctionref5_room.o0 (junctionref5_room.e0 k)⟩
def junctionref5_room.p : Pat κ := .int .i64
def junctionref5_room.b : List (BPat κ) := []
noncomputable def junctionref5_room (k : Nat) (t0 : ByteArray) (t0_1 : List S42) (t0_2 : List S47) (t0_3 : List S110) (t0_4 : List ByteArray) (t0_5 : List ByteArray) (t0_6 : List S112) (t0_7 : List S98) (t0_8 : Int) (t1 : Int) : Option (Int × Unit) :=
    Option.bind (Go.Am.Tryd.junctionref5_room.l0 k t1) fun r0 =>
      if Prod.fst (Prod.fst r0) = Bool.true then Option.some ((↑(List.length t0_1) : Int), ())
      else
        if (t1 == (7 : Int)) = Bool.true then Option.some ((↑(List.length t0_6) : Int), ())
        else
          if (t1 == (8 : Int)) = Bool.true then Option.some ((↑(List.length t0_4) : Int), ())
          else
            if (t1 == (9 : Int)) = Bool.true then Option.some ((↑(List.length t0_5) : Int), ())
            else if (t1 == (10 : Int)) = Bool.true then Option.some ((↑(List.length t0_3) : Int), ()) else Option.some ((0 : Int), ())
noncomputable def junctionref5_room.f (k : Nat) : dens junctionref5_room.i → Option (junctionref5_room.p.den × densB junctionref5_room.b) := fun d => junctionref5_room k d.1.1 d.1.2.1 d.1.2.2.1 d.1.2.2.2.1 d.1.2.2.2.2.1 d.1.2.2.2.2.2.1 d.1.2.2.2.2.2.2.1 d.1.2.2.2.2.2.2.2.1 d.1.2.2.2.2.2.2.2.2.1 d.2.1
noncomputable def junctionref5_room.ctx (k : Nat) : Ctx κ := junctionref5_room.x k [junctionref5_room.m0 k]
theorem junctionref5_room.xOk (k : Nat) : (junctionref5_room.ctx k).Ok := ctxOk trivial trivial
theorem junctionref5_room.k0 (k : Nat) : LamOk (junctionref5_room.ctx k) ((junctionref5_room.ctx k).Λ 0) (sub [1, 0, 1, 0, 0] junctionref5_room.c) :=
  cut_ok (kindOf := kindOf) (C := junctionref5_room.ctx k) (n := .none) (L := junctionref5_room.e0 k) (junctionref5_room.xOk k) (by kernel_rfl) (by kernel_rfl) (fits_of (l := []) (by kernel_rfl) trivial) (fun _ => by kernel_rfl)
theorem junctionref5_room.call (k : Nat) : CallV Tryd.prog E glob 138 junctionref5_room.i junctionref5_room.p junctionref5_room.b (junctionref5_room.f k) :=
  fn_okZ (kindOf := kindOf) (C := junctionref5_room.ctx k) (n := (.pair (.ops [0] 0) (.pair (.pair .none (.pair (.pair (.cut 0) .none) .none)) .none))) (junctionref5_room.xOk k) Tryd.func138 junctionref5_room.hb (fits_of (l := [(0, (sub [1, 0, 1, 0, 0] junctionref5_room.c))]) (by kernel_rfl) ⟨junctionref5_room.k0 k, trivial⟩) (fun _ => by kernel_rfl)
noncomputable def junctionref5_room.ent (k : Nat) : EntS κ := ⟨138, [], entOf junctionref5_room.i junctionref5_room.p junctionref5_room.b true (junctionref5_room.f k) E⟩
theorem junctionref5_room.entOk (k : Nat) : EntOk Tryd.prog E glob 138 (junctionref5_room.ent k).run := ent_free encOk (callable_of Tryd.func138 (by kernel_rfl) (by kernel_rfl)) (by rfl) trivial (junctionref5_room.call k)
noncomputable def junctionref5_room.qent (k : Nat) : QEntS κ := ⟨138, qentOf junctionref5_room.i junctionref5_room.p (junctionref5_room.f k) E⟩
theorem junctionref5_room.qentOk (k : Nat) : QEntOk Tryd.prog E glob 138 (junctionref5_room.qent k).run := qent_ok encOk (callable_of Tryd.func138 (by kernel_rfl) (by kernel_rfl)) (junctionref5_room.call k)
noncomputable def junctionref5_leaf.c : Go.Code := match Tryd.f125.body with | some c => c | none => .skip
theorem junctionref5_leaf.hb : Tryd.f125.body = some junctionref5_leaf.c := by kernel_rfl
noncomputable def junctionref5_leaf.x (k : Nat) (ls : List (LamS κ)) : Ctx κ := mkCtx [junctionref5_room.ent k] [junctionref5_room.qent k] ls
def junctionref5_leaf.i : List (Pat κ) := [.agg [.str, .ro .T42, .ro .T47, .ro .T110, .ro .T9, .ro .T9, .ro .T112, .ro .T98, .int .i64], .agg [.int .i64, .int .i32, .str, .int .i64, .int .i64]]
def junctionref5_leaf.s0 : Sh κ := ⟨0, [10], [.int .i64], []⟩
def junctionref5_leaf.o0 : List (Ex × Sh κ) := [(.normal, ⟨0, [25], [.bool], []⟩)]
noncomputable def junctionref5_leaf.l0 (k : Nat) (t10 : Int) : Option ((Bool × Unit) × Unit) :=
    if (t10 == (7 : Int)) = Bool.true then Option.some ((Bool.true, ()), ())
    else if (t10 == (8 : Int)) = Bool.true then Option.some ((Bool.true, ()), ()) else Option.some ((t10 == (9 : Int), ()), ())
def junctionref5_leaf.w0 : List Nat := [26, 25, 27, 28]
noncomputable def junctionref5_leaf.e0 (k : Nat) : junctionref5_leaf.s0.den → Option (OutT junctionref5_leaf.o0) := fun d => junctionref5_leaf.l0 k d.1.1
noncomputable def junctionref5_leaf.m0 (k : Nat) : LamS κ := ⟨lamK 53 junctionref5_leaf.w0 junctionref5_leaf.s0 junctionref5_leaf.o0 (junctionref5_leaf.e0 k)⟩
def junctionref5_leaf.s1 : Sh κ := ⟨0, [10], [.int .i64], []⟩
def junctionref5_leaf.o1 : List (Ex × Sh κ) := [(.normal, ⟨0, [39], [.bool], []⟩)]
noncomputable def junctionref5_leaf.l1 (k : Nat) (t10 : Int) : Option ((Bool × Unit) × Unit) :=
    if (t10 == (5 : Int)) = Bool.true then Option.some ((Bool.true, ()), ())
    else if (t10 == (6 : Int)) = Bool.true then Option.some ((Bool.true, ()), ()) else Option.some ((t10 == (10 : Int), ()), ())
def junctionref5_leaf.w1 : List Nat := [40, 39, 41, 42]
noncomputable def junctionref5_leaf.e1 (k : Nat) : junctionref5_leaf.s1.den → Option (OutT junctionref5_leaf.o1) := fun d => junctionref5_leaf.l1 k d.1.1
noncomputable def junctionref5_leaf.m1 (k : Nat) : LamS κ := ⟨lamK 53 junctionref5_leaf.w1 junctionref5_leaf.s1 junctionref5_leaf.o1 (junctionref5_leaf.e1 k)⟩
def junctionref5_leaf.p : Pat κ := .int .i64
def junctionref5_leaf.b : List (BPat κ) := []
noncomputable def junctionref5_leaf (k : Nat) (t0 : ByteArray) (t0_1 : List S42) (t0_2 : List S47) (t0_3 : List S110) (t0_4 : List ByteArray) (t0_5 : List ByteArray) (t0_6 : List S112) (t0_7 : List S98) (t0_8 : Int) (t1 : Int) (t1_1 : Int) (t1_2 : ByteArray) (t1_3 : Int) (t1_4 : Int) : Option (Int × Unit) :=
    if (t1 == (1 : Int)) = Bool.true then Option.some ((1 : Int), ())
    else
      if (t1 == (2 : Int)) = Bool.true then
        if (Go.IntKind.wrap Go.IntKind.i64 t1_1 == (0 : Int)) = Bool.false then
          if (Go.IntKind.wrap Go.IntKind.i64 t1_1 == (1 : Int)) = Bool.true then Option.some ((2 : Int), ()) else Option.some ((0 : Int), ())
        else Option.some ((2 : Int), ())
      else
        if (t1 == (4 : Int)) = Bool.true then
          if (Go.IntKind.wrap Go.IntKind.i64 t1_1 == (0 : Int)) = Bool.true then Option.some ((1 : Int), ()) else Option.some ((0 : Int), ())
        else
          Option.bind (Go.Am.Tryd.junctionref5_leaf.l0 k t1) fun r0 =>
            if Prod.fst (Prod.fst r0) = Bool.true then
              if Decidable.decide (Go.IntKind.wrap Go.IntKind.i64 t1_1 ≥ (0 : Int)) = Bool.true then
                Option.bind (Go.Am.Tryd.junctionref5_room k t0 t0_1 t0_2 t0_3 t0_4 t0_5 t0_6 t0_7 t0_8 t1) fun r1 =>
                  if Decidable.decide (Go.IntKind.wrap Go.IntKind.i64 t1_1 < Prod.fst r1) = Bool.true then Option.some ((1 : Int), ())
                  else Option.some ((0 : Int), ())
              else Option.some ((0 : Int), ())
            else
              Option.bind (Go.Am.Tryd.junctionref5_leaf.l1 k t1) fun r2 =>
                if Prod.fst (Prod.fst r2) = Bool.true then
                  if Decidable.decide (Go.IntKind.wrap Go.IntKind.i64 t1_1 ≥ (0 : Int)) = Bool.true then
                    Option.bind (Go.Am.Tryd.junctionref5_room k t0 t0_1 t0_2 t0_3 t0_4 t0_5 t0_6 t0_7 t0_8 t1) fun r3 =>
                      if Decidable.decide (Go.IntKind.wrap Go.IntKind.i64 t1_1 < Prod.fst r3) = Bool.true then Option.some ((2 : Int), ())
                      else Option.some ((0 : Int), ())
                  else Option.some ((0 : Int), ())
                else Option.some ((0 : Int), ())
noncomputable def junctionref5_leaf.f (k : Nat) : dens junctionref5_leaf.i → Option (junctionref5_leaf.p.den × densB junctionref5_leaf.b) := fun d => junctionref5_leaf k d.1.1 d.1.2.1 d.1.2.2.1 d.1.2.2.2.1 d.1.2.2.2.2.1 d.1.2.2.2.2.2.1 d.1.2.2.2.2.2.2.1 d.1.2.2.2.2.2.2.2.1 d.1.2.2.2.2.2.2.2.2.1 d.2.1.1 d.2.1.2.1 d.2.1.2.2.1 d.2.1.2.2.2.1 d.2.1.2.2.2.2.1
noncomputable def junctionref5_leaf.ctx (k : Nat) : Ctx κ := junctionref5_leaf.x k [junctionref5_leaf.m0 k, junctionref5_leaf.m1 k]
theorem junctionref5_leaf.xOk (k : Nat) : (junctionref5_leaf.ctx k).Ok := ctxOk ⟨junctionref5_room.entOk k, trivial⟩ ⟨junctionref5_room.qentOk k, trivial⟩
theorem junctionref5_leaf.k0 (k : Nat) : LamOk (junctionref5_leaf.ctx k) ((junctionref5_leaf.ctx k).Λ 0) (sub [1, 1, 0, 1, 0, 1, 1, 1, 1, 1, 1, 0] junctionref5_leaf.c) :=
  cut_ok (kindOf := kindOf) (C := junctionref5_leaf.ctx k) (n := .none) (L := junctionref5_leaf.e0 k) (junctionref5_leaf.xOk k) (by kernel_rfl) (by kernel_rfl) (fits_of (l := []) (by kernel_rfl) trivial) (fun _ => by kernel_rfl)
theorem junctionref5_leaf.k1 (k : Nat) : LamOk (junctionref5_leaf.ctx k) ((junctionref5_leaf.ctx k).Λ 1) (sub [1, 1, 0, 1, 0, 1, 1, 1, 1, 1, 1, 1, 1, 0] junctionref5_leaf.c) :=
  cut_ok (kindOf := kindOf) (C := junctionref5_leaf.ctx k) (n := .none) (L := junctionref5_leaf.e1 k) (junctionref5_leaf.xOk k) (by kernel_rfl) (by kernel_rfl) (fits_of (l := []) (by kernel_rfl) trivial) (fun _ => by kernel_rfl)
theorem junctionref5_leaf.call (k : Nat) : CallV Tryd.prog E glob 125 junctionref5_leaf.i junctionref5_leaf.p junctionref5_leaf.b (junctionref5_leaf.f k) :=
  fn_okZ (kindOf := kindOf) (C := junctionref5_leaf.ctx k) (n := (.pair (.ops [0, 1] 0) (.pair .none (.pair (.pair .none (.pair (.pair .none (.pair .none (.pair .none (.pair .none (.pair .none (.pair .none (.pair (.cut 0) (.pair .none (.pair (.cut 1) .none))))))))) .none)) .none)))) (junctionref5_leaf.xOk k) Tryd.func125 junctionref5_leaf.hb (fits_of (l := [(0, (sub [1, 1, 0, 1, 0, 1, 1, 1, 1, 1, 1, 0] junctionref5_leaf.c)), (1, (sub [1, 1, 0, 1, 0, 1, 1, 1, 1, 1, 1, 1, 1, 0] junctionref5_leaf.c))]) (by kernel_rfl) ⟨junctionref5_leaf.k0 k, junctionref5_leaf.k1 k, trivial⟩) (fun _ => by kernel_rfl)
noncomputable def junctionref5_leaf.ent (k : Nat) : EntS κ := ⟨125, [], entOf junctionref5_leaf.i junctionref5_leaf.p junctionref5_leaf.b true (junctionref5_leaf.f k) E⟩
theorem junctionref5_leaf.entOk (k : Nat) : EntOk Tryd.prog E glob 125 (junctionref5_leaf.ent k).run := ent_free encOk (callable_of Tryd.func125 (by kernel_rfl) (by kernel_rfl)) (by rfl) trivial (junctionref5_leaf.call k)
noncomputable def junctionref5_leaf.qent (k : Nat) : QEntS κ := ⟨125, qentOf junctionref5_leaf.i junctionref5_leaf.p (junctionref5_leaf.f k) E⟩
theorem junctionref5_leaf.qentOk (k : Nat) : QEntOk Tryd.prog E glob 125 (junctionref5_leaf.qent k).run := qent_ok encOk (callable_of Tryd.func125 (by kernel_rfl) (by kernel_rfl)) (junctionref5_leaf.call k)
noncomputable def junctionref5_result.c : Go.Code := match Tryd.f126.body with | some c => c | none => .skip
theorem junctionref5_result.hb : Tryd.f126.body = some junctionref5_result.c := by kernel_rfl
noncomputable def junctionref5_result.x (k : Nat) (ls : List (LamS κ)) : Ctx κ := mkCtx [] [] ls
def junctionref5_result.i : List (Pat κ) := [.int .i64, .int .i64, .int .i64]
def junctionref5_result.s0 : Sh κ := ⟨0, [0], [.int .i64], []⟩
def junctionref5_result.o0 : List (Ex × Sh κ) := [(.normal, ⟨0, [7], [.bool], []⟩)]
noncomputable def junctionref5_result.l0 (k : Nat) (t0 : Int) : Option ((Bool × Unit) × Unit) :=
    if (t0 == (20 : Int)) = Bool.false then Option.some ((t0 == (22 : Int), ()), ()) else Option.some ((Bool.true, ()), ())
def junctionref5_result.w0 : List Nat := [8, 9, 10, 11, 12, 13, 7]
noncomputable def junctionref5_result.e0 (k : Nat) : junctionref5_result.s0.den → Option (OutT junctionref5_result.o0) := fun d => junctionref5_result.l0 k d.1.1
noncomputable def junctionref5_result.m0 (k : Nat) : LamS κ := ⟨lamK 70 junctionref5_result.w0 junctionref5_result.s0 junctionref5_result.o0 (junctionref5_result.e0 k)⟩
def junctionref5_result.s1 : Sh κ := ⟨0, [0], [.int .i64], []⟩
def junctionref5_result.o1 : List (Ex × Sh κ) := [(.normal, ⟨0, [21], [.bool], []⟩)]
noncomputable def junctionref5_result.l1 (k : Nat) (t0 : Int) : Option ((Bool × Unit) × Unit) :=
    if Decidable.decide (t0 ≥ (30 : Int)) = Bool.true then Option.some ((Decidable.decide (t0 ≤ (36 : Int)), ()), ()) else Option.some ((Bool.false, ()), ())
def junctionref5_result.w1 : List Nat := [22, 23, 24, 25, 26, 27, 21]
noncomputable def junctionref5_result.e1 (k : Nat) : junctionref5_result.s1.den → Option (OutT junctionref5_result.o1) := fun d => junctionref5_result.l1 k d.1.1
noncomputable def junctionref5_result.m1 (k : Nat) : LamS κ := ⟨lamK 70 junctionref5_result.w1 junctionref5_result.s1 junctionref5_result.o1 (junctionref5_result.e1 k)⟩
def junctionref5_result.s2 : Sh κ := ⟨0, [0], [.int .i64], []⟩
def junctionref5_result.o2 : List (Ex × Sh κ) := [(.normal, ⟨0, [34], [.bool], []⟩)]
noncomputable def junctionref5_result.l2 (k : Nat) (t0 : Int) : Option ((Bool × Unit) × Unit) :=
    if (t0 == (40 : Int)) = Bool.false then Option.some ((t0 == (41 : Int), ()), ()) else Option.some ((Bool.true, ()), ())
def junctionref5_result.w2 : List Nat := [35, 36, 37, 38, 39, 40, 34]
noncomputable def junctionref5_result.e2 (k : Nat) : junctionref5_result.s2.den → Option (OutT junctionref5_result.o2) := fun d => junctionref5_result.l2 k d.1.1
noncomputable def junctionref5_result.m2 (k : Nat) : LamS κ := ⟨lamK 70 junctionref5_result.w2 junctionref5_result.s2 junctionref5_result.o2 (junctionref5_result.e2 k)⟩
def junctionref5_result.s3 : Sh κ := ⟨0, [0], [.int .i64], []⟩
def junctionref5_result.o3 : List (Ex × Sh κ) := [(.normal, ⟨0, [44], [.bool], []⟩)]
noncomputable def junctionref5_result.l3 (k : Nat) (t0 : Int) : Option ((Bool × Unit) × Unit) :=
    if Decidable.decide (t0 ≥ (42 : Int)) = Bool.true then Option.some ((Decidable.decide (t0 ≤ (45 : Int)), ()), ()) else Option.some ((Bool.false, ()), ())
def junctionref5_result.w3 : List Nat := [45, 46, 47, 48, 49, 50, 44]
noncomputable def junctionref5_result.e3 (k : Nat) : junctionref5_result.s3.den → Option (OutT junctionref5_result.o3) := fun d => junctionref5_result.l3 k d.1.1
noncomputable def junctionref5_result.m3 (k : Nat) : LamS κ := ⟨lamK 70 junctionref5_result.w3 junctionref5_result.s3 junctionref5_result.o3 (junctionref5_result.e3 k)⟩
def junctionref5_result.s4 : Sh κ := ⟨0, [0], [.int .i64], []⟩
def junctionref5_result.o4 : List (Ex × Sh κ) := [(.normal, ⟨0, [57], [.bool], []⟩)]
noncomputable def junctionref5_result.l4 (k : Nat) (t0 : Int) : Option ((Bool × Unit) × Unit) :=
    if (t0 == (50 : Int)) = Bool.false then Option.some ((t0 == (51 : Int), ()), ()) else Option.some ((Bool.true, ()), ())
def junctionref5_result.w4 : List Nat := [58, 59, 60, 61, 62, 63, 57]
noncomputable def junctionref5_result.e4 (k : Nat) : junctionref5_result.s4.den → Option (OutT junctionref5_result.o4) := fun d => junctionref5_result.l4 k d.1.1
noncomputable def junctionref5_result.m4 (k : Nat) : LamS κ := ⟨lamK 70 junctionref5_result.w4 junctionref5_result.s4 junctionref5_result.o4 (junctionref5_result.e4 k)⟩
def junctionref5_result.p : Pat κ := .int .i64
def junctionref5_result.b : List (BPat κ) := []
noncomputable def junctionref5_result (k : Nat) (t0 : Int) (t1 : Int) (t2 : Int) : Option (Int × Unit) :=
    Option.bind (Go.Am.Tryd.junctionref5_result.l0 k t0) fun r0 =>
      if Prod.fst (Prod.fst r0) = Bool.true then if (t1 == (1 : Int)) = Bool.true then Option.some ((1 : Int), ()) else Option.some ((0 : Int), ())
      else
        if (t0 == (21 : Int)) = Bool.true then if (t1 == (2 : Int)) = Bool.true then Option.some ((2 : Int), ()) else Option.some ((0 : Int), ())
        else
          Option.bind (Go.Am.Tryd.junctionref5_result.l1 k t0) fun r1 =>
            if Prod.fst (Prod.fst r1) = Bool.true then
              if (t1 == (1 : Int)) = Bool.true then if (t2 == (1 : Int)) = Bool.true then Option.some ((1 : Int), ()) else Option.some ((0 : Int), ())
              else Option.some ((0 : Int), ())
            else
              Option.bind (Go.Am.Tryd.junctionref5_result.l2 k t0) fun r2 =>
                if Prod.fst (Prod.fst r2) = Bool.true then if (t1 == t2) = Bool.true then Option.some ((2 : Int), ()) else Option.some ((0 : Int), ())
                else
                  Option.bind (Go.Am.Tryd.junctionref5_result.l3 k t0) fun r3 =>
                    if Prod.fst (Prod.fst r3) = Bool.true then
                      if (t1 == (1 : Int)) = Bool.true then if (t2 == (1 : Int)) = Bool.true then Option.some ((2 : Int), ()) else Option.some ((0 : Int), ())
                      else Option.some ((0 : Int), ())
                    else
                      Option.bind (Go.Am.Tryd.junctionref5_result.l4 k t0) fun r4 =>
                        if Prod.fst (Prod.fst r4) = Bool.true then
                          if (t1 == (2 : Int)) = Bool.true then if (t2 == (2 : Int)) = Bool.true then Option.some ((2 : Int), ()) else Option.some ((0 : Int), ())
                          else Option.some ((0 : Int), ())
                        else Option.some ((0 : Int), ())
noncomputable def junctionref5_result.f (k : Nat) : dens junctionref5_result.i → Option (junctionref5_result.p.den × densB junctionref5_result.b) := fun d => junctionref5_result k d.1 d.2.1 d.2.2.1
noncomputable def junctionref5_result.ctx (k : Nat) : Ctx κ := junctionref5_result.x k [junctionref5_result.m0 k, junctionref5_result.m1 k, junctionref5_result.m2 k, junctionref5_result.m3 k, junctionref5_result.m4 k]
theorem junctionref5_result.xOk (k : Nat) : (junctionref5_result.ctx k).Ok := ctxOk trivial trivial
theorem junctionref5_result.k0 (k : Nat) : LamOk (junctionref5_result.ctx k) ((junctionref5_result.ctx k).Λ 0) (sub [1, 0, 0, 0] junctionref5_result.c) :=
  cut_ok (kindOf := kindOf) (C := junctionref5_result.ctx k) (n := .none) (L := junctionref5_result.e0 k) (junctionref5_result.xOk k) (by kernel_rfl) (by kernel_rfl) (fits_of (l := []) (by kernel_rfl) trivial) (fun _ => by kernel_rfl)
theorem junctionref5_result.k1 (k : Nat) : LamOk (junctionref5_result.ctx k) ((junctionref5_result.ctx k).Λ 1) (sub [1, 0, 0, 1, 1, 1, 1, 0] junctionref5_result.c) :=
  cut_ok (kindOf := kindOf) (C := junctionref5_result.ctx k) (n := .none) (L := junctionref5_result.e1 k) (junctionref5_result.xOk k) (by kernel_rfl) (by kernel_rfl) (fits_of (l := []) (by kernel_rfl) trivial) (fun _ => by kernel_rfl)
theorem junctionref5_result.k2 (k : Nat) : LamOk (junctionref5_result.ctx k) ((junctionref5_result.ctx k).Λ 2) (sub [1, 0, 0, 1, 1, 1, 1, 1, 1, 0] junctionref5_result.c) :=
  cut_ok (kindOf := kindOf) (C := junctionref5_result.ctx k) (n := .none) (L := junctionref5_result.e2 k) (junctionref5_result.xOk k) (by kernel_rfl) (by kernel_rfl) (fits_of (l := []) (by kernel_rfl) trivial) (fun _ => by kernel_rfl)
theorem junctionref5_result.k3 (k : Nat) : LamOk (junctionref5_result.ctx k) ((junctionref5_result.ctx k).Λ 3) (sub [1, 0, 0, 1, 1, 1, 1, 1, 1, 1, 1, 0] junctionref5_result.c) :=
  cut_ok (kindOf := kindOf) (C := junctionref5_result.ctx k) (n := .none) (L := junctionref5_result.e3 k) (junctionref5_result.xOk k) (by kernel_rfl) (by kernel_rfl) (fits_of (l := []) (by kernel_rfl) trivial) (fun _ => by kernel_rfl)
theorem junctionref5_result.k4 (k : Nat) : LamOk (junctionref5_result.ctx k) ((junctionref5_result.ctx k).Λ 4) (sub [1, 0, 0, 1, 1, 1, 1, 1, 1, 1, 1, 1, 1, 0] junctionref5_result.c) :=
  cut_ok (kindOf := kindOf) (C := junctionref5_result.ctx k) (n := .none) (L := junctionref5_result.e4 k) (junctionref5_result.xOk k) (by kernel_rfl) (by kernel_rfl) (fits_of (l := []) (by kernel_rfl) trivial) (fun _ => by kernel_rfl)
theorem junctionref5_result.call (k : Nat) : CallV Tryd.prog E glob 126 junctionref5_result.i junctionref5_result.p junctionref5_result.b (junctionref5_result.f k) :=
  fn_okZ (kindOf := kindOf) (C := junctionref5_result.ctx k) (n := (.pair .none (.pair (.pair (.pair (.cut 0) (.pair .none (.pair .none (.pair .none (.pair (.cut 1) (.pair .none (.pair (.cut 2) (.pair .none (.pair (.cut 3) (.pair .none (.pair (.cut 4) .none))))))))))) .none) .none))) (junctionref5_result.xOk k) Tryd.func126 junctionref5_result.hb (fits_of (l := [(0, (sub [1, 0, 0, 0] junctionref5_result.c)), (1, (sub [1, 0, 0, 1, 1, 1, 1, 0] junctionref5_result.c)), (2, (sub [1, 0, 0, 1, 1, 1, 1, 1, 1, 0] junctionref5_result.c)), (3, (sub [1, 0, 0, 1, 1, 1, 1, 1, 1, 1, 1, 0] junctionref5_result.c)), (4, (sub [1, 0, 0, 1, 1, 1, 1, 1, 1, 1, 1, 1, 1, 0] junctionref5_result.c))]) (by kernel_rfl) ⟨junctionref5_result.k0 k, junctionref5_result.k1 k, junctionref5_result.k2 k, junctionref5_result.k3 k, junctionref5_result.k4 k, trivial⟩) (fun _ => by kernel_rfl)
noncomputable def junctionref5_result.ent (k : Nat) : EntS κ := ⟨126, [], entOf junctionref5_result.i junctionref5_result.p junctionref5_result.b true (junctionref5_result.f k) E⟩
theorem junctionref5_result.entOk (k : Nat) : EntOk Tryd.prog E glob 126 (junctionref5_result.ent k).run := ent_free encOk (callable_of Tryd.func126 (by kernel_rfl) (by kernel_rfl)) (by rfl) trivial (junctionref5_result.call k)
noncomputable def junctionref5_result.qent (k : Nat) : QEntS κ := ⟨126, qentOf junctionref5_result.i junctionref5_result.p (junctionref5_result.f k) E⟩
theorem junctionref5_result.qentOk (k : Nat) : QEntOk Tryd.prog E glob 126 (junctionref5_result.qent k).run := qent_ok encOk (callable_of Tryd.func126 (by kernel_rfl) (by kernel_rfl)) (junctionref5_result.call k)
noncomputable def junctionref5_typed.c : Go.Code := match Tryd.f107.body with | some c => c | none => .skip
theorem junctionref5_typed.hb : Tryd.f107.body = some junctionref5_typed.c := by kernel_rfl
noncomputable def junctionref5_typed.x (k : Nat) (ls : List (LamS κ)) : Ctx κ := mkCtx [junctionref5_operands.ent k, junctionref5_leaf.ent k, junctionref5_result.ent k] [junctionref5_operands.qent k, junctionref5_leaf.qent k, junctionref5_result.qent k] ls
def junctionref5_typed.i : List (Pat κ) := [.agg [.str, .ro .T42, .ro .T47, .ro .T110, .ro .T9, .ro .T9, .ro .T112, .ro .T98, .int .i64], .ro .T120]
def junctionref5_typed.s2 : Sh κ := ⟨0, [1, 2, 5, 6], [.ro .T120, .rop [.str, .ro .T42, .ro .T47, .ro .T110, .ro .T9, .ro .T9, .ro .T112, .ro .T98, .int .i64], .own .T3 0, .int .i64], [.rows .T3]⟩
def junctionref5_typed.s0 : Sh κ := ⟨0, [8], [.ptr 0 0], [.raw 120 [.int .i64, .int .i32, .str, .int .i64, .int .i64]]⟩
def junctionref5_typed.o0 : List (Ex × Sh κ) := [(.ret, ⟨1, [4], [.int .i64], [.raw 120 [.int .i64, .int .i32, .str, .int .i64, .int .i64]]⟩), (.normal, ⟨1, [8], [.ptr 0 0], [.raw 120 [.int .i64, .int .i32, .str, .int .i64, .int .i64]]⟩)]
noncomputable def junctionref5_typed.l0 (k : Nat) (b0 : Int) (b0_1 : Int) (b0_2 : ByteArray) (b0_3 : Int) (b0_4 : Int) : Option ((Int × Unit) × (Int × Int × ByteArray × Int × Int × Unit) × Unit ⊕ (Unit × Unit) × (Int × Int × ByteArray × Int × Int × Unit) × Unit) :=
    if (!ByteArray.toList b0_2 == ByteArray.toList (ByteArray.mk #[])) = Bool.false then
      if (b0_3 != (0 : Int)) = Bool.false then
        if (b0_4 != (0 : Int)) = Bool.true then Option.some (Sum.inl (((0 : Int), ()), (b0, b0_1, b0_2, b0_3, b0_4, ()), ()))
        else Option.some (Sum.inr (((), ()), (b0, b0_1, b0_2, b0_3, b0_4, ()), ()))
      else Option.some (Sum.inl (((0 : Int), ()), (b0, b0_1, b0_2, b0_3, b0_4, ()), ()))
    else Option.some (Sum.inl (((0 : Int), ()), (b0, b0_1, b0_2, b0_3, b0_4, ()), ()))
def junctionref5_typed.w0 : List Nat := [22, 23, 24, 25, 26, 27, 28, 29, 30, 31, 32, 33, 34, 35, 36, 4]
noncomputable def junctionref5_typed.e0 (k : Nat) : junctionref5_typed.s0.den → Option (OutT junctionref5_typed.o0) := fun d => junctionref5_typed.l0 k d.2.1.1 d.2.1.2.1 d.2.1.2.2.1 d.2.1.2.2.2.1 d.2.1.2.2.2.2.1
noncomputable def junctionref5_typed.m0 (k : Nat) : LamS κ := ⟨lamK 95 junctionref5_typed.w0 junctionref5_typed.s0 junctionref5_typed.o0 (junctionref5_typed.e0 k)⟩
def junctionref5_typed.s1 : Sh κ := ⟨0, [2, 5, 7, 8], [.rop [.str, .ro .T42, .ro .T47, .ro .T110, .ro .T9, .ro .T9, .ro .T112, .ro .T98, .int .i64], .own .T3 0, .int .i64, .ptr 1 0], [.rows .T3, .raw 120 [.int .i64, .int .i32, .str, .int .i64, .int .i64]]⟩
def junctionref5_typed.o1 : List (Ex × Sh κ) := [(.normal, ⟨2, [5, 9], [.own .T3 0, .int .i64], [.rows .T3, .raw 120 [.int .i64, .int .i32, .str, .int .i64, .int .i64]]⟩), (.ret, ⟨2, [4], [.int .i64], [.rows .T3, .raw 120 [.int .i64, .int .i32, .str, .int .i64, .int .i64]]⟩)]
noncomputable def junctionref5_typed.l1 (k : Nat) (t2 : ByteArray) (t2_1 : List S42) (t2_2 : List S47) (t2_3 : List S110) (t2_4 : List ByteArray) (t2_5 : List ByteArray) (t2_6 : List S112) (t2_7 : List S98) (t2_8 : Int) (t7 : Int) (b0 : List Int) (b1 : Int) (b1_1 : Int) (b1_2 : ByteArray) (b1_3 : Int) (b1_4 : Int) : Option ((Unit × Int × Unit) × List Int × (Int × Int × ByteArray × Int × Int × Unit) × Unit ⊕
      (Int × Unit) × List Int × (Int × Int × ByteArray × Int × Int × Unit) × Unit) :=
    Option.bind (Go.Am.Tryd.junctionref5_operands k b1) fun r0 =>
      if (Prod.fst r0 == (0 : Int)) = Bool.true then
        Option.bind (Go.Am.Tryd.junctionref5_leaf k t2 t2_1 t2_2 t2_3 t2_4 t2_5 t2_6 t2_7 t2_8 b1 b1_1 b1_2 b1_3 b1_4) fun r1 =>
          Go.Am.room ((List.length b0 + List.length [Prod.fst r1]) * (8 : Nat))
            (Option.some (Sum.inl (((), Prod.fst r1, ()), b0 ++ [Prod.fst r1], (b1, b1_1, b1_2, b1_3, b1_4, ()), ())))
      else
        if (b1_1 != (0 : Int)) = Bool.true then Option.some (Sum.inr (((0 : Int), ()), b0, (b1, b1_1, b1_2, b1_3, b1_4, ()), ()))
        else
          Option.bind (Go.Am.Tryd.junctionref5_operands k b1) fun r2 =>
            if (Prod.fst r2 == (1 : Int)) = Bool.true then
              if (0 : Int) ≤ Go.IntKind.wrap Go.IntKind.i64 (t7 - (1 : Int)) ∧ Go.IntKind.wrap Go.IntKind.i64 (t7 - (1 : Int)) < (↑(List.length b0) : Int) then
                Option.bind (Go.Am.Tryd.junctionref5_result k b1 (List.getD b0 (Int.toNat (Go.IntKind.wrap Go.IntKind.i64 (t7 - (1 : Int)))) (0 : Int)) (0 : Int))
                  fun r3 =>
                  if (0 : Int) ≤ Go.IntKind.wrap Go.IntKind.i64 (t7 - (1 : Int)) ∧ Go.IntKind.wrap Go.IntKind.i64 (t7 - (1 : Int)) < (↑(List.length b0) : Int) then
                    Option.some
                      (Sum.inl
                        (((), Prod.fst r3, ()), List.set b0 (Int.toNat (Go.IntKind.wrap Go.IntKind.i64 (t7 - (1 : Int)))) (Prod.fst r3),
                          (b1, b1_1, b1_2, b1_3, b1_4, ()), ()))
                  else Option.none
              else Option.none
            else
              if (0 : Int) ≤ Go.IntKind.wrap Go.IntKind.i64 (t7 - (2 : Int)) ∧ Go.IntKind.wrap Go.IntKind.i64 (t7 - (2 : Int)) < (↑(List.length b0) : Int) then
                if (0 : Int) ≤ Go.IntKind.wrap Go.IntKind.i64 (t7 - (1 : Int)) ∧ Go.IntKind.wrap Go.IntKind.i64 (t7 - (1 : Int)) < (↑(List.length b0) : Int) then
                  Option.bind
                    (Go.Am.Tryd.junctionref5_result k b1 (List.getD b0 (Int.toNat (Go.IntKind.wrap Go.IntKind.i64 (t7 - (2 : Int)))) (0 : Int))
                      (List.getD b0 (Int.toNat (Go.IntKind.wrap Go.IntKind.i64 (t7 - (1 : Int)))) (0 : Int)))
                    fun r4 =>
                    if
                        (0 : Int) ≤ Go.IntKind.wrap Go.IntKind.i64 (t7 - (2 : Int)) ∧
                          Go.IntKind.wrap Go.IntKind.i64 (t7 - (2 : Int)) < (↑(List.length b0) : Int) then
                      if
                          (0 : Int) ≤ Go.IntKind.wrap Go.IntKind.i64 (t7 - (1 : Int)) ∧
                            Go.IntKind.wrap Go.IntKind.i64 (t7 - (1 : Int)) ≤
                              (↑(List.length (List.set b0 (Int.toNat (Go.IntKind.wrap Go.IntKind.i64 (t7 - (2 : Int)))) (Prod.fst r4))) : Int) then
                        Option.some
                          (Sum.inl
                            (((), Prod.fst r4, ()),
                              List.take (Int.toNat (Go.IntKind.wrap Go.IntKind.i64 (t7 - (1 : Int))))
                                (List.set b0 (Int.toNat (Go.IntKind.wrap Go.IntKind.i64 (t7 - (2 : Int)))) (Prod.fst r4)),
                              (b1, b1_1, b1_2, b1_3, b1_4, ()), ()))
                      else Option.none
                    else Option.none
                else Option.none
              else Option.none
def junctionref5_typed.w1 : List Nat := [37, 38, 39, 40, 41, 42, 43, 9, 44, 45, 46, 47, 5, 48, 49, 50, 4, 51, 52, 53, 54, 55, 56, 57, 58, 59, 60, 61, 62, 63, 64, 65, 66, 67, 68, 69, 70, 71, 72, 73, 74, 75, 76, 77, 78, 79, 80, 81, 82, 83, 84, 85, 86, 87, 88, 89]
noncomputable def junctionref5_typed.e1 (k : Nat) : junctionref5_typed.s1.den → Option (OutT junctionref5_typed.o1) := fun d => junctionref5_typed.l1 k d.1.1.1 d.1.1.2.1 d.1.1.2.2.1 d.1.1.2.2.2.1 d.1.1.2.2.2.2.1 d.1.1.2.2.2.2.2.1 d.1.1.2.2.2.2.2.2.1 d.1.1.2.2.2.2.2.2.2.1 d.1.1.2.2.2.2.2.2.2.2.1 d.1.2.2.1 d.2.1 d.2.2.1.1 d.2.2.1.2.1 d.2.2.1.2.2.1 d.2.2.1.2.2.2.1 d.2.2.1.2.2.2.2.1
noncomputable def junctionref5_typed.m1 (k : Nat) : LamS κ := ⟨lamK 95 junctionref5_typed.w1 junctionref5_typed.s1 junctionref5_typed.o1 (junctionref5_typed.e1 k)⟩
def junctionref5_typed.o2 : List (Ex × Sh κ) := [(.ret, ⟨1, [4], [.int .i64], [.rows .T3]⟩), (.exit 0, ⟨1, [5], [.own .T3 0], [.rows .T3]⟩)]
noncomputable def junctionref5_typed.l2 (k : Nat) : Nat → (List S120) → ByteArray → (List S42) → (List S47) → (List S110) → (List ByteArray) → (List ByteArray) → (List S112) → (List S98) → Int → Int → (List Int) → Option ((Int × Unit) × List Int × Unit ⊕ (Unit × Unit) × List Int × Unit)
  | 0, _, _, _, _, _, _, _, _, _, _, _, _ => none
  | j + 1, t1, t2, t2_1, t2_2, t2_3, t2_4, t2_5, t2_6, t2_7, t2_8, t6, b0 =>
    if Decidable.decide (t6 < (↑(List.length t1) : Int)) = Bool.true then
      if (0 : Int) ≤ t6 ∧ t6 < (↑(List.length t1) : Int) then
        Option.bind
          (Go.Am.Tryd.junctionref5_typed.l0 k
            (Go.Am.Tryd.S120.f0 (List.getD t1 (Int.toNat t6) (Go.Am.Tryd.S120.mk (0 : Int) (0 : Int) ByteArray.empty (0 : Int) (0 : Int))))
            (Go.Am.Tryd.S120.f1 (List.getD t1 (Int.toNat t6) (Go.Am.Tryd.S120.mk (0 : Int) (0 : Int) ByteArray.empty (0 : Int) (0 : Int))))
            (Go.Am.Tryd.S120.f2 (List.getD t1 (Int.toNat t6) (Go.Am.Tryd.S120.mk (0 : Int) (0 : Int) ByteArray.empty (0 : Int) (0 : Int))))
            (Go.Am.Tryd.S120.f3 (List.getD t1 (Int.toNat t6) (Go.Am.Tryd.S120.mk (0 : Int) (0 : Int) ByteArray.empty (0 : Int) (0 : Int))))
            (Go.Am.Tryd.S120.f4 (List.getD t1 (Int.toNat t6) (Go.Am.Tryd.S120.mk (0 : Int) (0 : Int) ByteArray.empty (0 : Int) (0 : Int)))))
          fun r0 =>
          Go.Am.onSum r0 (fun r1 => Option.some (Sum.inl ((Prod.fst (Prod.fst r1), ()), b0, ()))) fun r1 =>
            Option.bind
              (Go.Am.Tryd.junctionref5_typed.l1 k t2 t2_1 t2_2 t2_3 t2_4 t2_5 t2_6 t2_7 t2_8 (↑(List.length b0) : Int) b0 (Prod.fst (Prod.fst (Prod.snd r1)))
                (Prod.fst (Prod.snd (Prod.fst (Prod.snd r1)))) (Prod.fst (Prod.snd (Prod.snd (Prod.fst (Prod.snd r1)))))
                (Prod.fst (Prod.snd (Prod.snd (Prod.snd (Prod.fst (Prod.snd r1))))))
                (Prod.fst (Prod.snd (Prod.snd (Prod.snd (Prod.snd (Prod.fst (Prod.snd r1))))))))
              fun r2 =>
              Go.Am.onSum r2
                (fun r3 =>
                  if (Prod.fst (Prod.snd (Prod.fst r3)) == (0 : Int)) = Bool.true then Option.some (Sum.inl (((0 : Int), ()), Prod.fst (Prod.snd r3), ()))
                  else junctionref5_typed.l2 k j t1 t2 t2_1 t2_2 t2_3 t2_4 t2_5 t2_6 t2_7 t2_8 (Go.IntKind.wrap Go.IntKind.i64 (t6 + (1 : Int))) (Prod.fst (Prod.snd r3)))
                fun r3 => Option.some (Sum.inl ((Prod.fst (Prod.fst r3), ()), Prod.fst (Prod.snd r3), ()))
      else Option.none
    else Option.some (Sum.inr (((), ()), b0, ()))
def junctionref5_typed.w2 : List Nat := [10, 11, 12, 13, 16, 17, 7, 18, 19, 20, 21, 8, 22, 23, 24, 25, 26, 27, 28, 29, 30, 31, 32, 33, 34, 35, 36, 4, 9, 37, 38, 39, 40, 41, 42, 43, 44, 45, 46, 47, 5, 48, 49, 50, 51, 52, 53, 54, 55, 56, 57, 58, 59, 60, 61, 62, 63, 64, 65, 66, 67, 68, 69, 70, 71, 72, 73, 74, 75, 76, 77, 78, 79, 80, 81, 82, 83, 84, 85, 86, 87, 88, 89, 90, 91, 14, 15, 6]
noncomputable def junctionref5_typed.e2 (k j : Nat) : junctionref5_typed.s2.den → Option (OutT junctionref5_typed.o2) := fun d => junctionref5_typed.l2 k j d.1.1 d.1.2.1.1 d.1.2.1.2.1 d.1.2.1.2.2.1 d.1.2.1.2.2.2.1 d.1.2.1.2.2.2.2.1 d.1.2.1.2.2.2.2.2.1 d.1.2.1.2.2.2.2.2.2.1 d.1.2.1.2.2.2.2.2.2.2.1 d.1.2.1.2.2.2.2.2.2.2.2.1 d.1.2.2.2.1 d.2.1
noncomputable def junctionref5_typed.m2 (k : Nat) : LamS κ := ⟨lamK 95 junctionref5_typed.w2 junctionref5_typed.s2 junctionref5_typed.o2 (junctionref5_typed.e2 k k)⟩
def junctionref5_typed.p : Pat κ := .int .i64
def junctionref5_typed.b : List (BPat κ) := []
noncomputable def junctionref5_typed (k : Nat) (t0 : ByteArray) (t0_1 : List S42) (t0_2 : List S47) (t0_3 : List S110) (t0_4 : List ByteArray) (t0_5 : List ByteArray) (t0_6 : List S112) (t0_7 : List S98) (t0_8 : Int) (t1 : List S120) : Option (Int × Unit) :=
    Option.bind (Go.Am.Tryd.junctionref5_typed.l2 k k t1 t0 t0_1 t0_2 t0_3 t0_4 t0_5 t0_6 t0_7 t0_8 (0 : Int) []) fun r0 =>
      Go.Am.onSum r0 (fun r1 => Option.some (Prod.fst (Prod.fst r1), ())) fun r1 =>
        if (0 : Int) ≤ (0 : Int) ∧ (0 : Int) < (↑(List.length (Prod.fst (Prod.snd r1))) : Int) then
          Option.some (List.getD (Prod.fst (Prod.snd r1)) (Int.toNat (0 : Int)) (0 : Int), ())
        else Option.none
noncomputable def junctionref5_typed.f (k : Nat) : dens junctionref5_typed.i → Option (junctionref5_typed.p.den × densB junctionref5_typed.b) := fun d => junctionref5_typed k d.1.1 d.1.2.1 d.1.2.2.1 d.1.2.2.2.1 d.1.2.2.2.2.1 d.1.2.2.2.2.2.1 d.1.2.2.2.2.2.2.1 d.1.2.2.2.2.2.2.2.1 d.1.2.2.2.2.2.2.2.2.1 d.2.1
noncomputable def junctionref5_typed.ctx (k : Nat) : Ctx κ := junctionref5_typed.x k [junctionref5_typed.m0 k, junctionref5_typed.m1 k, junctionref5_typed.m2 k]
theorem junctionref5_typed.xOk (k : Nat) : (junctionref5_typed.ctx k).Ok := ctxOk ⟨junctionref5_operands.entOk k, junctionref5_leaf.entOk k, junctionref5_result.entOk k, trivial⟩ ⟨junctionref5_operands.qentOk k, junctionref5_leaf.qentOk k, junctionref5_result.qentOk k, trivial⟩
theorem junctionref5_typed.k0 (k : Nat) : LamOk (junctionref5_typed.ctx k) ((junctionref5_typed.ctx k).Λ 0) (sub [1, 1, 0, 1, 0, 0, 1, 0, 0, 1, 1, 0] junctionref5_typed.c) :=
  cut_ok (kindOf := kindOf) (C := junctionref5_typed.ctx k) (n := .none) (L := junctionref5_typed.e0 k) (junctionref5_typed.xOk k) (by kernel_rfl) (by kernel_rfl) (fits_of (l := []) (by kernel_rfl) trivial) (fun _ => by kernel_rfl)
theorem junctionref5_typed.k1 (k : Nat) : LamOk (junctionref5_typed.ctx k) ((junctionref5_typed.ctx k).Λ 1) (sub [1, 1, 0, 1, 0, 0, 1, 0, 0, 1, 1, 1, 1, 0] junctionref5_typed.c) :=
  cut_ok (kindOf := kindOf) (C := junctionref5_typed.ctx k) (n := (.pair .none (.pair .none (.pair .none (.pair .none (.pair .none (.pair (.pair (.ops [] 9) .none) (.pair (.ops [] 14) .none)))))))) (L := junctionref5_typed.e1 k) (junctionref5_typed.xOk k) (by kernel_rfl) (by kernel_rfl) (fits_of (l := []) (by kernel_rfl) trivial) (fun _ => by kernel_rfl)
theorem junctionref5_typed.k2 (k : Nat) : LamOk (junctionref5_typed.ctx k) ((junctionref5_typed.ctx k).Λ 2) (.loop (sub [1, 1, 0, 1, 0, 0] junctionref5_typed.c)) :=
  loop_ok (kindOf := kindOf) (C := junctionref5_typed.ctx k) (n := (.pair .none (.pair (.pair (.pair .none (.pair .none (.pair (.cut 0) (.pair .none (.pair (.cut 1) .none))))) .none) .none))) (L := junctionref5_typed.e2 k) (junctionref5_typed.xOk k) (by kernel_rfl) (by kernel_rfl) (fits_of (l := [(0, (sub [1, 1, 0, 1, 0, 0, 1, 0, 0, 1, 1, 0] junctionref5_typed.c)), (1, (sub [1, 1, 0, 1, 0, 0, 1, 0, 0, 1, 1, 1, 1, 0] junctionref5_typed.c))]) (by kernel_rfl) ⟨junctionref5_typed.k0 k, junctionref5_typed.k1 k, trivial⟩) (fun _ => by kernel_rfl) (fun _ _ => by kernel_rfl) k
theorem junctionref5_typed.call (k : Nat) : CallV Tryd.prog E glob 107 junctionref5_typed.i junctionref5_typed.p junctionref5_typed.b (junctionref5_typed.f k) :=
  fn_okZ (kindOf := kindOf) (C := junctionref5_typed.ctx k) (n := (.pair (.ops [0] 0) (.pair .none (.pair (.pair .none (.pair (.cut 2) .none)) .none)))) (junctionref5_typed.xOk k) Tryd.func107 junctionref5_typed.hb (fits_of (l := [(2, .loop (sub [1, 1, 0, 1, 0, 0] junctionref5_typed.c))]) (by kernel_rfl) ⟨junctionref5_typed.k2 k, trivial⟩) (fun _ => by kernel_rfl)
noncomputable def junctionref5_typed.ent (k : Nat) : EntS κ := ⟨107, [], entOf junctionref5_typed.i junctionref5_typed.p junctionref5_typed.b true (junctionref5_typed.f k) E⟩
theorem junctionref5_typed.entOk (k : Nat) : EntOk Tryd.prog E glob 107 (junctionref5_typed.ent k).run := ent_free encOk (callable_of Tryd.func107 (by kernel_rfl) (by kernel_rfl)) (by rfl) trivial (junctionref5_typed.call k)
noncomputable def junctionref5_typed.qent (k : Nat) : QEntS κ := ⟨107, qentOf junctionref5_typed.i junctionref5_typed.p (junctionref5_typed.f k) E⟩
theorem junctionref5_typed.qentOk (k : Nat) : QEntOk Tryd.prog E glob 107 (junctionref5_typed.qent k).run := qent_ok encOk (callable_of Tryd.func107 (by kernel_rfl) (by kernel_rfl)) (junctionref5_typed.call k)
noncomputable def junctionref5_SoundExpr.c : Go.Code := match Tryd.f90.body with | some c => c | none => .skip
theorem junctionref5_SoundExpr.hb : Tryd.f90.body = some junctionref5_SoundExpr.c := by kernel_rfl
noncomputable def junctionref5_SoundExpr.x (k : Nat) (ls : List (LamS κ)) : Ctx κ := mkCtx [junctionref3_Span.ent k, junctionref3_Nest.ent k, junctionref5_typed.ent k] [junctionref3_Span.qent k, junctionref3_Nest.qent k, junctionref5_typed.qent k] ls
def junctionref5_SoundExpr.i : List (Pat κ) := [.agg [.str, .ro .T42, .ro .T47, .ro .T110, .ro .T9, .ro .T9, .ro .T112, .ro .T98, .int .i64], .ro .T120, .int .i64]
def junctionref5_SoundExpr.s0 : Sh κ := ⟨0, [1], [.ro .T120], []⟩
def junctionref5_SoundExpr.o0 : List (Ex × Sh κ) := [(.ret, ⟨0, [6], [.bool], []⟩), (.normal, ⟨0, [], [], []⟩)]
noncomputable def junctionref5_SoundExpr.l0 (k : Nat) (t1 : List S120) : Option ((Bool × Unit) × Unit ⊕ Unit × Unit) :=
    if Decidable.decide ((↑(List.length t1) : Int) < (1 : Int)) = Bool.false then
      if Decidable.decide ((↑(List.length t1) : Int) > (256 : Int)) = Bool.false then
        Option.bind (Go.Am.Tryd.junctionref3_Span k t1 (Go.IntKind.wrap Go.IntKind.i64 ((↑(List.length t1) : Int) - (1 : Int)))) fun r0 =>
          if (Prod.fst r0 != (0 : Int)) = Bool.false then
            Option.bind (Go.Am.Tryd.junctionref3_Nest k t1) fun r1 =>
              if Decidable.decide (Prod.fst r1 > (64 : Int)) = Bool.true then Option.some (Sum.inl ((Bool.false, ()), ())) else Option.some (Sum.inr ((), ()))
          else Option.some (Sum.inl ((Bool.false, ()), ()))
      else Option.some (Sum.inl ((Bool.false, ()), ()))
    else Option.some (Sum.inl ((Bool.false, ()), ()))
def junctionref5_SoundExpr.w0 : List Nat := [8, 9, 10, 11, 12, 13, 14, 15, 16, 17, 18, 19, 20, 21, 22, 23, 24, 25, 26, 27, 28, 6]
noncomputable def junctionref5_SoundExpr.e0 (k : Nat) : junctionref5_SoundExpr.s0.den → Option (OutT junctionref5_SoundExpr.o0) := fun d => junctionref5_SoundExpr.l0 k d.1.1
noncomputable def junctionref5_SoundExpr.m0 (k : Nat) : LamS κ := ⟨lamK 39 junctionref5_SoundExpr.w0 junctionref5_SoundExpr.s0 junctionref5_SoundExpr.o0 (junctionref5_SoundExpr.e0 k)⟩
def junctionref5_SoundExpr.p : Pat κ := .bool
def junctionref5_SoundExpr.b : List (BPat κ) := []
noncomputable def junctionref5_SoundExpr (k : Nat) (t0 : ByteArray) (t0_1 : List S42) (t0_2 : List S47) (t0_3 : List S110) (t0_4 : List ByteArray) (t0_5 : List ByteArray) (t0_6 : List S112) (t0_7 : List S98) (t0_8 : Int) (t1 : List S120) (t2 : Int) : Option (Bool × Unit) :=
    Option.bind (Go.Am.Tryd.junctionref5_SoundExpr.l0 k t1) fun r0 =>
      Go.Am.onSum r0 (fun r1 => Option.some (Prod.fst (Prod.fst r1), ())) fun r1 =>
        Option.bind (Go.Am.Tryd.junctionref5_typed k t0 t0_1 t0_2 t0_3 t0_4 t0_5 t0_6 t0_7 t0_8 t1) fun r2 =>
          if (Prod.fst r2 != (0 : Int)) = Bool.true then Option.some (Prod.fst r2 == t2, ()) else Option.some (Bool.false, ())
noncomputable def junctionref5_SoundExpr.f (k : Nat) : dens junctionref5_SoundExpr.i → Option (junctionref5_SoundExpr.p.den × densB junctionref5_SoundExpr.b) := fun d => junctionref5_SoundExpr k d.1.1 d.1.2.1 d.1.2.2.1 d.1.2.2.2.1 d.1.2.2.2.2.1 d.1.2.2.2.2.2.1 d.1.2.2.2.2.2.2.1 d.1.2.2.2.2.2.2.2.1 d.1.2.2.2.2.2.2.2.2.1 d.2.1 d.2.2.1
noncomputable def junctionref5_SoundExpr.ctx (k : Nat) : Ctx κ := junctionref5_SoundExpr.x k [junctionref5_SoundExpr.m0 k]
theorem junctionref5_SoundExpr.xOk (k : Nat) : (junctionref5_SoundExpr.ctx k).Ok := ctxOk ⟨junctionref3_Span.entOk k, junctionref3_Nest.entOk k, junctionref5_typed.entOk k, trivial⟩ ⟨junctionref3_Span.qentOk k, junctionref3_Nest.qentOk k, junctionref5_typed.qentOk k, trivial⟩
theorem junctionref5_SoundExpr.k0 (k : Nat) : LamOk (junctionref5_SoundExpr.ctx k) ((junctionref5_SoundExpr.ctx k).Λ 0) (sub [1, 0] junctionref5_SoundExpr.c) :=
  cut_ok (kindOf := kindOf) (C := junctionref5_SoundExpr.ctx k) (n := .none) (L := junctionref5_SoundExpr.e0 k) (junctionref5_SoundExpr.xOk k) (by kernel_rfl) (by kernel_rfl) (fits_of (l := []) (by kernel_rfl) trivial) (fun _ => by kernel_rfl)
theorem junctionref5_SoundExpr.call (k : Nat) : CallV Tryd.prog E glob 90 junctionref5_SoundExpr.i junctionref5_SoundExpr.p junctionref5_SoundExpr.b (junctionref5_SoundExpr.f k) :=
  fn_okZ (kindOf := kindOf) (C := junctionref5_SoundExpr.ctx k) (n := (.pair (.ops [0] 0) (.pair (.cut 0) .none))) (junctionref5_SoundExpr.xOk k) Tryd.func90 junctionref5_SoundExpr.hb (fits_of (l := [(0, (sub [1, 0] junctionref5_SoundExpr.c))]) (by kernel_rfl) ⟨junctionref5_SoundExpr.k0 k, trivial⟩) (fun _ => by kernel_rfl)
noncomputable def junctionref5_SoundExpr.ent (k : Nat) : EntS κ := ⟨90, [], entOf junctionref5_SoundExpr.i junctionref5_SoundExpr.p junctionref5_SoundExpr.b true (junctionref5_SoundExpr.f k) E⟩
theorem junctionref5_SoundExpr.entOk (k : Nat) : EntOk Tryd.prog E glob 90 (junctionref5_SoundExpr.ent k).run := ent_free encOk (callable_of Tryd.func90 (by kernel_rfl) (by kernel_rfl)) (by rfl) trivial (junctionref5_SoundExpr.call k)
noncomputable def junctionref5_SoundExpr.qent (k : Nat) : QEntS κ := ⟨90, qentOf junctionref5_SoundExpr.i junctionref5_SoundExpr.p (junctionref5_SoundExpr.f k) E⟩
theorem junctionref5_SoundExpr.qentOk (k : Nat) : QEntOk Tryd.prog E glob 90 (junctionref5_SoundExpr.qent k).run := qent_ok encOk (callable_of Tryd.func90 (by kernel_rfl) (by kernel_rfl)) (junctionref5_SoundExpr.call k)
noncomputable def junctionref5_SoundList.c : Go.Code := match Tryd.f88.body with | some c => c | none => .skip
theorem junctionref5_SoundList.hb : Tryd.f88.body = some junctionref5_SoundList.c := by kernel_rfl
noncomputable def junctionref5_SoundList.x (k : Nat) (ls : List (LamS κ)) : Ctx κ := mkCtx [junctionref5_SoundExpr.ent k] [junctionref5_SoundExpr.qent k] ls
def junctionref5_SoundList.i : List (Pat κ) := [.agg [.str, .ro .T42, .ro .T47, .ro .T110, .ro .T9, .ro .T9, .ro .T112, .ro .T98, .int .i64], .ro .T165]
def junctionref5_SoundList.s7 : Sh κ := ⟨0, [1, 2, 5, 6], [.ro .T165, .rop [.str, .ro .T42, .ro .T47, .ro .T110, .ro .T9, .ro .T9, .ro .T112, .ro .T98, .int .i64], .own .T4 0, .int .i64], [.rows .T4]⟩
def junctionref5_SoundList.s6 : Sh κ := ⟨0, [1, 2, 5, 6], [.ro .T165, .rop [.str, .ro .T42, .ro .T47, .ro .T110, .ro .T9, .ro .T9, .ro .T112, .ro .T98, .int .i64], .own .T4 0, .int .i64], [.rows .T4]⟩
def junctionref5_SoundList.s0 : Sh κ := ⟨0, [7], [.ptr 0 0], [.raw 165 [.int .i64, .str, .int .i64, .ro .T120, .int .i64, .int .i64]]⟩
def junctionref5_SoundList.o0 : List (Ex × Sh κ) := [(.ret, ⟨1, [4], [.bool], [.raw 165 [.int .i64, .str, .int .i64, .ro .T120, .int .i64, .int .i64]]⟩), (.normal, ⟨1, [7], [.ptr 0 0], [.raw 165 [.int .i64, .str, .int .i64, .ro .T120, .int .i64, .int .i64]]⟩)]
noncomputable def junctionref5_SoundList.l0 (k : Nat) (b0 : Int) (b0_1 : ByteArray) (b0_2 : Int) (b0_3 : List S120) (b0_4 : Int) (b0_5 : Int) : Option ((Bool × Unit) × (Int × ByteArray × Int × List Go.Am.Tryd.S120 × Int × Int × Unit) × Unit ⊕
      (Unit × Unit) × (Int × ByteArray × Int × List Go.Am.Tryd.S120 × Int × Int × Unit) × Unit) :=
    if (!ByteArray.toList b0_1 == ByteArray.toList (ByteArray.mk #[])) = Bool.false then
      if (b0_4 != (0 : Int)) = Bool.false then
        if (b0_5 != (0 : Int)) = Bool.true then Option.some (Sum.inl ((Bool.false, ()), (b0, b0_1, b0_2, b0_3, b0_4, b0_5, ()), ()))
        else Option.some (Sum.inr (((), ()), (b0, b0_1, b0_2, b0_3, b0_4, b0_5, ()), ()))
      else Option.some (Sum.inl ((Bool.false, ()), (b0, b0_1, b0_2, b0_3, b0_4, b0_5, ()), ()))
    else Option.some (Sum.inl ((Bool.false, ()), (b0, b0_1, b0_2, b0_3, b0_4, b0_5, ()), ()))
def junctionref5_SoundList.w0 : List Nat := [23, 24, 25, 26, 27, 28, 29, 30, 31, 32, 33, 34, 35, 36, 37, 4]
noncomputable def junctionref5_SoundList.e0 (k : Nat) : junctionref5_SoundList.s0.den → Option (OutT junctionref5_SoundList.o0) := fun d => junctionref5_SoundList.l0 k d.2.1.1 d.2.1.2.1 d.2.1.2.2.1 d.2.1.2.2.2.1 d.2.1.2.2.2.2.1 d.2.1.2.2.2.2.2.1
noncomputable def junctionref5_SoundList.m0 (k : Nat) : LamS κ := ⟨lamK 126 junctionref5_SoundList.w0 junctionref5_SoundList.s0 junctionref5_SoundList.o0 (junctionref5_SoundList.e0 k)⟩
def junctionref5_SoundList.s4 : Sh κ := ⟨0, [2, 5, 7, 8, 9, 10], [.rop [.str, .ro .T42, .ro .T47, .ro .T110, .ro .T9, .ro .T9, .ro .T112, .ro .T98, .int .i64], .own .T4 0, .ptr 1 0, .int .i64, .int .i64, .int .i64], [.rows .T4, .raw 165 [.int .i64, .str, .int .i64, .ro .T120, .int .i64, .int .i64]]⟩
def junctionref5_SoundList.s1 : Sh κ := ⟨0, [39], [.int .i64], []⟩
def junctionref5_SoundList.o1 : List (Ex × Sh κ) := [(.normal, ⟨0, [45], [.bool], []⟩)]
noncomputable def junctionref5_SoundList.l1 (k : Nat) (t39 : Int) : Option ((Bool × Unit) × Unit) :=
    if (t39 == (2 : Int)) = Bool.true then Option.some ((Bool.true, ()), ())
    else if (t39 == (3 : Int)) = Bool.true then Option.some ((Bool.true, ()), ()) else Option.some ((t39 == (4 : Int), ()), ())
def junctionref5_SoundList.w1 : List Nat := [46, 45, 47, 48]
noncomputable def junctionref5_SoundList.e1 (k : Nat) : junctionref5_SoundList.s1.den → Option (OutT junctionref5_SoundList.o1) := fun d => junctionref5_SoundList.l1 k d.1.1
noncomputable def junctionref5_SoundList.m1 (k : Nat) : LamS κ := ⟨lamK 126 junctionref5_SoundList.w1 junctionref5_SoundList.s1 junctionref5_SoundList.o1 (junctionref5_SoundList.e1 k)⟩
def junctionref5_SoundList.s2 : Sh κ := ⟨0, [39], [.int .i64], []⟩
def junctionref5_SoundList.o2 : List (Ex × Sh κ) := [(.normal, ⟨0, [52], [.bool], []⟩)]
noncomputable def junctionref5_SoundList.l2 (k : Nat) (t39 : Int) : Option ((Bool × Unit) × Unit) :=
    if (t39 == (5 : Int)) = Bool.true then Option.some ((Bool.true, ()), ()) else Option.some ((t39 == (10 : Int), ()), ())
def junctionref5_SoundList.w2 : List Nat := [53, 52, 54]
noncomputable def junctionref5_SoundList.e2 (k : Nat) : junctionref5_SoundList.s2.den → Option (OutT junctionref5_SoundList.o2) := fun d => junctionref5_SoundList.l2 k d.1.1
noncomputable def junctionref5_SoundList.m2 (k : Nat) : LamS κ := ⟨lamK 126 junctionref5_SoundList.w2 junctionref5_SoundList.s2 junctionref5_SoundList.o2 (junctionref5_SoundList.e2 k)⟩
def junctionref5_SoundList.s3 : Sh κ := ⟨0, [5, 8], [.own .T4 0, .int .i64], [.rows .T4]⟩
def junctionref5_SoundList.o3 : List (Ex × Sh κ) := [(.ret, ⟨1, [4], [.bool], [.rows .T4]⟩), (.normal, ⟨1, [5], [.own .T4 0], [.rows .T4]⟩)]
noncomputable def junctionref5_SoundList.l3 (k : Nat) (t8 : Int) (b0 : List Bool) : Option ((Bool × Unit) × List Bool × Unit ⊕ (Unit × Unit) × List Bool × Unit) :=
    if (t8 == (0 : Int)) = Bool.false then
      if (0 : Int) ≤ Go.IntKind.wrap Go.IntKind.i64 (t8 - (1 : Int)) ∧ Go.IntKind.wrap Go.IntKind.i64 (t8 - (1 : Int)) < (↑(List.length b0) : Int) then
        if List.getD b0 (Int.toNat (Go.IntKind.wrap Go.IntKind.i64 (t8 - (1 : Int)))) Bool.false = Bool.true then Option.some (Sum.inl ((Bool.false, ()), b0, ()))
        else Option.some (Sum.inr (((), ()), b0, ()))
      else Option.none
    else Option.some (Sum.inl ((Bool.false, ()), b0, ()))
def junctionref5_SoundList.w3 : List Nat := [73, 74, 75, 76, 77, 78, 79, 80, 81, 4]
noncomputable def junctionref5_SoundList.e3 (k : Nat) : junctionref5_SoundList.s3.den → Option (OutT junctionref5_SoundList.o3) := fun d => junctionref5_SoundList.l3 k d.1.2.1 d.2.1
noncomputable def junctionref5_SoundList.m3 (k : Nat) : LamS κ := ⟨lamK 126 junctionref5_SoundList.w3 junctionref5_SoundList.s3 junctionref5_SoundList.o3 (junctionref5_SoundList.e3 k)⟩
def junctionref5_SoundList.o4 : List (Ex × Sh κ) := [(.normal, ⟨2, [5, 10, 7, 9], [.own .T4 0, .int .i64, .ptr 1 0, .int .i64], [.rows .T4, .raw 165 [.int .i64, .str, .int .i64, .ro .T120, .int .i64, .int .i64]]⟩), (.ret, ⟨2, [4], [.bool], [.rows .T4, .raw 165 [.int .i64, .str, .int .i64, .ro .T120, .int .i64, .int .i64]]⟩)]
noncomputable def junctionref5_SoundList.l4 (k : Nat) (t2 : ByteArray) (t2_1 : List S42) (t2_2 : List S47) (t2_3 : List S110) (t2_4 : List ByteArray) (t2_5 : List ByteArray) (t2_6 : List S112) (t2_7 : List S98) (t2_8 : Int) (t8 : Int) (t9 : Int) (t10 : Int) (b0 : List Bool) (b1 : Int) (b1_1 : ByteArray) (b1_2 : Int) (b1_3 : List S120) (b1_4 : Int) (b1_5 : Int) : Option ((Unit × Int × Unit × Int × Unit) × List Bool × (Int × ByteArray × Int × List Go.Am.Tryd.S120 × Int × Int × Unit) × Unit ⊕
      (Bool × Unit) × List Bool × (Int × ByteArray × Int × List Go.Am.Tryd.S120 × Int × Int × Unit) × Unit) :=
    if (b1 == (1 : Int)) = Bool.true then
      Option.some (Sum.inl (((), (1 : Int), (), (↑(List.length t2_6) : Int), ()), b0, (b1, b1_1, b1_2, b1_3, b1_4, b1_5, ()), ()))
    else
      Option.bind (Go.Am.Tryd.junctionref5_SoundList.l1 k b1) fun r0 =>
        if Prod.fst (Prod.fst r0) = Bool.true then
          Option.some (Sum.inl (((), t10, (), (↑(List.length t2_4) : Int), ()), b0, (b1, b1_1, b1_2, b1_3, b1_4, b1_5, ()), ()))
        else
          Option.bind (Go.Am.Tryd.junctionref5_SoundList.l2 k b1) fun r1 =>
            if Prod.fst (Prod.fst r1) = Bool.true then
              Option.some (Sum.inl (((), t10, (), (↑(List.length t2_5) : Int), ()), b0, (b1, b1_1, b1_2, b1_3, b1_4, b1_5, ()), ()))
            else
              if (b1 == (6 : Int)) = Bool.true then
                Option.some (Sum.inl (((), t10, (), (↑(List.length t2_3) : Int), ()), b0, (b1, b1_1, b1_2, b1_3, b1_4, b1_5, ()), ()))
              else
                if (b1 == (7 : Int)) = Bool.true then
                  Go.Am.room ((List.length b0 + List.length [Bool.false]) * (1 : Nat))
                    (if Decidable.decide ((↑(List.length (b0 ++ [Bool.false])) : Int) > (16 : Int)) = Bool.true then
                      Option.some (Sum.inr ((Bool.false, ()), b0 ++ [Bool.false], (b1, b1_1, b1_2, b1_3, b1_4, b1_5, ()), ()))
                    else Option.some (Sum.inl (((), (2 : Int), (), t9, ()), b0 ++ [Bool.false], (b1, b1_1, b1_2, b1_3, b1_4, b1_5, ()), ())))
                else
                  if (b1 == (8 : Int)) = Bool.true then
                    Option.bind (Go.Am.Tryd.junctionref5_SoundList.l3 k t8 b0) fun r2 =>
                      Go.Am.onSum r2
                        (fun r3 => Option.some (Sum.inr ((Prod.fst (Prod.fst r3), ()), Prod.fst (Prod.snd r3), (b1, b1_1, b1_2, b1_3, b1_4, b1_5, ()), ())))
                        fun r3 =>
                        if
                            (0 : Int) ≤ Go.IntKind.wrap Go.IntKind.i64 (t8 - (1 : Int)) ∧
                              Go.IntKind.wrap Go.IntKind.i64 (t8 - (1 : Int)) < (↑(List.length (Prod.fst (Prod.snd r3))) : Int) then
                          Option.some
                            (Sum.inl
                              (((), t10, (), t9, ()), List.set (Prod.fst (Prod.snd r3)) (Int.toNat (Go.IntKind.wrap Go.IntKind.i64 (t8 - (1 : Int)))) Bool.true,
                                (b1, b1_1, b1_2, b1_3, b1_4, b1_5, ()), ()))
                        else Option.none
                  else
                    if (b1 == (9 : Int)) = Bool.true then
                      if (t8 == (0 : Int)) = Bool.true then Option.some (Sum.inr ((Bool.false, ()), b0, (b1, b1_1, b1_2, b1_3, b1_4, b1_5, ()), ()))
                      else
                        if
                            (0 : Int) ≤ Go.IntKind.wrap Go.IntKind.i64 (t8 - (1 : Int)) ∧
                              Go.IntKind.wrap Go.IntKind.i64 (t8 - (1 : Int)) ≤ (↑(List.length b0) : Int) then
                          Option.some
                            (Sum.inl
                              (((), t10, (), t9, ()), List.take (Int.toNat (Go.IntKind.wrap Go.IntKind.i64 (t8 - (1 : Int)))) b0,
                                (b1, b1_1, b1_2, b1_3, b1_4, b1_5, ()), ()))
                        else Option.none
                    else Option.some (Sum.inr ((Bool.false, ()), b0, (b1, b1_1, b1_2, b1_3, b1_4, b1_5, ()), ()))
def junctionref5_SoundList.w4 : List Nat := [38, 39, 41, 40, 42, 43, 44, 9, 10, 46, 45, 47, 48, 49, 50, 51, 53, 52, 54, 55, 56, 57, 59, 58, 60, 61, 62, 64, 63, 65, 66, 67, 5, 68, 69, 70, 4, 72, 71, 73, 74, 75, 76, 77, 78, 79, 80, 81, 82, 83, 84, 85, 87, 86, 88, 89, 90, 91, 92, 93]
noncomputable def junctionref5_SoundList.e4 (k : Nat) : junctionref5_SoundList.s4.den → Option (OutT junctionref5_SoundList.o4) := fun d => junctionref5_SoundList.l4 k d.1.1.1 d.1.1.2.1 d.1.1.2.2.1 d.1.1.2.2.2.1 d.1.1.2.2.2.2.1 d.1.1.2.2.2.2.2.1 d.1.1.2.2.2.2.2.2.1 d.1.1.2.2.2.2.2.2.2.1 d.1.1.2.2.2.2.2.2.2.2.1 d.1.2.2.2.1 d.1.2.2.2.2.1 d.1.2.2.2.2.2.1 d.2.1 d.2.2.1.1 d.2.2.1.2.1 d.2.2.1.2.2.1 d.2.2.1.2.2.2.1 d.2.2.1.2.2.2.2.1 d.2.2.1.2.2.2.2.2.1
noncomputable def junctionref5_SoundList.m4 (k : Nat) : LamS κ := ⟨lamK 126 junctionref5_SoundList.w4 junctionref5_SoundList.s4 junctionref5_SoundList.o4 (junctionref5_SoundList.e4 k)⟩
def junctionref5_SoundList.s5 : Sh κ := ⟨0, [7, 9], [.ptr 0 0, .int .i64], [.raw 165 [.int .i64, .str, .int .i64, .ro .T120, .int .i64, .int .i64]]⟩
def junctionref5_SoundList.o5 : List (Ex × Sh κ) := [(.ret, ⟨1, [4], [.bool], [.raw 165 [.int .i64, .str, .int .i64, .ro .T120, .int .i64, .int .i64]]⟩), (.normal, ⟨1, [7], [.ptr 0 0], [.raw 165 [.int .i64, .str, .int .i64, .ro .T120, .int .i64, .int .i64]]⟩)]
noncomputable def junctionref5_SoundList.l5 (k : Nat) (t9 : Int) (b0 : Int) (b0_1 : ByteArray) (b0_2 : Int) (b0_3 : List S120) (b0_4 : Int) (b0_5 : Int) : Option ((Bool × Unit) × (Int × ByteArray × Int × List Go.Am.Tryd.S120 × Int × Int × Unit) × Unit ⊕
      (Unit × Unit) × (Int × ByteArray × Int × List Go.Am.Tryd.S120 × Int × Int × Unit) × Unit) :=
    if Decidable.decide (b0_2 < (0 : Int)) = Bool.false then
      if Decidable.decide (b0_2 ≥ t9) = Bool.true then Option.some (Sum.inl ((Bool.false, ()), (b0, b0_1, b0_2, b0_3, b0_4, b0_5, ()), ()))
      else Option.some (Sum.inr (((), ()), (b0, b0_1, b0_2, b0_3, b0_4, b0_5, ()), ()))
    else Option.some (Sum.inl ((Bool.false, ()), (b0, b0_1, b0_2, b0_3, b0_4, b0_5, ()), ()))
def junctionref5_SoundList.w5 : List Nat := [94, 95, 96, 97, 98, 99, 100, 101, 102, 4]
noncomputable def junctionref5_SoundList.e5 (k : Nat) : junctionref5_SoundList.s5.den → Option (OutT junctionref5_SoundList.o5) := fun d => junctionref5_SoundList.l5 k d.1.2.1 d.2.1.1 d.2.1.2.1 d.2.1.2.2.1 d.2.1.2.2.2.1 d.2.1.2.2.2.2.1 d.2.1.2.2.2.2.2.1
noncomputable def junctionref5_SoundList.m5 (k : Nat) : LamS κ := ⟨lamK 126 junctionref5_SoundList.w5 junctionref5_SoundList.s5 junctionref5_SoundList.o5 (junctionref5_SoundList.e5 k)⟩
def junctionref5_SoundList.o6 : List (Ex × Sh κ) := [(.ret, ⟨1, [4], [.bool], [.rows .T4]⟩), (.normal, ⟨1, [5], [.own .T4 0], [.rows .T4]⟩)]
noncomputable def junctionref5_SoundList.l6 (k : Nat) (t1 : List S165) (t2 : ByteArray) (t2_1 : List S42) (t2_2 : List S47) (t2_3 : List S110) (t2_4 : List ByteArray) (t2_5 : List ByteArray) (t2_6 : List S112) (t2_7 : List S98) (t2_8 : Int) (t6 : Int) (b0 : List Bool) : Option ((Bool × Unit) × List Bool × Unit ⊕ (Unit × Unit) × List Bool × Unit) :=
    if (0 : Int) ≤ t6 ∧ t6 < (↑(List.length t1) : Int) then
      Option.bind
        (Go.Am.Tryd.junctionref5_SoundList.l0 k
          (Go.Am.Tryd.S165.f0 (List.getD t1 (Int.toNat t6) (Go.Am.Tryd.S165.mk (0 : Int) ByteArray.empty (0 : Int) [] (0 : Int) (0 : Int))))
          (Go.Am.Tryd.S165.f1 (List.getD t1 (Int.toNat t6) (Go.Am.Tryd.S165.mk (0 : Int) ByteArray.empty (0 : Int) [] (0 : Int) (0 : Int))))
          (Go.Am.Tryd.S165.f2 (List.getD t1 (Int.toNat t6) (Go.Am.Tryd.S165.mk (0 : Int) ByteArray.empty (0 : Int) [] (0 : Int) (0 : Int))))
          (Go.Am.Tryd.S165.f3 (List.getD t1 (Int.toNat t6) (Go.Am.Tryd.S165.mk (0 : Int) ByteArray.empty (0 : Int) [] (0 : Int) (0 : Int))))
          (Go.Am.Tryd.S165.f4 (List.getD t1 (Int.toNat t6) (Go.Am.Tryd.S165.mk (0 : Int) ByteArray.empty (0 : Int) [] (0 : Int) (0 : Int))))
          (Go.Am.Tryd.S165.f5 (List.getD t1 (Int.toNat t6) (Go.Am.Tryd.S165.mk (0 : Int) ByteArray.empty (0 : Int) [] (0 : Int) (0 : Int)))))
        fun r0 =>
        Go.Am.onSum r0 (fun r1 => Option.some (Sum.inl ((Prod.fst (Prod.fst r1), ()), b0, ()))) fun r1 =>
          Option.bind
            (Go.Am.Tryd.junctionref5_SoundList.l4 k t2 t2_1 t2_2 t2_3 t2_4 t2_5 t2_6 t2_7 t2_8 (↑(List.length b0) : Int) (1 : Int) (0 : Int) b0
              (Prod.fst (Prod.fst (Prod.snd r1))) (Prod.fst (Prod.snd (Prod.fst (Prod.snd r1)))) (Prod.fst (Prod.snd (Prod.snd (Prod.fst (Prod.snd r1)))))
              (Prod.fst (Prod.snd (Prod.snd (Prod.snd (Prod.fst (Prod.snd r1)))))) (Prod.fst (Prod.snd (Prod.snd (Prod.snd (Prod.snd (Prod.fst (Prod.snd r1)))))))
              (Prod.fst (Prod.snd (Prod.snd (Prod.snd (Prod.snd (Prod.snd (Prod.fst (Prod.snd r1)))))))))
            fun r2 =>
            Go.Am.onSum r2
              (fun r3 =>
                Option.bind
                  (Go.Am.Tryd.junctionref5_SoundList.l5 k (Prod.fst (Prod.snd (Prod.snd (Prod.snd (Prod.fst r3))))) (Prod.fst (Prod.fst (Prod.snd (Prod.snd r3))))
                    (Prod.fst (Prod.snd (Prod.fst (Prod.snd (Prod.snd r3))))) (Prod.fst (Prod.snd (Prod.snd (Prod.fst (Prod.snd (Prod.snd r3))))))
                    (Prod.fst (Prod.snd (Prod.snd (Prod.snd (Prod.fst (Prod.snd (Prod.snd r3)))))))
                    (Prod.fst (Prod.snd (Prod.snd (Prod.snd (Prod.snd (Prod.fst (Prod.snd (Prod.snd r3))))))))
                    (Prod.fst (Prod.snd (Prod.snd (Prod.snd (Prod.snd (Prod.snd (Prod.fst (Prod.snd (Prod.snd r3))))))))))
                  fun r4 =>
                  Go.Am.onSum r4 (fun r5 => Option.some (Sum.inl ((Prod.fst (Prod.fst r5), ()), Prod.fst (Prod.snd r3), ()))) fun r5 =>
                    if (Prod.fst (Prod.snd (Prod.fst r3)) == (0 : Int)) = Bool.true then
                      if
                          Decidable.decide ((↑(List.length (Prod.fst (Prod.snd (Prod.snd (Prod.snd (Prod.fst (Prod.snd r5))))))) : Int) > (0 : Int)) =
                            Bool.false then
                        if (Prod.fst (Prod.snd (Prod.fst r3)) != (0 : Int)) = Bool.true then
                          Option.bind
                            (Go.Am.Tryd.junctionref5_SoundExpr k t2 t2_1 t2_2 t2_3 t2_4 t2_5 t2_6 t2_7 t2_8
                              (Prod.fst (Prod.snd (Prod.snd (Prod.snd (Prod.fst (Prod.snd r5)))))) (Prod.fst (Prod.snd (Prod.fst r3))))
                            fun r7 =>
                            if (!Prod.fst r7) = Bool.true then Option.some (Sum.inl ((Bool.false, ()), Prod.fst (Prod.snd r3), ()))
                            else Option.some (Sum.inr (((), ()), Prod.fst (Prod.snd r3), ()))
                        else Option.some (Sum.inr (((), ()), Prod.fst (Prod.snd r3), ()))
                      else Option.some (Sum.inl ((Bool.false, ()), Prod.fst (Prod.snd r3), ()))
                    else
                      if (Prod.fst (Prod.snd (Prod.fst r3)) != (0 : Int)) = Bool.true then
                        Option.bind
                          (Go.Am.Tryd.junctionref5_SoundExpr k t2 t2_1 t2_2 t2_3 t2_4 t2_5 t2_6 t2_7 t2_8
                            (Prod.fst (Prod.snd (Prod.snd (Prod.snd (Prod.fst (Prod.snd r5)))))) (Prod.fst (Prod.snd (Prod.fst r3))))
                          fun r6 =>
                          if (!Prod.fst r6) = Bool.true then Option.some (Sum.inl ((Bool.false, ()), Prod.fst (Prod.snd r3), ()))
                          else Option.some (Sum.inr (((), ()), Prod.fst (Prod.snd r3), ()))
                      else Option.some (Sum.inr (((), ()), Prod.fst (Prod.snd r3), ())))
              fun r3 => Option.some (Sum.inl ((Prod.fst (Prod.fst r3), ()), Prod.fst (Prod.snd r3), ()))
    else Option.none
def junctionref5_SoundList.w6 : List Nat := [17, 18, 19, 20, 7, 21, 22, 8, 23, 24, 25, 26, 27, 28, 29, 30, 31, 32, 33, 34, 35, 36, 37, 4, 9, 10, 38, 39, 41, 40, 42, 43, 44, 46, 45, 47, 48, 49, 50, 51, 53, 52, 54, 55, 56, 57, 59, 58, 60, 61, 62, 64, 63, 65, 66, 67, 5, 68, 69, 70, 72, 71, 73, 74, 75, 76, 77, 78, 79, 80, 81, 82, 83, 84, 85, 87, 86, 88, 89, 90, 91, 92, 93, 94, 95, 96, 97, 98, 99, 100, 101, 102, 103, 104, 105, 106, 107, 108, 109, 110, 111, 112, 113, 114, 115, 116, 117, 118, 119, 120, 121, 122]
noncomputable def junctionref5_SoundList.e6 (k : Nat) : junctionref5_SoundList.s6.den → Option (OutT junctionref5_SoundList.o6) := fun d => junctionref5_SoundList.l6 k d.1.1 d.1.2.1.1 d.1.2.1.2.1 d.1.2.1.2.2.1 d.1.2.1.2.2.2.1 d.1.2.1.2.2.2.2.1 d.1.2.1.2.2.2.2.2.1 d.1.2.1.2.2.2.2.2.2.1 d.1.2.1.2.2.2.2.2.2.2.1 d.1.2.1.2.2.2.2.2.2.2.2.1 d.1.2.2.2.1 d.2.1
noncomputable def junctionref5_SoundList.m6 (k : Nat) : LamS κ := ⟨lamK 126 junctionref5_SoundList.w6 junctionref5_SoundList.s6 junctionref5_SoundList.o6 (junctionref5_SoundList.e6 k)⟩
def junctionref5_SoundList.o7 : List (Ex × Sh κ) := [(.ret, ⟨1, [4], [.bool], [.rows .T4]⟩), (.exit 0, ⟨1, [5], [.own .T4 0], [.rows .T4]⟩)]
noncomputable def junctionref5_SoundList.l7 (k : Nat) : Nat → (List S165) → ByteArray → (List S42) → (List S47) → (List S110) → (List ByteArray) → (List ByteArray) → (List S112) → (List S98) → Int → Int → (List Bool) → Option ((Bool × Unit) × List Bool × Unit ⊕ (Unit × Unit) × List Bool × Unit)
  | 0, _, _, _, _, _, _, _, _, _, _, _, _ => none
  | j + 1, t1, t2, t2_1, t2_2, t2_3, t2_4, t2_5, t2_6, t2_7, t2_8, t6, b0 =>
    if Decidable.decide (t6 < (↑(List.length t1) : Int)) = Bool.true then
      Option.bind (Go.Am.Tryd.junctionref5_SoundList.l6 k t1 t2 t2_1 t2_2 t2_3 t2_4 t2_5 t2_6 t2_7 t2_8 t6 b0) fun r0 =>
        Go.Am.onSum r0 (fun r1 => Option.some (Sum.inl ((Prod.fst (Prod.fst r1), ()), Prod.fst (Prod.snd r1), ()))) fun r1 =>
          junctionref5_SoundList.l7 k j t1 t2 t2_1 t2_2 t2_3 t2_4 t2_5 t2_6 t2_7 t2_8 (Go.IntKind.wrap Go.IntKind.i64 (t6 + (1 : Int))) (Prod.fst (Prod.snd r1))
    else Option.some (Sum.inr (((), ()), b0, ()))
def junctionref5_SoundList.w7 : List Nat := [11, 12, 13, 14, 17, 18, 19, 20, 7, 21, 22, 8, 23, 24, 25, 26, 27, 28, 29, 30, 31, 32, 33, 34, 35, 36, 37, 4, 9, 10, 38, 39, 41, 40, 42, 43, 44, 46, 45, 47, 48, 49, 50, 51, 53, 52, 54, 55, 56, 57, 59, 58, 60, 61, 62, 64, 63, 65, 66, 67, 5, 68, 69, 70, 72, 71, 73, 74, 75, 76, 77, 78, 79, 80, 81, 82, 83, 84, 85, 87, 86, 88, 89, 90, 91, 92, 93, 94, 95, 96, 97, 98, 99, 100, 101, 102, 103, 104, 105, 106, 107, 108, 109, 110, 111, 112, 113, 114, 115, 116, 117, 118, 119, 120, 121, 122, 15, 16, 6]
noncomputable def junctionref5_SoundList.e7 (k j : Nat) : junctionref5_SoundList.s7.den → Option (OutT junctionref5_SoundList.o7) := fun d => junctionref5_SoundList.l7 k j d.1.1 d.1.2.1.1 d.1.2.1.2.1 d.1.2.1.2.2.1 d.1.2.1.2.2.2.1 d.1.2.1.2.2.2.2.1 d.1.2.1.2.2.2.2.2.1 d.1.2.1.2.2.2.2.2.2.1 d.1.2.1.2.2.2.2.2.2.2.1 d.1.2.1.2.2.2.2.2.2.2.2.1 d.1.2.2.2.1 d.2.1
noncomputable def junctionref5_SoundList.m7 (k : Nat) : LamS κ := ⟨lamK 126 junctionref5_SoundList.w7 junctionref5_SoundList.s7 junctionref5_SoundList.o7 (junctionref5_SoundList.e7 k k)⟩
def junctionref5_SoundList.p : Pat κ := .bool
def junctionref5_SoundList.b : List (BPat κ) := []
noncomputable def junctionref5_SoundList (k : Nat) (t0 : ByteArray) (t0_1 : List S42) (t0_2 : List S47) (t0_3 : List S110) (t0_4 : List ByteArray) (t0_5 : List ByteArray) (t0_6 : List S112) (t0_7 : List S98) (t0_8 : Int) (t1 : List S165) : Option (Bool × Unit) :=
    Option.bind (Go.Am.Tryd.junctionref5_SoundList.l7 k k t1 t0 t0_1 t0_2 t0_3 t0_4 t0_5 t0_6 t0_7 t0_8 (0 : Int) []) fun r0 =>
      Go.Am.onSum r0 (fun r1 => Option.some (Prod.fst (Prod.fst r1), ())) fun r1 => Option.some ((↑(List.length (Prod.fst (Prod.snd r1))) : Int) == (0 : Int), ())
noncomputable def junctionref5_SoundList.f (k : Nat) : dens junctionref5_SoundList.i → Option (junctionref5_SoundList.p.den × densB junctionref5_SoundList.b) := fun d => junctionref5_SoundList k d.1.1 d.1.2.1 d.1.2.2.1 d.1.2.2.2.1 d.1.2.2.2.2.1 d.1.2.2.2.2.2.1 d.1.2.2.2.2.2.2.1 d.1.2.2.2.2.2.2.2.1 d.1.2.2.2.2.2.2.2.2.1 d.2.1
noncomputable def junctionref5_SoundList.ctx (k : Nat) : Ctx κ := junctionref5_SoundList.x k [junctionref5_SoundList.m0 k, junctionref5_SoundList.m1 k, junctionref5_SoundList.m2 k, junctionref5_SoundList.m3 k, junctionref5_SoundList.m4 k, junctionref5_SoundList.m5 k, junctionref5_SoundList.m6 k, junctionref5_SoundList.m7 k]
theorem junctionref5_SoundList.xOk (k : Nat) : (junctionref5_SoundList.ctx k).Ok := ctxOk ⟨junctionref5_SoundExpr.entOk k, trivial⟩ ⟨junctionref5_SoundExpr.qentOk k, trivial⟩
theorem junctionref5_SoundList.k0 (k : Nat) : LamOk (junctionref5_SoundList.ctx k) ((junctionref5_SoundList.ctx k).Λ 0) (sub [1, 1, 0, 1, 0, 0, 1, 0, 0, 1, 1, 0] junctionref5_SoundList.c) :=
  cut_ok (kindOf := kindOf) (C := junctionref5_SoundList.ctx k) (n := .none) (L := junctionref5_SoundList.e0 k) (junctionref5_SoundList.xOk k) (by kernel_rfl) (by kernel_rfl) (fits_of (l := []) (by kernel_rfl) trivial) (fun _ => by kernel_rfl)
theorem junctionref5_SoundList.k1 (k : Nat) : LamOk (junctionref5_SoundList.ctx k) ((junctionref5_SoundList.ctx k).Λ 1) (sub [1, 1, 0, 1, 0, 0, 1, 0, 0, 1, 1, 1, 1, 1, 0, 1, 0, 1, 1, 0] junctionref5_SoundList.c) :=
  cut_ok (kindOf := kindOf) (C := junctionref5_SoundList.ctx k) (n := .none) (L := junctionref5_SoundList.e1 k) (junctionref5_SoundList.xOk k) (by kernel_rfl) (by kernel_rfl) (fits_of (l := []) (by kernel_rfl) trivial) (fun _ => by kernel_rfl)
theorem junctionref5_SoundList.k2 (k : Nat) : LamOk (junctionref5_SoundList.ctx k) ((junctionref5_SoundList.ctx k).Λ 2) (sub [1, 1, 0, 1, 0, 0, 1, 0, 0, 1, 1, 1, 1, 1, 0, 1, 0, 1, 1, 1, 1, 0] junctionref5_SoundList.c) :=
  cut_ok (kindOf := kindOf) (C := junctionref5_SoundList.ctx k) (n := .none) (L := junctionref5_SoundList.e2 k) (junctionref5_SoundList.xOk k) (by kernel_rfl) (by kernel_rfl) (fits_of (l := []) (by kernel_rfl) trivial) (fun _ => by kernel_rfl)
theorem junctionref5_SoundList.k3 (k : Nat) : LamOk (junctionref5_SoundList.ctx k) ((junctionref5_SoundList.ctx k).Λ 3) (sub [1, 1, 0, 1, 0, 0, 1, 0, 0, 1, 1, 1, 1, 1, 0, 1, 0, 1, 1, 1, 1, 1, 1, 1, 1, 1, 1, 1, 0, 0] junctionref5_SoundList.c) :=
  cut_ok (kindOf := kindOf) (C := junctionref5_SoundList.ctx k) (n := .none) (L := junctionref5_SoundList.e3 k) (junctionref5_SoundList.xOk k) (by kernel_rfl) (by kernel_rfl) (fits_of (l := []) (by kernel_rfl) trivial) (fun _ => by kernel_rfl)
theorem junctionref5_SoundList.k4 (k : Nat) : LamOk (junctionref5_SoundList.ctx k) ((junctionref5_SoundList.ctx k).Λ 4) (sub [1, 1, 0, 1, 0, 0, 1, 0, 0, 1, 1, 1, 1, 1, 0] junctionref5_SoundList.c) :=
  cut_ok (kindOf := kindOf) (C := junctionref5_SoundList.ctx k) (n := (.pair .none (.pair (.pair .none (.pair .none (.pair (.cut 1) (.pair .none (.pair (.cut 2) (.pair .none (.pair .none (.pair .none (.pair .none (.pair .none (.pair .none (.pair (.pair (.cut 3) .none) .none)))))))))))) .none))) (L := junctionref5_SoundList.e4 k) (junctionref5_SoundList.xOk k) (by kernel_rfl) (by kernel_rfl) (fits_of (l := [(1, (sub [1, 1, 0, 1, 0, 0, 1, 0, 0, 1, 1, 1, 1, 1, 0, 1, 0, 1, 1, 0] junctionref5_SoundList.c)), (2, (sub [1, 1, 0, 1, 0, 0, 1, 0, 0, 1, 1, 1, 1, 1, 0, 1, 0, 1, 1, 1, 1, 0] junctionref5_SoundList.c)), (3, (sub [1, 1, 0, 1, 0, 0, 1, 0, 0, 1, 1, 1, 1, 1, 0, 1, 0, 1, 1, 1, 1, 1, 1, 1, 1, 1, 1, 1, 0, 0] junctionref5_SoundList.c))]) (by kernel_rfl) ⟨junctionref5_SoundList.k1 k, junctionref5_SoundList.k2 k, junctionref5_SoundList.k3 k, trivial⟩) (fun _ => by kernel_rfl)
theorem junctionref5_SoundList.k5 (k : Nat) : LamOk (junctionref5_SoundList.ctx k) ((junctionref5_SoundList.ctx k).Λ 5) (sub [1, 1, 0, 1, 0, 0, 1, 0, 0, 1, 1, 1, 1, 1, 1, 0] junctionref5_SoundList.c) :=
  cut_ok (kindOf := kindOf) (C := junctionref5_SoundList.ctx k) (n := .none) (L := junctionref5_SoundList.e5 k) (junctionref5_SoundList.xOk k) (by kernel_rfl) (by kernel_rfl) (fits_of (l := []) (by kernel_rfl) trivial) (fun _ => by kernel_rfl)
theorem junctionref5_SoundList.k6 (k : Nat) : LamOk (junctionref5_SoundList.ctx k) ((junctionref5_SoundList.ctx k).Λ 6) (sub [1, 1, 0, 1, 0, 0, 1, 0] junctionref5_SoundList.c) :=
  cut_ok (kindOf := kindOf) (C := junctionref5_SoundList.ctx k) (n := (.pair (.pair .none (.pair .none (.pair (.cut 0) (.pair .none (.pair .none (.pair (.cut 4) (.pair (.cut 5) .none))))))) .none)) (L := junctionref5_SoundList.e6 k) (junctionref5_SoundList.xOk k) (by kernel_rfl) (by kernel_rfl) (fits_of (l := [(0, (sub [1, 1, 0, 1, 0, 0, 1, 0, 0, 1, 1, 0] junctionref5_SoundList.c)), (4, (sub [1, 1, 0, 1, 0, 0, 1, 0, 0, 1, 1, 1, 1, 1, 0] junctionref5_SoundList.c)), (5, (sub [1, 1, 0, 1, 0, 0, 1, 0, 0, 1, 1, 1, 1, 1, 1, 0] junctionref5_SoundList.c))]) (by kernel_rfl) ⟨junctionref5_SoundList.k0 k, junctionref5_SoundList.k4 k, junctionref5_SoundList.k5 k, trivial⟩) (fun _ => by kernel_rfl)
theorem junctionref5_SoundList.k7 (k : Nat) : LamOk (junctionref5_SoundList.ctx k) ((junctionref5_SoundList.ctx k).Λ 7) (.loop (sub [1, 1, 0, 1, 0, 0] junctionref5_SoundList.c)) :=
  loop_ok (kindOf := kindOf) (C := junctionref5_SoundList.ctx k) (n := (.pair .none (.pair (.cut 6) .none))) (L := junctionref5_SoundList.e7 k) (junctionref5_SoundList.xOk k) (by kernel_rfl) (by kernel_rfl) (fits_of (l := [(6, (sub [1, 1, 0, 1, 0, 0, 1, 0] junctionref5_SoundList.c))]) (by kernel_rfl) ⟨junctionref5_SoundList.k6 k, trivial⟩) (fun _ => by kernel_rfl) (fun _ _ => by kernel_rfl) k
theorem junctionref5_SoundList.call (k : Nat) : CallV Tryd.prog E glob 88 junctionref5_SoundList.i junctionref5_SoundList.p junctionref5_SoundList.b (junctionref5_SoundList.f k) :=
  fn_okZ (kindOf := kindOf) (C := junctionref5_SoundList.ctx k) (n := (.pair (.ops [0] 0) (.pair .none (.pair (.pair .none (.pair (.cut 7) .none)) .none)))) (junctionref5_SoundList.xOk k) Tryd.func88 junctionref5_SoundList.hb (fits_of (l := [(7, .loop (sub [1, 1, 0, 1, 0, 0] junctionref5_SoundList.c))]) (by kernel_rfl) ⟨junctionref5_SoundList.k7 k, trivial⟩) (fun _ => by kernel_rfl)
noncomputable def junctionref5_SoundList.ent (k : Nat) : EntS κ := ⟨88, [], entOf junctionref5_SoundList.i junctionref5_SoundList.p junctionref5_SoundList.b true (junctionref5_SoundList.f k) E⟩
theorem junctionref5_SoundList.entOk (k : Nat) : EntOk Tryd.prog E glob 88 (junctionref5_SoundList.ent k).run := ent_free encOk (callable_of Tryd.func88 (by kernel_rfl) (by kernel_rfl)) (by rfl) trivial (junctionref5_SoundList.call k)
noncomputable def junctionref5_SoundList.qent (k : Nat) : QEntS κ := ⟨88, qentOf junctionref5_SoundList.i junctionref5_SoundList.p (junctionref5_SoundList.f k) E⟩
theorem junctionref5_SoundList.qentOk (k : Nat) : QEntOk Tryd.prog E glob 88 (junctionref5_SoundList.qent k).run := qent_ok encOk (callable_of Tryd.func88 (by kernel_rfl) (by kernel_rfl)) (junctionref5_SoundList.call k)
noncomputable def junctionref5_nodes.c : Go.Code := match Tryd.f89.body with | some c => c | none => .skip
theorem junctionref5_nodes.hb : Tryd.f89.body = some junctionref5_nodes.c := by kernel_rfl
noncomputable def junctionref5_nodes.x (k : Nat) (ls : List (LamS κ)) : Ctx κ := mkCtx [] [] ls
def junctionref5_nodes.i : List (Pat κ) := [.ro .T165]
def junctionref5_nodes.s0 : Sh κ := ⟨0, [0, 3, 4], [.ro .T165, .int .i64, .int .i64], []⟩
def junctionref5_nodes.o0 : List (Ex × Sh κ) := [(.exit 0, ⟨0, [3], [.int .i64], []⟩)]
noncomputable def junctionref5_nodes.l0 (k : Nat) : Nat → (List S165) → Int → Int → Option ((Int × Unit) × Unit)
  | 0, _, _, _ => none
  | j + 1, t0, t3, t4 =>
    if Decidable.decide (t4 < (↑(List.length t0) : Int)) = Bool.true then
      if (0 : Int) ≤ t4 ∧ t4 < (↑(List.length t0) : Int) then
        junctionref5_nodes.l0 k j t0
          (Go.IntKind.wrap Go.IntKind.i64
            (t3 +
              (↑(List.length (Go.Am.Tryd.S165.f3 (List.getD t0 (Int.toNat t4) (Go.Am.Tryd.S165.mk (0 : Int) ByteArray.empty (0 : Int) [] (0 : Int) (0 : Int))))) :
                Int)))
          (Go.IntKind.wrap Go.IntKind.i64 (t4 + (1 : Int)))
      else Option.none
    else Option.some ((t3, ()), ())
def junctionref5_nodes.w0 : List Nat := [5, 6, 7, 8, 11, 12, 13, 14, 15, 16, 17, 18, 3, 9, 10, 4]
noncomputable def junctionref5_nodes.e0 (k j : Nat) : junctionref5_nodes.s0.den → Option (OutT junctionref5_nodes.o0) := fun d => junctionref5_nodes.l0 k j d.1.1 d.1.2.1 d.1.2.2.1
noncomputable def junctionref5_nodes.m0 (k : Nat) : LamS κ := ⟨lamK 20 junctionref5_nodes.w0 junctionref5_nodes.s0 junctionref5_nodes.o0 (junctionref5_nodes.e0 k k)⟩
def junctionref5_nodes.p : Pat κ := .int .i64
def junctionref5_nodes.b : List (BPat κ) := []
noncomputable def junctionref5_nodes (k : Nat) (t0 : List S165) : Option (Int × Unit) :=
    Option.bind (Go.Am.Tryd.junctionref5_nodes.l0 k k t0 (0 : Int) (0 : Int)) fun r0 => Option.some (Prod.fst (Prod.fst r0), ())
noncomputable def junctionref5_nodes.f (k : Nat) : dens junctionref5_nodes.i → Option (junctionref5_nodes.p.den × densB junctionref5_nodes.b) := fun d => junctionref5_nodes k d.1
noncomputable def junctionref5_nodes.ctx (k : Nat) : Ctx κ := junctionref5_nodes.x k [junctionref5_nodes.m0 k]
theorem junctionref5_nodes.xOk (k : Nat) : (junctionref5_nodes.ctx k).Ok := ctxOk trivial trivial
theorem junctionref5_nodes.k0 (k : Nat) : LamOk (junctionref5_nodes.ctx k) ((junctionref5_nodes.ctx k).Λ 0) (.loop (sub [1, 1, 0, 1, 0, 0] junctionref5_nodes.c)) :=
  loop_ok (kindOf := kindOf) (C := junctionref5_nodes.ctx k) (n := .none) (L := junctionref5_nodes.e0 k) (junctionref5_nodes.xOk k) (by kernel_rfl) (by kernel_rfl) (fits_of (l := []) (by kernel_rfl) trivial) (fun _ => by kernel_rfl) (fun _ _ => by kernel_rfl) k
theorem junctionref5_nodes.call (k : Nat) : CallV Tryd.prog E glob 89 junctionref5_nodes.i junctionref5_nodes.p junctionref5_nodes.b (junctionref5_nodes.f k) :=
  fn_okZ (kindOf := kindOf) (C := junctionref5_nodes.ctx k) (n := (.pair .none (.pair .none (.pair (.pair .none (.pair (.cut 0) .none)) .none)))) (junctionref5_nodes.xOk k) Tryd.func89 junctionref5_nodes.hb (fits_of (l := [(0, .loop (sub [1, 1, 0, 1, 0, 0] junctionref5_nodes.c))]) (by kernel_rfl) ⟨junctionref5_nodes.k0 k, trivial⟩) (fun _ => by kernel_rfl)
noncomputable def junctionref5_nodes.ent (k : Nat) : EntS κ := ⟨89, [], entOf junctionref5_nodes.i junctionref5_nodes.p junctionref5_nodes.b true (junctionref5_nodes.f k) E⟩
theorem junctionref5_nodes.entOk (k : Nat) : EntOk Tryd.prog E glob 89 (junctionref5_nodes.ent k).run := ent_free encOk (callable_of Tryd.func89 (by kernel_rfl) (by kernel_rfl)) (by rfl) trivial (junctionref5_nodes.call k)
noncomputable def junctionref5_nodes.qent (k : Nat) : QEntS κ := ⟨89, qentOf junctionref5_nodes.i junctionref5_nodes.p (junctionref5_nodes.f k) E⟩
theorem junctionref5_nodes.qentOk (k : Nat) : QEntOk Tryd.prog E glob 89 (junctionref5_nodes.qent k).run := qent_ok encOk (callable_of Tryd.func89 (by kernel_rfl) (by kernel_rfl)) (junctionref5_nodes.call k)
noncomputable def junctionref5_stages.c : Go.Code := match Tryd.f65.body with | some c => c | none => .skip
theorem junctionref5_stages.hb : Tryd.f65.body = some junctionref5_stages.c := by kernel_rfl
noncomputable def junctionref5_stages.x (k : Nat) (ls : List (LamS κ)) : Ctx κ := mkCtx [junctionref5_within.ent k, junctionref5_SoundExpr.ent k, junctionref5_SoundList.ent k, junctionref5_nodes.ent k] [junctionref5_within.qent k, junctionref5_SoundExpr.qent k, junctionref5_SoundList.qent k, junctionref5_nodes.qent k] ls
def junctionref5_stages.i : List (Pat κ) := [.agg [.str, .ro .T42, .ro .T47, .ro .T110, .ro .T9, .ro .T9, .ro .T112, .ro .T98, .int .i64]]
def junctionref5_stages.s5 : Sh κ := ⟨0, [1, 3, 4, 5, 6], [.rop [.str, .ro .T42, .ro .T47, .ro .T110, .ro .T9, .ro .T9, .ro .T112, .ro .T98, .int .i64], .int .i64, .int .i64, .int .i64, .int .i64], []⟩
def junctionref5_stages.s0 : Sh κ := ⟨0, [1, 6, 7], [.rop [.str, .ro .T42, .ro .T47, .ro .T110, .ro .T9, .ro .T9, .ro .T112, .ro .T98, .int .i64], .int .i64, .ptr 0 0], [.raw 98 [.str, .int .i64, .int .u64, .ro .T165, .ro .T165, .ro .T165, .ro .T95]]⟩
def junctionref5_stages.o0 : List (Ex × Sh κ) := [(.ret, ⟨1, [2], [.bool], [.raw 98 [.str, .int .i64, .int .u64, .ro .T165, .ro .T165, .ro .T165, .ro .T95]]⟩), (.normal, ⟨1, [7], [.ptr 0 0], [.raw 98 [.str, .int .i64, .int .u64, .ro .T165, .ro .T165, .ro .T165, .ro .T95]]⟩)]
noncomputable def junctionref5_stages.l0 (k : Nat) (t1 : ByteArray) (t1_1 : List S42) (t1_2 : List S47) (t1_3 : List S110) (t1_4 : List ByteArray) (t1_5 : List ByteArray) (t1_6 : List S112) (t1_7 : List S98) (t1_8 : Int) (t6 : Int) (b0 : ByteArray) (b0_1 : Int) (b0_2 : Int) (b0_3 : List S165) (b0_4 : List S165) (b0_5 : List S165) (b0_6 : List S95) : Option ((Bool × Unit) × (ByteArray × Int × Int × List Go.Am.Tryd.S165 × List Go.Am.Tryd.S165 × List Go.Am.Tryd.S165 × List Go.Am.Tryd.S95 × Unit) × Unit ⊕
      (Unit × Unit) × (ByteArray × Int × Int × List Go.Am.Tryd.S165 × List Go.Am.Tryd.S165 × List Go.Am.Tryd.S165 × List Go.Am.Tryd.S95 × Unit) × Unit) :=
    Option.bind (Go.Am.Tryd.junctionref5_within k b0_1 (0 : Int) (255 : Int)) fun r0 =>
      if (!Prod.fst r0) = Bool.false then
        if Decidable.decide (t6 > (0 : Int)) = Bool.true then
          if (0 : Int) ≤ Go.IntKind.wrap Go.IntKind.i64 (t6 - (1 : Int)) ∧ Go.IntKind.wrap Go.IntKind.i64 (t6 - (1 : Int)) < (↑(List.length t1_7) : Int) then
            if
                Decidable.decide
                    (b0_1 ≤
                      Go.Am.Tryd.S98.f1
                        (List.getD t1_7 (Int.toNat (Go.IntKind.wrap Go.IntKind.i64 (t6 - (1 : Int))))
                          (Go.Am.Tryd.S98.mk ByteArray.empty (0 : Int) (0 : Int) [] [] [] []))) =
                  Bool.true then
              Option.some (Sum.inl ((Bool.false, ()), (b0, b0_1, b0_2, b0_3, b0_4, b0_5, b0_6, ()), ()))
            else Option.some (Sum.inr (((), ()), (b0, b0_1, b0_2, b0_3, b0_4, b0_5, b0_6, ()), ()))
          else Option.none
        else Option.some (Sum.inr (((), ()), (b0, b0_1, b0_2, b0_3, b0_4, b0_5, b0_6, ()), ()))
      else Option.some (Sum.inl ((Bool.false, ()), (b0, b0_1, b0_2, b0_3, b0_4, b0_5, b0_6, ()), ()))
def junctionref5_stages.w0 : List Nat := [23, 24, 25, 26, 27, 28, 29, 30, 31, 32, 33, 34, 35, 36, 37, 38, 39, 40, 41, 42, 2]
noncomputable def junctionref5_stages.e0 (k : Nat) : junctionref5_stages.s0.den → Option (OutT junctionref5_stages.o0) := fun d => junctionref5_stages.l0 k d.1.1.1 d.1.1.2.1 d.1.1.2.2.1 d.1.1.2.2.2.1 d.1.1.2.2.2.2.1 d.1.1.2.2.2.2.2.1 d.1.1.2.2.2.2.2.2.1 d.1.1.2.2.2.2.2.2.2.1 d.1.1.2.2.2.2.2.2.2.2.1 d.1.2.1 d.2.1.1 d.2.1.2.1 d.2.1.2.2.1 d.2.1.2.2.2.1 d.2.1.2.2.2.2.1 d.2.1.2.2.2.2.2.1 d.2.1.2.2.2.2.2.2.1
noncomputable def junctionref5_stages.m0 (k : Nat) : LamS κ := ⟨lamK 157 junctionref5_stages.w0 junctionref5_stages.s0 junctionref5_stages.o0 (junctionref5_stages.e0 k)⟩
def junctionref5_stages.s1 : Sh κ := ⟨0, [7, 8], [.ptr 0 0, .int .i64], [.raw 98 [.str, .int .i64, .int .u64, .ro .T165, .ro .T165, .ro .T165, .ro .T95]]⟩
def junctionref5_stages.o1 : List (Ex × Sh κ) := [(.normal, ⟨1, [7], [.ptr 0 0], [.raw 98 [.str, .int .i64, .int .u64, .ro .T165, .ro .T165, .ro .T165, .ro .T95]]⟩), (.ret, ⟨1, [2], [.bool], [.raw 98 [.str, .int .i64, .int .u64, .ro .T165, .ro .T165, .ro .T165, .ro .T95]]⟩)]
noncomputable def junctionref5_stages.l1 (k : Nat) (t8 : Int) (b0 : ByteArray) (b0_1 : Int) (b0_2 : Int) (b0_3 : List S165) (b0_4 : List S165) (b0_5 : List S165) (b0_6 : List S95) : Option ((Unit × Unit) × (ByteArray × Int × Int × List Go.Am.Tryd.S165 × List Go.Am.Tryd.S165 × List Go.Am.Tryd.S165 × List Go.Am.Tryd.S95 × Unit) × Unit ⊕
      (Bool × Unit) × (ByteArray × Int × Int × List Go.Am.Tryd.S165 × List Go.Am.Tryd.S165 × List Go.Am.Tryd.S165 × List Go.Am.Tryd.S95 × Unit) × Unit) :=
    if Decidable.decide (t8 < (64 : Int)) = Bool.true then
      if t8 < (0 : Int) then Option.none
      else
        if (Go.Am.shr Go.IntKind.u64 b0_2 t8 != (0 : Int)) = Bool.true then
          Option.some (Sum.inr ((Bool.false, ()), (b0, b0_1, b0_2, b0_3, b0_4, b0_5, b0_6, ()), ()))
        else Option.some (Sum.inl (((), ()), (b0, b0_1, b0_2, b0_3, b0_4, b0_5, b0_6, ()), ()))
    else Option.some (Sum.inl (((), ()), (b0, b0_1, b0_2, b0_3, b0_4, b0_5, b0_6, ()), ()))
def junctionref5_stages.w1 : List Nat := [47, 48, 49, 50, 51, 52, 53, 54, 55, 2]
noncomputable def junctionref5_stages.e1 (k : Nat) : junctionref5_stages.s1.den → Option (OutT junctionref5_stages.o1) := fun d => junctionref5_stages.l1 k d.1.2.1 d.2.1.1 d.2.1.2.1 d.2.1.2.2.1 d.2.1.2.2.2.1 d.2.1.2.2.2.2.1 d.2.1.2.2.2.2.2.1 d.2.1.2.2.2.2.2.2.1
noncomputable def junctionref5_stages.m1 (k : Nat) : LamS κ := ⟨lamK 157 junctionref5_stages.w1 junctionref5_stages.s1 junctionref5_stages.o1 (junctionref5_stages.e1 k)⟩
def junctionref5_stages.s2 : Sh κ := ⟨0, [1, 7], [.rop [.str, .ro .T42, .ro .T47, .ro .T110, .ro .T9, .ro .T9, .ro .T112, .ro .T98, .int .i64], .ptr 0 0], [.raw 98 [.str, .int .i64, .int .u64, .ro .T165, .ro .T165, .ro .T165, .ro .T95]]⟩
def junctionref5_stages.o2 : List (Ex × Sh κ) := [(.ret, ⟨1, [2], [.bool], [.raw 98 [.str, .int .i64, .int .u64, .ro .T165, .ro .T165, .ro .T165, .ro .T95]]⟩), (.normal, ⟨1, [7], [.ptr 0 0], [.raw 98 [.str, .int .i64, .int .u64, .ro .T165, .ro .T165, .ro .T165, .ro .T95]]⟩)]
noncomputable def junctionref5_stages.l2 (k : Nat) (t1 : ByteArray) (t1_1 : List S42) (t1_2 : List S47) (t1_3 : List S110) (t1_4 : List ByteArray) (t1_5 : List ByteArray) (t1_6 : List S112) (t1_7 : List S98) (t1_8 : Int) (b0 : ByteArray) (b0_1 : Int) (b0_2 : Int) (b0_3 : List S165) (b0_4 : List S165) (b0_5 : List S165) (b0_6 : List S95) : Option ((Bool × Unit) × (ByteArray × Int × Int × List Go.Am.Tryd.S165 × List Go.Am.Tryd.S165 × List Go.Am.Tryd.S165 × List Go.Am.Tryd.S95 × Unit) × Unit ⊕
      (Unit × Unit) × (ByteArray × Int × Int × List Go.Am.Tryd.S165 × List Go.Am.Tryd.S165 × List Go.Am.Tryd.S165 × List Go.Am.Tryd.S95 × Unit) × Unit) :=
    Option.bind (Go.Am.Tryd.junctionref5_SoundList k t1 t1_1 t1_2 t1_3 t1_4 t1_5 t1_6 t1_7 t1_8 b0_3) fun r0 =>
      if (!Prod.fst r0) = Bool.false then
        Option.bind (Go.Am.Tryd.junctionref5_SoundList k t1 t1_1 t1_2 t1_3 t1_4 t1_5 t1_6 t1_7 t1_8 b0_4) fun r1 =>
          if (!Prod.fst r1) = Bool.false then
            Option.bind (Go.Am.Tryd.junctionref5_SoundList k t1 t1_1 t1_2 t1_3 t1_4 t1_5 t1_6 t1_7 t1_8 b0_5) fun r2 =>
              if (!Prod.fst r2) = Bool.true then Option.some (Sum.inl ((Bool.false, ()), (b0, b0_1, b0_2, b0_3, b0_4, b0_5, b0_6, ()), ()))
              else Option.some (Sum.inr (((), ()), (b0, b0_1, b0_2, b0_3, b0_4, b0_5, b0_6, ()), ()))
          else Option.some (Sum.inl ((Bool.false, ()), (b0, b0_1, b0_2, b0_3, b0_4, b0_5, b0_6, ()), ()))
      else Option.some (Sum.inl ((Bool.false, ()), (b0, b0_1, b0_2, b0_3, b0_4, b0_5, b0_6, ()), ()))
def junctionref5_stages.w2 : List Nat := [56, 57, 58, 59, 60, 61, 62, 63, 64, 65, 66, 67, 68, 69, 70, 71, 72, 73, 74, 2]
noncomputable def junctionref5_stages.e2 (k : Nat) : junctionref5_stages.s2.den → Option (OutT junctionref5_stages.o2) := fun d => junctionref5_stages.l2 k d.1.1.1 d.1.1.2.1 d.1.1.2.2.1 d.1.1.2.2.2.1 d.1.1.2.2.2.2.1 d.1.1.2.2.2.2.2.1 d.1.1.2.2.2.2.2.2.1 d.1.1.2.2.2.2.2.2.2.1 d.1.1.2.2.2.2.2.2.2.2.1 d.2.1.1 d.2.1.2.1 d.2.1.2.2.1 d.2.1.2.2.2.1 d.2.1.2.2.2.2.1 d.2.1.2.2.2.2.2.1 d.2.1.2.2.2.2.2.2.1
noncomputable def junctionref5_stages.m2 (k : Nat) : LamS κ := ⟨lamK 157 junctionref5_stages.w2 junctionref5_stages.s2 junctionref5_stages.o2 (junctionref5_stages.e2 k)⟩
def junctionref5_stages.s4 : Sh κ := ⟨0, [1, 5, 6, 7, 9], [.rop [.str, .ro .T42, .ro .T47, .ro .T110, .ro .T9, .ro .T9, .ro .T112, .ro .T98, .int .i64], .int .i64, .int .i64, .ptr 0 0, .int .i64], [.raw 98 [.str, .int .i64, .int .u64, .ro .T165, .ro .T165, .ro .T165, .ro .T95]]⟩
def junctionref5_stages.s3 : Sh κ := ⟨0, [1, 6, 10], [.rop [.str, .ro .T42, .ro .T47, .ro .T110, .ro .T9, .ro .T9, .ro .T112, .ro .T98, .int .i64], .int .i64, .ptr 0 0], [.raw 95 [.int .i64, .ro .T120]]⟩
def junctionref5_stages.o3 : List (Ex × Sh κ) := [(.ret, ⟨1, [2], [.bool], [.raw 95 [.int .i64, .ro .T120]]⟩), (.normal, ⟨1, [10], [.ptr 0 0], [.raw 95 [.int .i64, .ro .T120]]⟩)]
noncomputable def junctionref5_stages.l3 (k : Nat) (t1 : ByteArray) (t1_1 : List S42) (t1_2 : List S47) (t1_3 : List S110) (t1_4 : List ByteArray) (t1_5 : List ByteArray) (t1_6 : List S112) (t1_7 : List S98) (t1_8 : Int) (t6 : Int) (b0 : Int) (b0_1 : List S120) : Option ((Bool × Unit) × (Int × List Go.Am.Tryd.S120 × Unit) × Unit ⊕ (Unit × Unit) × (Int × List Go.Am.Tryd.S120 × Unit) × Unit) :=
    if Decidable.decide (b0 < (0 : Int)) = Bool.false then
      if Decidable.decide (b0 ≥ (↑(List.length t1_7) : Int)) = Bool.false then
        if (b0 == t6) = Bool.false then
          Option.bind (Go.Am.Tryd.junctionref5_SoundExpr k t1 t1_1 t1_2 t1_3 t1_4 t1_5 t1_6 t1_7 t1_8 b0_1 (2 : Int)) fun r0 =>
            if (!Prod.fst r0) = Bool.true then Option.some (Sum.inl ((Bool.false, ()), (b0, b0_1, ()), ()))
            else Option.some (Sum.inr (((), ()), (b0, b0_1, ()), ()))
        else Option.some (Sum.inl ((Bool.false, ()), (b0, b0_1, ()), ()))
      else Option.some (Sum.inl ((Bool.false, ()), (b0, b0_1, ()), ()))
    else Option.some (Sum.inl ((Bool.false, ()), (b0, b0_1, ()), ()))
def junctionref5_stages.w3 : List Nat := [118, 119, 120, 121, 122, 123, 124, 125, 126, 127, 128, 129, 130, 131, 132, 133, 134, 135, 136, 137, 138, 139, 140, 141, 2]
noncomputable def junctionref5_stages.e3 (k : Nat) : junctionref5_stages.s3.den → Option (OutT junctionref5_stages.o3) := fun d => junctionref5_stages.l3 k d.1.1.1 d.1.1.2.1 d.1.1.2.2.1 d.1.1.2.2.2.1 d.1.1.2.2.2.2.1 d.1.1.2.2.2.2.2.1 d.1.1.2.2.2.2.2.2.1 d.1.1.2.2.2.2.2.2.2.1 d.1.1.2.2.2.2.2.2.2.2.1 d.1.2.1 d.2.1.1 d.2.1.2.1
noncomputable def junctionref5_stages.m3 (k : Nat) : LamS κ := ⟨lamK 157 junctionref5_stages.w3 junctionref5_stages.s3 junctionref5_stages.o3 (junctionref5_stages.e3 k)⟩
def junctionref5_stages.o4 : List (Ex × Sh κ) := [(.ret, ⟨1, [2], [.bool], [.raw 98 [.str, .int .i64, .int .u64, .ro .T165, .ro .T165, .ro .T165, .ro .T95]]⟩), (.exit 2, ⟨1, [5], [.int .i64], [.raw 98 [.str, .int .i64, .int .u64, .ro .T165, .ro .T165, .ro .T165, .ro .T95]]⟩)]
noncomputable def junctionref5_stages.l4 (k : Nat) : Nat → ByteArray → (List S42) → (List S47) → (List S110) → (List ByteArray) → (List ByteArray) → (List S112) → (List S98) → Int → Int → Int → Int → ByteArray → Int → Int → (List S165) → (List S165) → (List S165) → (List S95) → Option ((Bool × Unit) × (ByteArray × Int × Int × List Go.Am.Tryd.S165 × List Go.Am.Tryd.S165 × List Go.Am.Tryd.S165 × List Go.Am.Tryd.S95 × Unit) × Unit ⊕
      (Int × Unit) × (ByteArray × Int × Int × List Go.Am.Tryd.S165 × List Go.Am.Tryd.S165 × List Go.Am.Tryd.S165 × List Go.Am.Tryd.S95 × Unit) × Unit)
  | 0, _, _, _, _, _, _, _, _, _, _, _, _, _, _, _, _, _, _, _ => none
  | j + 1, t1, t1_1, t1_2, t1_3, t1_4, t1_5, t1_6, t1_7, t1_8, t5, t6, t9, b0, b0_1, b0_2, b0_3, b0_4, b0_5, b0_6 =>
    if Decidable.decide (t9 < (↑(List.length b0_6) : Int)) = Bool.true then
      if (0 : Int) ≤ t9 ∧ t9 < (↑(List.length b0_6) : Int) then
        Option.bind
          (Go.Am.Tryd.junctionref5_stages.l3 k t1 t1_1 t1_2 t1_3 t1_4 t1_5 t1_6 t1_7 t1_8 t6
            (Go.Am.Tryd.S95.f0 (List.getD b0_6 (Int.toNat t9) (Go.Am.Tryd.S95.mk (0 : Int) [])))
            (Go.Am.Tryd.S95.f1 (List.getD b0_6 (Int.toNat t9) (Go.Am.Tryd.S95.mk (0 : Int) []))))
          fun r0 =>
          Go.Am.onSum r0 (fun r1 => Option.some (Sum.inl ((Prod.fst (Prod.fst r1), ()), (b0, b0_1, b0_2, b0_3, b0_4, b0_5, b0_6, ()), ()))) fun r1 =>
            junctionref5_stages.l4 k j t1 t1_1 t1_2 t1_3 t1_4 t1_5 t1_6 t1_7 t1_8
              (Go.IntKind.wrap Go.IntKind.i64 (t5 + (↑(List.length (Prod.fst (Prod.snd (Prod.fst (Prod.snd r1))))) : Int))) t6
              (Go.IntKind.wrap Go.IntKind.i64 (t9 + (1 : Int))) b0 b0_1 b0_2 b0_3 b0_4 b0_5 b0_6
      else Option.none
    else Option.some (Sum.inr ((t5, ()), (b0, b0_1, b0_2, b0_3, b0_4, b0_5, b0_6, ()), ()))
def junctionref5_stages.w4 : List Nat := [106, 107, 108, 109, 110, 113, 114, 115, 116, 117, 10, 118, 119, 120, 121, 122, 123, 124, 125, 126, 127, 128, 129, 130, 131, 132, 133, 134, 135, 136, 137, 138, 139, 140, 141, 2, 142, 143, 144, 145, 146, 5, 111, 112, 9]
noncomputable def junctionref5_stages.e4 (k j : Nat) : junctionref5_stages.s4.den → Option (OutT junctionref5_stages.o4) := fun d => junctionref5_stages.l4 k j d.1.1.1 d.1.1.2.1 d.1.1.2.2.1 d.1.1.2.2.2.1 d.1.1.2.2.2.2.1 d.1.1.2.2.2.2.2.1 d.1.1.2.2.2.2.2.2.1 d.1.1.2.2.2.2.2.2.2.1 d.1.1.2.2.2.2.2.2.2.2.1 d.1.2.1 d.1.2.2.1 d.1.2.2.2.2.1 d.2.1.1 d.2.1.2.1 d.2.1.2.2.1 d.2.1.2.2.2.1 d.2.1.2.2.2.2.1 d.2.1.2.2.2.2.2.1 d.2.1.2.2.2.2.2.2.1
noncomputable def junctionref5_stages.m4 (k : Nat) : LamS κ := ⟨lamK 157 junctionref5_stages.w4 junctionref5_stages.s4 junctionref5_stages.o4 (junctionref5_stages.e4 k k)⟩
def junctionref5_stages.o5 : List (Ex × Sh κ) := [(.ret, ⟨0, [2], [.bool], []⟩), (.exit 0, ⟨0, [5, 4, 3], [.int .i64, .int .i64, .int .i64], []⟩)]
noncomputable def junctionref5_stages.l5 (k : Nat) : Nat → ByteArray → (List S42) → (List S47) → (List S110) → (List ByteArray) → (List ByteArray) → (List S112) → (List S98) → Int → Int → Int → Int → Int → Option ((Bool × Unit) × Unit ⊕ (Int × Int × Int × Unit) × Unit)
  | 0, _, _, _, _, _, _, _, _, _, _, _, _, _ => none
  | j + 1, t1, t1_1, t1_2, t1_3, t1_4, t1_5, t1_6, t1_7, t1_8, t3, t4, t5, t6 =>
    if Decidable.decide (t6 < (↑(List.length t1_7) : Int)) = Bool.true then
      if (0 : Int) ≤ t6 ∧ t6 < (↑(List.length t1_7) : Int) then
        Option.bind
          (Go.Am.Tryd.junctionref5_stages.l0 k t1 t1_1 t1_2 t1_3 t1_4 t1_5 t1_6 t1_7 t1_8 t6
            (Go.Am.Tryd.S98.f0 (List.getD t1_7 (Int.toNat t6) (Go.Am.Tryd.S98.mk ByteArray.empty (0 : Int) (0 : Int) [] [] [] [])))
            (Go.Am.Tryd.S98.f1 (List.getD t1_7 (Int.toNat t6) (Go.Am.Tryd.S98.mk ByteArray.empty (0 : Int) (0 : Int) [] [] [] [])))
            (Go.Am.Tryd.S98.f2 (List.getD t1_7 (Int.toNat t6) (Go.Am.Tryd.S98.mk ByteArray.empty (0 : Int) (0 : Int) [] [] [] [])))
            (Go.Am.Tryd.S98.f3 (List.getD t1_7 (Int.toNat t6) (Go.Am.Tryd.S98.mk ByteArray.empty (0 : Int) (0 : Int) [] [] [] [])))
            (Go.Am.Tryd.S98.f4 (List.getD t1_7 (Int.toNat t6) (Go.Am.Tryd.S98.mk ByteArray.empty (0 : Int) (0 : Int) [] [] [] [])))
            (Go.Am.Tryd.S98.f5 (List.getD t1_7 (Int.toNat t6) (Go.Am.Tryd.S98.mk ByteArray.empty (0 : Int) (0 : Int) [] [] [] [])))
            (Go.Am.Tryd.S98.f6 (List.getD t1_7 (Int.toNat t6) (Go.Am.Tryd.S98.mk ByteArray.empty (0 : Int) (0 : Int) [] [] [] []))))
          fun r0 =>
          Go.Am.onSum r0 (fun r1 => Option.some (Sum.inl ((Prod.fst (Prod.fst r1), ()), ()))) fun r1 =>
            Option.bind
              (Go.Am.Tryd.junctionref5_stages.l1 k (↑(List.length t1_1) : Int) (Prod.fst (Prod.fst (Prod.snd r1))) (Prod.fst (Prod.snd (Prod.fst (Prod.snd r1))))
                (Prod.fst (Prod.snd (Prod.snd (Prod.fst (Prod.snd r1))))) (Prod.fst (Prod.snd (Prod.snd (Prod.snd (Prod.fst (Prod.snd r1))))))
                (Prod.fst (Prod.snd (Prod.snd (Prod.snd (Prod.snd (Prod.fst (Prod.snd r1)))))))
                (Prod.fst (Prod.snd (Prod.snd (Prod.snd (Prod.snd (Prod.snd (Prod.fst (Prod.snd r1))))))))
                (Prod.fst (Prod.snd (Prod.snd (Prod.snd (Prod.snd (Prod.snd (Prod.snd (Prod.fst (Prod.snd r1))))))))))
              fun r2 =>
              Go.Am.onSum r2
                (fun r3 =>
                  Option.bind
                    (Go.Am.Tryd.junctionref5_stages.l2 k t1 t1_1 t1_2 t1_3 t1_4 t1_5 t1_6 t1_7 t1_8 (Prod.fst (Prod.fst (Prod.snd r3)))
                      (Prod.fst (Prod.snd (Prod.fst (Prod.snd r3)))) (Prod.fst (Prod.snd (Prod.snd (Prod.fst (Prod.snd r3)))))
                      (Prod.fst (Prod.snd (Prod.snd (Prod.snd (Prod.fst (Prod.snd r3))))))
                      (Prod.fst (Prod.snd (Prod.snd (Prod.snd (Prod.snd (Prod.fst (Prod.snd r3)))))))
                      (Prod.fst (Prod.snd (Prod.snd (Prod.snd (Prod.snd (Prod.snd (Prod.fst (Prod.snd r3))))))))
                      (Prod.fst (Prod.snd (Prod.snd (Prod.snd (Prod.snd (Prod.snd (Prod.snd (Prod.fst (Prod.snd r3))))))))))
                    fun r4 =>
                    Go.Am.onSum r4 (fun r5 => Option.some (Sum.inl ((Prod.fst (Prod.fst r5), ()), ()))) fun r5 =>
                      Option.bind (Go.Am.Tryd.junctionref5_nodes k (Prod.fst (Prod.snd (Prod.snd (Prod.snd (Prod.fst (Prod.snd r5))))))) fun r6 =>
                        Option.bind (Go.Am.Tryd.junctionref5_nodes k (Prod.fst (Prod.snd (Prod.snd (Prod.snd (Prod.snd (Prod.fst (Prod.snd r5)))))))) fun r7 =>
                          Option.bind (Go.Am.Tryd.junctionref5_nodes k (Prod.fst (Prod.snd (Prod.snd (Prod.snd (Prod.snd (Prod.snd (Prod.fst (Prod.snd r5)))))))))
                            fun r8 =>
                            Option.bind
                              (Go.Am.Tryd.junctionref5_stages.l4 k k t1 t1_1 t1_2 t1_3 t1_4 t1_5 t1_6 t1_7 t1_8
                                (Go.IntKind.wrap Go.IntKind.i64
                                  (Go.IntKind.wrap Go.IntKind.i64 (Go.IntKind.wrap Go.IntKind.i64 (t5 + Prod.fst r6) + Prod.fst r7) + Prod.fst r8))
                                t6 (0 : Int) (Prod.fst (Prod.fst (Prod.snd r5))) (Prod.fst (Prod.snd (Prod.fst (Prod.snd r5))))
                                (Prod.fst (Prod.snd (Prod.snd (Prod.fst (Prod.snd r5))))) (Prod.fst (Prod.snd (Prod.snd (Prod.snd (Prod.fst (Prod.snd r5))))))
                                (Prod.fst (Prod.snd (Prod.snd (Prod.snd (Prod.snd (Prod.fst (Prod.snd r5)))))))
                                (Prod.fst (Prod.snd (Prod.snd (Prod.snd (Prod.snd (Prod.snd (Prod.fst (Prod.snd r5))))))))
                                (Prod.fst (Prod.snd (Prod.snd (Prod.snd (Prod.snd (Prod.snd (Prod.snd (Prod.fst (Prod.snd r5))))))))))
                              fun r9 =>
                              Go.Am.onSum r9 (fun r10 => Option.some (Sum.inl ((Prod.fst (Prod.fst r10), ()), ()))) fun r10 =>
                                junctionref5_stages.l5 k j t1 t1_1 t1_2 t1_3 t1_4 t1_5 t1_6 t1_7 t1_8
                                  (Go.IntKind.wrap Go.IntKind.i64
                                    (Go.IntKind.wrap Go.IntKind.i64
                                        (Go.IntKind.wrap Go.IntKind.i64
                                            (t3 + (↑(List.length (Prod.fst (Prod.snd (Prod.snd (Prod.snd (Prod.fst (Prod.snd r5))))))) : Int)) +
                                          (↑(List.length (Prod.fst (Prod.snd (Prod.snd (Prod.snd (Prod.snd (Prod.fst (Prod.snd r5)))))))) : Int)) +
                                      (↑(List.length (Prod.fst (Prod.snd (Prod.snd (Prod.snd (Prod.snd (Prod.snd (Prod.fst (Prod.snd r5))))))))) : Int)))
                                  (Go.IntKind.wrap Go.IntKind.i64
                                    (t4 +
                                      (↑(List.length (Prod.fst (Prod.snd (Prod.snd (Prod.snd (Prod.snd (Prod.snd (Prod.snd (Prod.fst (Prod.snd r5)))))))))) : Int)))
                                  (Prod.fst (Prod.fst r10)) (Go.IntKind.wrap Go.IntKind.i64 (t6 + (1 : Int))))
                fun r3 => Option.some (Sum.inl ((Prod.fst (Prod.fst r3), ()), ()))
      else Option.none
    else Option.some (Sum.inr ((t5, t4, t3, ()), ()))
def junctionref5_stages.w5 : List Nat := [11, 12, 13, 14, 15, 18, 19, 20, 21, 22, 7, 23, 24, 25, 26, 27, 28, 29, 30, 31, 32, 33, 34, 35, 36, 37, 38, 39, 40, 41, 42, 2, 43, 44, 45, 46, 8, 47, 48, 49, 50, 51, 52, 53, 54, 55, 56, 57, 58, 59, 60, 61, 62, 63, 64, 65, 66, 67, 68, 69, 70, 71, 72, 73, 74, 75, 76, 77, 78, 79, 80, 81, 82, 83, 84, 85, 86, 87, 3, 88, 89, 90, 91, 92, 93, 94, 95, 96, 97, 98, 99, 100, 5, 101, 102, 103, 104, 105, 4, 9, 106, 107, 108, 109, 110, 113, 114, 115, 116, 117, 10, 118, 119, 120, 121, 122, 123, 124, 125, 126, 127, 128, 129, 130, 131, 132, 133, 134, 135, 136, 137, 138, 139, 140, 141, 142, 143, 144, 145, 146, 111, 112, 16, 17, 6]
noncomputable def junctionref5_stages.e5 (k j : Nat) : junctionref5_stages.s5.den → Option (OutT junctionref5_stages.o5) := fun d => junctionref5_stages.l5 k j d.1.1.1 d.1.1.2.1 d.1.1.2.2.1 d.1.1.2.2.2.1 d.1.1.2.2.2.2.1 d.1.1.2.2.2.2.2.1 d.1.1.2.2.2.2.2.2.1 d.1.1.2.2.2.2.2.2.2.1 d.1.1.2.2.2.2.2.2.2.2.1 d.1.2.1 d.1.2.2.1 d.1.2.2.2.1 d.1.2.2.2.2.1
noncomputable def junctionref5_stages.m5 (k : Nat) : LamS κ := ⟨lamK 157 junctionref5_stages.w5 junctionref5_stages.s5 junctionref5_stages.o5 (junctionref5_stages.e5 k k)⟩
def junctionref5_stages.p : Pat κ := .bool
def junctionref5_stages.b : List (BPat κ) := []
noncomputable def junctionref5_stages (k : Nat) (t0 : ByteArray) (t0_1 : List S42) (t0_2 : List S47) (t0_3 : List S110) (t0_4 : List ByteArray) (t0_5 : List ByteArray) (t0_6 : List S112) (t0_7 : List S98) (t0_8 : Int) : Option (Bool × Unit) :=
    Option.bind (Go.Am.Tryd.junctionref5_stages.l5 k k t0 t0_1 t0_2 t0_3 t0_4 t0_5 t0_6 t0_7 t0_8 (0 : Int) (0 : Int) (0 : Int) (0 : Int)) fun r0 =>
      Go.Am.onSum r0 (fun r1 => Option.some (Prod.fst (Prod.fst r1), ())) fun r1 =>
        if Decidable.decide (Prod.fst (Prod.snd (Prod.snd (Prod.fst r1))) ≤ (4096 : Int)) = Bool.true then
          if Decidable.decide (Prod.fst (Prod.snd (Prod.fst r1)) ≤ (4096 : Int)) = Bool.true then
            Option.some (Decidable.decide (Prod.fst (Prod.fst r1) ≤ (16384 : Int)), ())
          else Option.some (Bool.false, ())
        else Option.some (Bool.false, ())
noncomputable def junctionref5_stages.f (k : Nat) : dens junctionref5_stages.i → Option (junctionref5_stages.p.den × densB junctionref5_stages.b) := fun d => junctionref5_stages k d.1.1 d.1.2.1 d.1.2.2.1 d.1.2.2.2.1 d.1.2.2.2.2.1 d.1.2.2.2.2.2.1 d.1.2.2.2.2.2.2.1 d.1.2.2.2.2.2.2.2.1 d.1.2.2.2.2.2.2.2.2.1
noncomputable def junctionref5_stages.ctx (k : Nat) : Ctx κ := junctionref5_stages.x k [junctionref5_stages.m0 k, junctionref5_stages.m1 k, junctionref5_stages.m2 k, junctionref5_stages.m3 k, junctionref5_stages.m4 k, junctionref5_stages.m5 k]
theorem junctionref5_stages.xOk (k : Nat) : (junctionref5_stages.ctx k).Ok := ctxOk ⟨junctionref5_within.entOk k, junctionref5_SoundExpr.entOk k, junctionref5_SoundList.entOk k, junctionref5_nodes.entOk k, trivial⟩ ⟨junctionref5_within.qentOk k, junctionref5_SoundExpr.qentOk k, junctionref5_SoundList.qentOk k, junctionref5_nodes.qentOk k, trivial⟩
theorem junctionref5_stages.k0 (k : Nat) : LamOk (junctionref5_stages.ctx k) ((junctionref5_stages.ctx k).Λ 0) (sub [1, 1, 1, 1, 0, 1, 0, 0, 1, 0, 0, 1, 0] junctionref5_stages.c) :=
  cut_ok (kindOf := kindOf) (C := junctionref5_stages.ctx k) (n := (.pair (.ops [] 20) .none)) (L := junctionref5_stages.e0 k) (junctionref5_stages.xOk k) (by kernel_rfl) (by kernel_rfl) (fits_of (l := []) (by kernel_rfl) trivial) (fun _ => by kernel_rfl)
theorem junctionref5_stages.k1 (k : Nat) : LamOk (junctionref5_stages.ctx k) ((junctionref5_stages.ctx k).Λ 1) (sub [1, 1, 1, 1, 0, 1, 0, 0, 1, 0, 0, 1, 1, 1, 0] junctionref5_stages.c) :=
  cut_ok (kindOf := kindOf) (C := junctionref5_stages.ctx k) (n := .none) (L := junctionref5_stages.e1 k) (junctionref5_stages.xOk k) (by kernel_rfl) (by kernel_rfl) (fits_of (l := []) (by kernel_rfl) trivial) (fun _ => by kernel_rfl)
theorem junctionref5_stages.k2 (k : Nat) : LamOk (junctionref5_stages.ctx k) ((junctionref5_stages.ctx k).Λ 2) (sub [1, 1, 1, 1, 0, 1, 0, 0, 1, 0, 0, 1, 1, 1, 1, 0] junctionref5_stages.c) :=
  cut_ok (kindOf := kindOf) (C := junctionref5_stages.ctx k) (n := .none) (L := junctionref5_stages.e2 k) (junctionref5_stages.xOk k) (by kernel_rfl) (by kernel_rfl) (fits_of (l := []) (by kernel_rfl) trivial) (fun _ => by kernel_rfl)
theorem junctionref5_stages.k3 (k : Nat) : LamOk (junctionref5_stages.ctx k) ((junctionref5_stages.ctx k).Λ 3) (sub [1, 1, 1, 1, 0, 1, 0, 0, 1, 0, 0, 1, 1, 1, 1, 1, 1, 1, 1, 1, 0, 0, 1, 0, 0, 1, 0] junctionref5_stages.c) :=
  cut_ok (kindOf := kindOf) (C := junctionref5_stages.ctx k) (n := .none) (L := junctionref5_stages.e3 k) (junctionref5_stages.xOk k) (by kernel_rfl) (by kernel_rfl) (fits_of (l := []) (by kernel_rfl) trivial) (fun _ => by kernel_rfl)
theorem junctionref5_stages.k4 (k : Nat) : LamOk (junctionref5_stages.ctx k) ((junctionref5_stages.ctx k).Λ 4) (.loop (sub [1, 1, 1, 1, 0, 1, 0, 0, 1, 0, 0, 1, 1, 1, 1, 1, 1, 1, 1, 1, 0, 0] junctionref5_stages.c)) :=
  loop_ok (kindOf := kindOf) (C := junctionref5_stages.ctx k) (n := (.pair .none (.pair (.pair (.pair .none (.pair (.cut 3) .none)) .none) .none))) (L := junctionref5_stages.e4 k) (junctionref5_stages.xOk k) (by kernel_rfl) (by kernel_rfl) (fits_of (l := [(3, (sub [1, 1, 1, 1, 0, 1, 0, 0, 1, 0, 0, 1, 1, 1, 1, 1, 1, 1, 1, 1, 0, 0, 1, 0, 0, 1, 0] junctionref5_stages.c))]) (by kernel_rfl) ⟨junctionref5_stages.k3 k, trivial⟩) (fun _ => by kernel_rfl) (fun _ _ => by kernel_rfl) k
theorem junctionref5_stages.k5 (k : Nat) : LamOk (junctionref5_stages.ctx k) ((junctionref5_stages.ctx k).Λ 5) (.loop (sub [1, 1, 1, 1, 0, 1, 0, 0] junctionref5_stages.c)) :=
  loop_ok (kindOf := kindOf) (C := junctionref5_stages.ctx k) (n := (.pair .none (.pair (.pair (.pair .none (.pair (.cut 0) (.pair .none (.pair (.cut 1) (.pair (.cut 2) (.pair .none (.pair (.ops [] 14) (.pair .none (.pair .none (.pair (.cut 4) .none)))))))))) .none) .none))) (L := junctionref5_stages.e5 k) (junctionref5_stages.xOk k) (by kernel_rfl) (by kernel_rfl) (fits_of (l := [(0, (sub [1, 1, 1, 1, 0, 1, 0, 0, 1, 0, 0, 1, 0] junctionref5_stages.c)), (1, (sub [1, 1, 1, 1, 0, 1, 0, 0, 1, 0, 0, 1, 1, 1, 0] junctionref5_stages.c)), (2, (sub [1, 1, 1, 1, 0, 1, 0, 0, 1, 0, 0, 1, 1, 1, 1, 0] junctionref5_stages.c)), (4, .loop (sub [1, 1, 1, 1, 0, 1, 0, 0, 1, 0, 0, 1, 1, 1, 1, 1, 1, 1, 1, 1, 0, 0] junctionref5_stages.c))]) (by kernel_rfl) ⟨junctionref5_stages.k0 k, junctionref5_stages.k1 k, junctionref5_stages.k2 k, junctionref5_stages.k4 k, trivial⟩) (fun _ => by kernel_rfl) (fun _ _ => by kernel_rfl) k
theorem junctionref5_stages.call (k : Nat) : CallV Tryd.prog E glob 65 junctionref5_stages.i junctionref5_stages.p junctionref5_stages.b (junctionref5_stages.f k) :=
  fn_okZ (kindOf := kindOf) (C := junctionref5_stages.ctx k) (n := (.pair (.ops [0] 0) (.pair .none (.pair .none (.pair .none (.pair (.pair .none (.pair (.cut 5) .none)) .none)))))) (junctionref5_stages.xOk k) Tryd.func65 junctionref5_stages.hb (fits_of (l := [(5, .loop (sub [1, 1, 1, 1, 0, 1, 0, 0] junctionref5_stages.c))]) (by kernel_rfl) ⟨junctionref5_stages.k5 k, trivial⟩) (fun _ => by kernel_rfl)
noncomputable def junctionref5_stages.ent (k : Nat) : EntS κ := ⟨65, [], entOf junctionref5_stages.i junctionref5_stages.p junctionref5_stages.b true (junctionref5_stages.f k) E⟩
theorem junctionref5_stages.entOk (k : Nat) : EntOk Tryd.prog E glob 65 (junctionref5_stages.ent k).run := ent_free encOk (callable_of Tryd.func65 (by kernel_rfl) (by kernel_rfl)) (by rfl) trivial (junctionref5_stages.call k)
noncomputable def junctionref5_stages.qent (k : Nat) : QEntS κ := ⟨65, qentOf junctionref5_stages.i junctionref5_stages.p (junctionref5_stages.f k) E⟩
theorem junctionref5_stages.qentOk (k : Nat) : QEntOk Tryd.prog E glob 65 (junctionref5_stages.qent k).run := qent_ok encOk (callable_of Tryd.func65 (by kernel_rfl) (by kernel_rfl)) (junctionref5_stages.call k)
noncomputable def junctionref5_Sound.c : Go.Code := match Tryd.f37.body with | some c => c | none => .skip
theorem junctionref5_Sound.hb : Tryd.f37.body = some junctionref5_Sound.c := by kernel_rfl
noncomputable def junctionref5_Sound.x (k : Nat) (ls : List (LamS κ)) : Ctx κ := mkCtx [junctionref5_within.ent k, junctionref5_Grid.ent k, junctionref5_unlike.ent k, junctionref5_things.ent k, junctionref5_stages.ent k] [junctionref5_within.qent k, junctionref5_Grid.qent k, junctionref5_unlike.qent k, junctionref5_stages.qent k] ls
def junctionref5_Sound.i : List (Pat κ) := [.agg [.str, .ro .T42, .ro .T47, .ro .T110, .ro .T9, .ro .T9, .ro .T112, .ro .T98, .int .i64]]
def junctionref5_Sound.s0 : Sh κ := ⟨0, [1], [.rop [.str, .ro .T42, .ro .T47, .ro .T110, .ro .T9, .ro .T9, .ro .T112, .ro .T98, .int .i64]], []⟩
def junctionref5_Sound.o0 : List (Ex × Sh κ) := [(.ret, ⟨0, [2], [.bool], []⟩), (.normal, ⟨0, [], [], []⟩)]
noncomputable def junctionref5_Sound.l0 (k : Nat) (t1 : ByteArray) (t1_1 : List S42) (t1_2 : List S47) (t1_3 : List S110) (t1_4 : List ByteArray) (t1_5 : List ByteArray) (t1_6 : List S112) (t1_7 : List S98) (t1_8 : Int) : Option ((Bool × Unit) × Unit ⊕ Unit × Unit) :=
    Option.bind (Go.Am.Tryd.junctionref5_Grid k t1_1 t1_2) fun r0 =>
      if (!Prod.fst r0) = Bool.false then
        if Decidable.decide ((↑(List.length t1_3) : Int) > (64 : Int)) = Bool.false then
          if Decidable.decide ((↑(List.length t1_4) : Int) > (64 : Int)) = Bool.false then
            if Decidable.decide ((↑(List.length t1_5) : Int) > (64 : Int)) = Bool.false then
              if Decidable.decide ((↑(List.length t1_6) : Int) > (64 : Int)) = Bool.true then Option.some (Sum.inl ((Bool.false, ()), ()))
              else Option.some (Sum.inr ((), ()))
            else Option.some (Sum.inl ((Bool.false, ()), ()))
          else Option.some (Sum.inl ((Bool.false, ()), ()))
        else Option.some (Sum.inl ((Bool.false, ()), ()))
      else Option.some (Sum.inl ((Bool.false, ()), ()))
def junctionref5_Sound.w0 : List Nat := [4, 5, 6, 7, 8, 9, 10, 11, 12, 13, 14, 15, 16, 17, 18, 19, 20, 21, 22, 23, 24, 25, 26, 27, 28, 29, 30, 31, 2]
noncomputable def junctionref5_Sound.e0 (k : Nat) : junctionref5_Sound.s0.den → Option (OutT junctionref5_Sound.o0) := fun d => junctionref5_Sound.l0 k d.1.1.1 d.1.1.2.1 d.1.1.2.2.1 d.1.1.2.2.2.1 d.1.1.2.2.2.2.1 d.1.1.2.2.2.2.2.1 d.1.1.2.2.2.2.2.2.1 d.1.1.2.2.2.2.2.2.2.1 d.1.1.2.2.2.2.2.2.2.2.1
noncomputable def junctionref5_Sound.m0 (k : Nat) : LamS κ := ⟨lamK 88 junctionref5_Sound.w0 junctionref5_Sound.s0 junctionref5_Sound.o0 (junctionref5_Sound.e0 k)⟩
def junctionref5_Sound.s1 : Sh κ := ⟨0, [1], [.rop [.str, .ro .T42, .ro .T47, .ro .T110, .ro .T9, .ro .T9, .ro .T112, .ro .T98, .int .i64]], []⟩
def junctionref5_Sound.o1 : List (Ex × Sh κ) := [(.ret, ⟨0, [2], [.bool], []⟩), (.normal, ⟨0, [], [], []⟩)]
noncomputable def junctionref5_Sound.l1 (k : Nat) (t1 : ByteArray) (t1_1 : List S42) (t1_2 : List S47) (t1_3 : List S110) (t1_4 : List ByteArray) (t1_5 : List ByteArray) (t1_6 : List S112) (t1_7 : List S98) (t1_8 : Int) : Option ((Bool × Unit) × Unit ⊕ Unit × Unit) :=
    Option.bind (Go.Am.Tryd.junctionref5_within k (↑(List.length t1_7) : Int) (1 : Int) (256 : Int)) fun r0 =>
      if (!Prod.fst r0) = Bool.false then
        if Decidable.decide (t1_8 < (0 : Int)) = Bool.false then
          if Decidable.decide (t1_8 ≥ (↑(List.length t1_7) : Int)) = Bool.true then Option.some (Sum.inl ((Bool.false, ()), ())) else Option.some (Sum.inr ((), ()))
        else Option.some (Sum.inl ((Bool.false, ()), ()))
      else Option.some (Sum.inl ((Bool.false, ()), ()))
def junctionref5_Sound.w1 : List Nat := [32, 33, 34, 35, 36, 37, 38, 39, 40, 41, 42, 43, 44, 45, 46, 47, 48, 49, 2]
noncomputable def junctionref5_Sound.e1 (k : Nat) : junctionref5_Sound.s1.den → Option (OutT junctionref5_Sound.o1) := fun d => junctionref5_Sound.l1 k d.1.1.1 d.1.1.2.1 d.1.1.2.2.1 d.1.1.2.2.2.1 d.1.1.2.2.2.2.1 d.1.1.2.2.2.2.2.1 d.1.1.2.2.2.2.2.2.1 d.1.1.2.2.2.2.2.2.2.1 d.1.1.2.2.2.2.2.2.2.2.1
noncomputable def junctionref5_Sound.m1 (k : Nat) : LamS κ := ⟨lamK 88 junctionref5_Sound.w1 junctionref5_Sound.s1 junctionref5_Sound.o1 (junctionref5_Sound.e1 k)⟩
def junctionref5_Sound.s3 : Sh κ := ⟨0, [1, 3], [.rop [.str, .ro .T42, .ro .T47, .ro .T110, .ro .T9, .ro .T9, .ro .T112, .ro .T98, .int .i64], .int .i64], []⟩
def junctionref5_Sound.s2 : Sh κ := ⟨0, [1, 3], [.rop [.str, .ro .T42, .ro .T47, .ro .T110, .ro .T9, .ro .T9, .ro .T112, .ro .T98, .int .i64], .int .i64], []⟩
def junctionref5_Sound.o2 : List (Ex × Sh κ) := [(.ret, ⟨0, [2], [.bool], []⟩), (.normal, ⟨0, [], [], []⟩)]
noncomputable def junctionref5_Sound.l2 (k : Nat) (t1 : ByteArray) (t1_1 : List S42) (t1_2 : List S47) (t1_3 : List S110) (t1_4 : List ByteArray) (t1_5 : List ByteArray) (t1_6 : List S112) (t1_7 : List S98) (t1_8 : Int) (t3 : Int) : Option ((Bool × Unit) × Unit ⊕ Unit × Unit) :=
    if (0 : Int) ≤ t3 ∧ t3 < (↑(List.length t1_3) : Int) then
      Option.bind
        (Go.Am.Tryd.junctionref5_within k (Go.Am.Tryd.S110.f2 (List.getD t1_3 (Int.toNat t3) (Go.Am.Tryd.S110.mk ByteArray.empty Bool.false (0 : Int) (0 : Int))))
          (0 : Int) (3600 : Int))
        fun r0 =>
        if (!Prod.fst r0) = Bool.false then
          if (0 : Int) ≤ t3 ∧ t3 < (↑(List.length t1_3) : Int) then
            Option.bind
              (Go.Am.Tryd.junctionref5_within k
                (Go.Am.Tryd.S110.f3 (List.getD t1_3 (Int.toNat t3) (Go.Am.Tryd.S110.mk ByteArray.empty Bool.false (0 : Int) (0 : Int)))) (0 : Int) (3600 : Int))
              fun r1 => if (!Prod.fst r1) = Bool.true then Option.some (Sum.inl ((Bool.false, ()), ())) else Option.some (Sum.inr ((), ()))
          else Option.none
        else Option.some (Sum.inl ((Bool.false, ()), ()))
    else Option.none
def junctionref5_Sound.w2 : List Nat := [57, 58, 59, 60, 61, 62, 63, 64, 65, 66, 67, 68, 69, 70, 71, 72, 73, 74, 2]
noncomputable def junctionref5_Sound.e2 (k : Nat) : junctionref5_Sound.s2.den → Option (OutT junctionref5_Sound.o2) := fun d => junctionref5_Sound.l2 k d.1.1.1 d.1.1.2.1 d.1.1.2.2.1 d.1.1.2.2.2.1 d.1.1.2.2.2.2.1 d.1.1.2.2.2.2.2.1 d.1.1.2.2.2.2.2.2.1 d.1.1.2.2.2.2.2.2.2.1 d.1.1.2.2.2.2.2.2.2.2.1 d.1.2.1
noncomputable def junctionref5_Sound.m2 (k : Nat) : LamS κ := ⟨lamK 88 junctionref5_Sound.w2 junctionref5_Sound.s2 junctionref5_Sound.o2 (junctionref5_Sound.e2 k)⟩
def junctionref5_Sound.o3 : List (Ex × Sh κ) := [(.ret, ⟨0, [2], [.bool], []⟩), (.exit 0, ⟨0, [], [], []⟩)]
noncomputable def junctionref5_Sound.l3 (k : Nat) : Nat → ByteArray → (List S42) → (List S47) → (List S110) → (List ByteArray) → (List ByteArray) → (List S112) → (List S98) → Int → Int → Option ((Bool × Unit) × Unit ⊕ Unit × Unit)
  | 0, _, _, _, _, _, _, _, _, _, _ => none
  | j + 1, t1, t1_1, t1_2, t1_3, t1_4, t1_5, t1_6, t1_7, t1_8, t3 =>
    if Decidable.decide (t3 < (↑(List.length t1_3) : Int)) = Bool.true then
      Option.bind (Go.Am.Tryd.junctionref5_Sound.l2 k t1 t1_1 t1_2 t1_3 t1_4 t1_5 t1_6 t1_7 t1_8 t3) fun r0 =>
        Go.Am.onSum r0 (fun r1 => Option.some (Sum.inl ((Prod.fst (Prod.fst r1), ()), ()))) fun r1 =>
          junctionref5_Sound.l3 k j t1 t1_1 t1_2 t1_3 t1_4 t1_5 t1_6 t1_7 t1_8 (Go.IntKind.wrap Go.IntKind.i64 (t3 + (1 : Int)))
    else Option.some (Sum.inr ((), ()))
def junctionref5_Sound.w3 : List Nat := [50, 51, 52, 53, 54, 57, 58, 59, 60, 61, 62, 63, 64, 65, 66, 67, 68, 69, 70, 71, 72, 73, 74, 2, 55, 56, 3]
noncomputable def junctionref5_Sound.e3 (k j : Nat) : junctionref5_Sound.s3.den → Option (OutT junctionref5_Sound.o3) := fun d => junctionref5_Sound.l3 k j d.1.1.1 d.1.1.2.1 d.1.1.2.2.1 d.1.1.2.2.2.1 d.1.1.2.2.2.2.1 d.1.1.2.2.2.2.2.1 d.1.1.2.2.2.2.2.2.1 d.1.1.2.2.2.2.2.2.2.1 d.1.1.2.2.2.2.2.2.2.2.1 d.1.2.1
noncomputable def junctionref5_Sound.m3 (k : Nat) : LamS κ := ⟨lamK 88 junctionref5_Sound.w3 junctionref5_Sound.s3 junctionref5_Sound.o3 (junctionref5_Sound.e3 k k)⟩
def junctionref5_Sound.p : Pat κ := .bool
def junctionref5_Sound.b : List (BPat κ) := []
noncomputable def junctionref5_Sound (k : Nat) (t0 : ByteArray) (t0_1 : List S42) (t0_2 : List S47) (t0_3 : List S110) (t0_4 : List ByteArray) (t0_5 : List ByteArray) (t0_6 : List S112) (t0_7 : List S98) (t0_8 : Int) : Option (Bool × Unit) :=
    Option.bind (Go.Am.Tryd.junctionref5_Sound.l0 k t0 t0_1 t0_2 t0_3 t0_4 t0_5 t0_6 t0_7 t0_8) fun r0 =>
      Go.Am.onSum r0 (fun r1 => Option.some (Prod.fst (Prod.fst r1), ())) fun r1 =>
        Option.bind (Go.Am.Tryd.junctionref5_Sound.l1 k t0 t0_1 t0_2 t0_3 t0_4 t0_5 t0_6 t0_7 t0_8) fun r2 =>
          Go.Am.onSum r2 (fun r3 => Option.some (Prod.fst (Prod.fst r3), ())) fun r3 =>
            Option.bind (Go.Am.Tryd.junctionref5_Sound.l3 k k t0 t0_1 t0_2 t0_3 t0_4 t0_5 t0_6 t0_7 t0_8 (0 : Int)) fun r4 =>
              Go.Am.onSum r4 (fun r5 => Option.some (Prod.fst (Prod.fst r5), ())) fun r5 =>
                Option.bind (Go.Am.Tryd.junctionref5_unlike k [t0]) fun r6 =>
                  if Prod.fst r6 = Bool.true then
                    Option.bind (Go.Am.Tryd.junctionref5_things k t0 t0_1 t0_2 t0_3 t0_4 t0_5 t0_6 t0_7 t0_8) fun r7 =>
                      Option.bind (Go.Am.Tryd.junctionref5_unlike k (Prod.fst r7)) fun r8 =>
                        if Prod.fst r8 = Bool.true then
                          Option.bind (Go.Am.Tryd.junctionref5_stages k t0 t0_1 t0_2 t0_3 t0_4 t0_5 t0_6 t0_7 t0_8) fun r9 => Option.some (Prod.fst r9, ())
                        else Option.some (Bool.false, ())
                  else Option.some (Bool.false, ())
noncomputable def junctionref5_Sound.f (k : Nat) : dens junctionref5_Sound.i → Option (junctionref5_Sound.p.den × densB junctionref5_Sound.b) := fun d => junctionref5_Sound k d.1.1 d.1.2.1 d.1.2.2.1 d.1.2.2.2.1 d.1.2.2.2.2.1 d.1.2.2.2.2.2.1 d.1.2.2.2.2.2.2.1 d.1.2.2.2.2.2.2.2.1 d.1.2.2.2.2.2.2.2.2.1
noncomputable def junctionref5_Sound.ctx (k : Nat) : Ctx κ := junctionref5_Sound.x k [junctionref5_Sound.m0 k, junctionref5_Sound.m1 k, junctionref5_Sound.m2 k, junctionref5_Sound.m3 k]
theorem junctionref5_Sound.xOk (k : Nat) : (junctionref5_Sound.ctx k).Ok := ctxOk ⟨junctionref5_within.entOk k, junctionref5_Grid.entOk k, junctionref5_unlike.entOk k, junctionref5_things.entOk k, junctionref5_stages.entOk k, trivial⟩ ⟨junctionref5_within.qentOk k, junctionref5_Grid.qentOk k, junctionref5_unlike.qentOk k, junctionref5_stages.qentOk k, trivial⟩
theorem junctionref5_Sound.k0 (k : Nat) : LamOk (junctionref5_Sound.ctx k) ((junctionref5_Sound.ctx k).Λ 0) (sub [1, 0] junctionref5_Sound.c) :=
  cut_ok (kindOf := kindOf) (C := junctionref5_Sound.ctx k) (n := .none) (L := junctionref5_Sound.e0 k) (junctionref5_Sound.xOk k) (by kernel_rfl) (by kernel_rfl) (fits_of (l := []) (by kernel_rfl) trivial) (fun _ => by kernel_rfl)
theorem junctionref5_Sound.k1 (k : Nat) : LamOk (junctionref5_Sound.ctx k) ((junctionref5_Sound.ctx k).Λ 1) (sub [1, 1, 0] junctionref5_Sound.c) :=
  cut_ok (kindOf := kindOf) (C := junctionref5_Sound.ctx k) (n := .none) (L := junctionref5_Sound.e1 k) (junctionref5_Sound.xOk k) (by kernel_rfl) (by kernel_rfl) (fits_of (l := []) (by kernel_rfl) trivial) (fun _ => by kernel_rfl)
theorem junctionref5_Sound.k2 (k : Nat) : LamOk (junctionref5_Sound.ctx k) ((junctionref5_Sound.ctx k).Λ 2) (sub [1, 1, 1, 0, 1, 0, 0, 1, 0] junctionref5_Sound.c) :=
  cut_ok (kindOf := kindOf) (C := junctionref5_Sound.ctx k) (n := .none) (L := junctionref5_Sound.e2 k) (junctionref5_Sound.xOk k) (by kernel_rfl) (by kernel_rfl) (fits_of (l := []) (by kernel_rfl) trivial) (fun _ => by kernel_rfl)
theorem junctionref5_Sound.k3 (k : Nat) : LamOk (junctionref5_Sound.ctx k) ((junctionref5_Sound.ctx k).Λ 3) (.loop (sub [1, 1, 1, 0, 1, 0, 0] junctionref5_Sound.c)) :=
  loop_ok (kindOf := kindOf) (C := junctionref5_Sound.ctx k) (n := (.pair .none (.pair (.cut 2) .none))) (L := junctionref5_Sound.e3 k) (junctionref5_Sound.xOk k) (by kernel_rfl) (by kernel_rfl) (fits_of (l := [(2, (sub [1, 1, 1, 0, 1, 0, 0, 1, 0] junctionref5_Sound.c))]) (by kernel_rfl) ⟨junctionref5_Sound.k2 k, trivial⟩) (fun _ => by kernel_rfl) (fun _ _ => by kernel_rfl) k
theorem junctionref5_Sound.call (k : Nat) : CallV Tryd.prog E glob 37 junctionref5_Sound.i junctionref5_Sound.p junctionref5_Sound.b (junctionref5_Sound.f k) :=
  fn_okZ (kindOf := kindOf) (C := junctionref5_Sound.ctx k) (n := (.pair (.ops [0] 0) (.pair (.cut 0) (.pair (.cut 1) (.pair (.pair .none (.pair (.cut 3) .none)) .none))))) (junctionref5_Sound.xOk k) Tryd.func37 junctionref5_Sound.hb (fits_of (l := [(0, (sub [1, 0] junctionref5_Sound.c)), (1, (sub [1, 1, 0] junctionref5_Sound.c)), (3, .loop (sub [1, 1, 1, 0, 1, 0, 0] junctionref5_Sound.c))]) (by kernel_rfl) ⟨junctionref5_Sound.k0 k, junctionref5_Sound.k1 k, junctionref5_Sound.k3 k, trivial⟩) (fun _ => by kernel_rfl)
noncomputable def junctionref5_Sound.ent (k : Nat) : EntS κ := ⟨37, [], entOf junctionref5_Sound.i junctionref5_Sound.p junctionref5_Sound.b true (junctionref5_Sound.f k) E⟩
theorem junctionref5_Sound.entOk (k : Nat) : EntOk Tryd.prog E glob 37 (junctionref5_Sound.ent k).run := ent_free encOk (callable_of Tryd.func37 (by kernel_rfl) (by kernel_rfl)) (by rfl) trivial (junctionref5_Sound.call k)
noncomputable def junctionref5_Sound.qent (k : Nat) : QEntS κ := ⟨37, qentOf junctionref5_Sound.i junctionref5_Sound.p (junctionref5_Sound.f k) E⟩
theorem junctionref5_Sound.qentOk (k : Nat) : QEntOk Tryd.prog E glob 37 (junctionref5_Sound.qent k).run := qent_ok encOk (callable_of Tryd.func37 (by kernel_rfl) (by kernel_rfl)) (junctionref5_Sound.call k)
noncomputable def junctionlaw6_closed.c : Go.Code := match Tryd.f38.body with | some c => c | none => .skip
theorem junctionlaw6_closed.hb : Tryd.f38.body = some junctionlaw6_closed.c := by kernel_rfl
noncomputable def junctionlaw6_closed.x (k : Nat) (ls : List (LamS κ)) : Ctx κ := mkCtx [] [] ls
def junctionlaw6_closed.i : List (Pat κ) := [.agg [.str, .ro .T42, .ro .T47, .ro .T110, .ro .T9, .ro .T9, .ro .T112, .ro .T98, .int .i64], .ro .T4]
def junctionlaw6_closed.s0 : Sh κ := ⟨0, [1, 2], [.ro .T4, .rop [.str, .ro .T42, .ro .T47, .ro .T110, .ro .T9, .ro .T9, .ro .T112, .ro .T98, .int .i64]], []⟩
def junctionlaw6_closed.o0 : List (Ex × Sh κ) := [(.ret, ⟨0, [4], [.bool], []⟩), (.normal, ⟨0, [], [], []⟩)]
noncomputable def junctionlaw6_closed.l0 (k : Nat) (t1 : List Bool) (t2 : ByteArray) (t2_1 : List S42) (t2_2 : List S47) (t2_3 : List S110) (t2_4 : List ByteArray) (t2_5 : List ByteArray) (t2_6 : List S112) (t2_7 : List S98) (t2_8 : Int) : Option ((Bool × Unit) × Unit ⊕ Unit × Unit) :=
    if ((↑(List.length t1) : Int) != (↑(List.length t2_7) : Int)) = Bool.false then
      if (0 : Int) ≤ t2_8 ∧ t2_8 < (↑(List.length t1) : Int) then
        if (!List.getD t1 (Int.toNat t2_8) Bool.false) = Bool.true then Option.some (Sum.inl ((Bool.false, ()), ())) else Option.some (Sum.inr ((), ()))
      else Option.none
    else Option.some (Sum.inl ((Bool.false, ()), ()))
def junctionlaw6_closed.w0 : List Nat := [7, 8, 9, 10, 11, 12, 13, 14, 15, 16, 17, 18, 19, 20, 4]
noncomputable def junctionlaw6_closed.e0 (k : Nat) : junctionlaw6_closed.s0.den → Option (OutT junctionlaw6_closed.o0) := fun d => junctionlaw6_closed.l0 k d.1.1 d.1.2.1.1 d.1.2.1.2.1 d.1.2.1.2.2.1 d.1.2.1.2.2.2.1 d.1.2.1.2.2.2.2.1 d.1.2.1.2.2.2.2.2.1 d.1.2.1.2.2.2.2.2.2.1 d.1.2.1.2.2.2.2.2.2.2.1 d.1.2.1.2.2.2.2.2.2.2.2.1
noncomputable def junctionlaw6_closed.m0 (k : Nat) : LamS κ := ⟨lamK 59 junctionlaw6_closed.w0 junctionlaw6_closed.s0 junctionlaw6_closed.o0 (junctionlaw6_closed.e0 k)⟩
def junctionlaw6_closed.s3 : Sh κ := ⟨0, [1, 2, 5], [.ro .T4, .rop [.str, .ro .T42, .ro .T47, .ro .T110, .ro .T9, .ro .T9, .ro .T112, .ro .T98, .int .i64], .int .i64], []⟩
def junctionlaw6_closed.s2 : Sh κ := ⟨0, [1, 2, 5, 6], [.ro .T4, .rop [.str, .ro .T42, .ro .T47, .ro .T110, .ro .T9, .ro .T9, .ro .T112, .ro .T98, .int .i64], .int .i64, .int .i64], []⟩
def junctionlaw6_closed.s1 : Sh κ := ⟨0, [1, 2, 5, 6], [.ro .T4, .rop [.str, .ro .T42, .ro .T47, .ro .T110, .ro .T9, .ro .T9, .ro .T112, .ro .T98, .int .i64], .int .i64, .int .i64], []⟩
def junctionlaw6_closed.o1 : List (Ex × Sh κ) := [(.normal, ⟨0, [], [], []⟩), (.ret, ⟨0, [4], [.bool], []⟩)]
noncomputable def junctionlaw6_closed.l1 (k : Nat) (t1 : List Bool) (t2 : ByteArray) (t2_1 : List S42) (t2_2 : List S47) (t2_3 : List S110) (t2_4 : List ByteArray) (t2_5 : List ByteArray) (t2_6 : List S112) (t2_7 : List S98) (t2_8 : Int) (t5 : Int) (t6 : Int) : Option (Unit × Unit ⊕ (Bool × Unit) × Unit) :=
    if (0 : Int) ≤ t5 ∧ t5 < (↑(List.length t1) : Int) then
      if List.getD t1 (Int.toNat t5) Bool.false = Bool.true then
        if (0 : Int) ≤ t5 ∧ t5 < (↑(List.length t2_7) : Int) then
          if
              (0 : Int) ≤ t6 ∧
                t6 <
                  (↑(List.length (Go.Am.Tryd.S98.f6 (List.getD t2_7 (Int.toNat t5) (Go.Am.Tryd.S98.mk ByteArray.empty (0 : Int) (0 : Int) [] [] [] [])))) :
                    Int) then
            if
                (0 : Int) ≤
                    Go.Am.Tryd.S95.f0
                      (List.getD (Go.Am.Tryd.S98.f6 (List.getD t2_7 (Int.toNat t5) (Go.Am.Tryd.S98.mk ByteArray.empty (0 : Int) (0 : Int) [] [] [] [])))
                        (Int.toNat t6) (Go.Am.Tryd.S95.mk (0 : Int) [])) ∧
                  Go.Am.Tryd.S95.f0
                      (List.getD (Go.Am.Tryd.S98.f6 (List.getD t2_7 (Int.toNat t5) (Go.Am.Tryd.S98.mk ByteArray.empty (0 : Int) (0 : Int) [] [] [] [])))
                        (Int.toNat t6) (Go.Am.Tryd.S95.mk (0 : Int) [])) <
                    (↑(List.length t1) : Int) then
              if
                  (!List.getD t1
                        (Int.toNat
                          (Go.Am.Tryd.S95.f0
                            (List.getD (Go.Am.Tryd.S98.f6 (List.getD t2_7 (Int.toNat t5) (Go.Am.Tryd.S98.mk ByteArray.empty (0 : Int) (0 : Int) [] [] [] [])))
                              (Int.toNat t6) (Go.Am.Tryd.S95.mk (0 : Int) []))))
                        Bool.false) =
                    Bool.true then
                Option.some (Sum.inr ((Bool.false, ()), ()))
              else Option.some (Sum.inl ((), ()))
            else Option.none
          else Option.none
        else Option.none
      else Option.some (Sum.inl ((), ()))
    else Option.none
def junctionlaw6_closed.w1 : List Nat := [39, 40, 41, 42, 43, 44, 45, 46, 47, 48, 49, 50, 51, 52, 53, 54, 55, 56, 57, 58, 4]
noncomputable def junctionlaw6_closed.e1 (k : Nat) : junctionlaw6_closed.s1.den → Option (OutT junctionlaw6_closed.o1) := fun d => junctionlaw6_closed.l1 k d.1.1 d.1.2.1.1 d.1.2.1.2.1 d.1.2.1.2.2.1 d.1.2.1.2.2.2.1 d.1.2.1.2.2.2.2.1 d.1.2.1.2.2.2.2.2.1 d.1.2.1.2.2.2.2.2.2.1 d.1.2.1.2.2.2.2.2.2.2.1 d.1.2.1.2.2.2.2.2.2.2.2.1 d.1.2.2.1 d.1.2.2.2.1
noncomputable def junctionlaw6_closed.m1 (k : Nat) : LamS κ := ⟨lamK 59 junctionlaw6_closed.w1 junctionlaw6_closed.s1 junctionlaw6_closed.o1 (junctionlaw6_closed.e1 k)⟩
def junctionlaw6_closed.o2 : List (Ex × Sh κ) := [(.ret, ⟨0, [4], [.bool], []⟩), (.exit 2, ⟨0, [], [], []⟩)]
noncomputable def junctionlaw6_closed.l2 (k : Nat) : Nat → (List Bool) → ByteArray → (List S42) → (List S47) → (List S110) → (List ByteArray) → (List ByteArray) → (List S112) → (List S98) → Int → Int → Int → Option ((Bool × Unit) × Unit ⊕ Unit × Unit)
  | 0, _, _, _, _, _, _, _, _, _, _, _, _ => none
  | j + 1, t1, t2, t2_1, t2_2, t2_3, t2_4, t2_5, t2_6, t2_7, t2_8, t5, t6 =>
    if (0 : Int) ≤ t5 ∧ t5 < (↑(List.length t2_7) : Int) then
      if
          Decidable.decide
              (t6 <
                (↑(List.length (Go.Am.Tryd.S98.f6 (List.getD t2_7 (Int.toNat t5) (Go.Am.Tryd.S98.mk ByteArray.empty (0 : Int) (0 : Int) [] [] [] [])))) : Int)) =
            Bool.true then
        Option.bind (Go.Am.Tryd.junctionlaw6_closed.l1 k t1 t2 t2_1 t2_2 t2_3 t2_4 t2_5 t2_6 t2_7 t2_8 t5 t6) fun r0 =>
          Go.Am.onSum r0 (fun r1 => junctionlaw6_closed.l2 k j t1 t2 t2_1 t2_2 t2_3 t2_4 t2_5 t2_6 t2_7 t2_8 t5 (Go.IntKind.wrap Go.IntKind.i64 (t6 + (1 : Int)))) fun r1 =>
            Option.some (Sum.inl ((Prod.fst (Prod.fst r1), ()), ()))
      else Option.some (Sum.inr ((), ()))
    else Option.none
def junctionlaw6_closed.w2 : List Nat := [28, 29, 30, 31, 32, 33, 34, 35, 36, 39, 40, 41, 42, 43, 44, 45, 46, 47, 48, 49, 50, 51, 52, 53, 54, 55, 56, 57, 58, 4, 37, 38, 6]
noncomputable def junctionlaw6_closed.e2 (k j : Nat) : junctionlaw6_closed.s2.den → Option (OutT junctionlaw6_closed.o2) := fun d => junctionlaw6_closed.l2 k j d.1.1 d.1.2.1.1 d.1.2.1.2.1 d.1.2.1.2.2.1 d.1.2.1.2.2.2.1 d.1.2.1.2.2.2.2.1 d.1.2.1.2.2.2.2.2.1 d.1.2.1.2.2.2.2.2.2.1 d.1.2.1.2.2.2.2.2.2.2.1 d.1.2.1.2.2.2.2.2.2.2.2.1 d.1.2.2.1 d.1.2.2.2.1
noncomputable def junctionlaw6_closed.m2 (k : Nat) : LamS κ := ⟨lamK 59 junctionlaw6_closed.w2 junctionlaw6_closed.s2 junctionlaw6_closed.o2 (junctionlaw6_closed.e2 k k)⟩
def junctionlaw6_closed.o3 : List (Ex × Sh κ) := [(.ret, ⟨0, [4], [.bool], []⟩), (.exit 0, ⟨0, [], [], []⟩)]
noncomputable def junctionlaw6_closed.l3 (k : Nat) : Nat → (List Bool) → ByteArray → (List S42) → (List S47) → (List S110) → (List ByteArray) → (List ByteArray) → (List S112) → (List S98) → Int → Int → Option ((Bool × Unit) × Unit ⊕ Unit × Unit)
  | 0, _, _, _, _, _, _, _, _, _, _, _ => none
  | j + 1, t1, t2, t2_1, t2_2, t2_3, t2_4, t2_5, t2_6, t2_7, t2_8, t5 =>
    if Decidable.decide (t5 < (↑(List.length t2_7) : Int)) = Bool.true then
      Option.bind (Go.Am.Tryd.junctionlaw6_closed.l2 k k t1 t2 t2_1 t2_2 t2_3 t2_4 t2_5 t2_6 t2_7 t2_8 t5 (0 : Int)) fun r0 =>
        Go.Am.onSum r0 (fun r1 => Option.some (Sum.inl ((Prod.fst (Prod.fst r1), ()), ()))) fun r1 =>
          junctionlaw6_closed.l3 k j t1 t2 t2_1 t2_2 t2_3 t2_4 t2_5 t2_6 t2_7 t2_8 (Go.IntKind.wrap Go.IntKind.i64 (t5 + (1 : Int)))
    else Option.some (Sum.inr ((), ()))
def junctionlaw6_closed.w3 : List Nat := [21, 22, 23, 24, 25, 6, 28, 29, 30, 31, 32, 33, 34, 35, 36, 39, 40, 41, 42, 43, 44, 45, 46, 47, 48, 49, 50, 51, 52, 53, 54, 55, 56, 57, 58, 4, 37, 38, 26, 27, 5]
noncomputable def junctionlaw6_closed.e3 (k j : Nat) : junctionlaw6_closed.s3.den → Option (OutT junctionlaw6_closed.o3) := fun d => junctionlaw6_closed.l3 k j d.1.1 d.1.2.1.1 d.1.2.1.2.1 d.1.2.1.2.2.1 d.1.2.1.2.2.2.1 d.1.2.1.2.2.2.2.1 d.1.2.1.2.2.2.2.2.1 d.1.2.1.2.2.2.2.2.2.1 d.1.2.1.2.2.2.2.2.2.2.1 d.1.2.1.2.2.2.2.2.2.2.2.1 d.1.2.2.1
noncomputable def junctionlaw6_closed.m3 (k : Nat) : LamS κ := ⟨lamK 59 junctionlaw6_closed.w3 junctionlaw6_closed.s3 junctionlaw6_closed.o3 (junctionlaw6_closed.e3 k k)⟩
def junctionlaw6_closed.p : Pat κ := .bool
def junctionlaw6_closed.b : List (BPat κ) := []
noncomputable def junctionlaw6_closed (k : Nat) (t0 : ByteArray) (t0_1 : List S42) (t0_2 : List S47) (t0_3 : List S110) (t0_4 : List ByteArray) (t0_5 : List ByteArray) (t0_6 : List S112) (t0_7 : List S98) (t0_8 : Int) (t1 : List Bool) : Option (Bool × Unit) :=
    Option.bind (Go.Am.Tryd.junctionlaw6_closed.l0 k t1 t0 t0_1 t0_2 t0_3 t0_4 t0_5 t0_6 t0_7 t0_8) fun r0 =>
      Go.Am.onSum r0 (fun r1 => Option.some (Prod.fst (Prod.fst r1), ())) fun r1 =>
        Option.bind (Go.Am.Tryd.junctionlaw6_closed.l3 k k t1 t0 t0_1 t0_2 t0_3 t0_4 t0_5 t0_6 t0_7 t0_8 (0 : Int)) fun r2 =>
          Go.Am.onSum r2 (fun r3 => Option.some (Prod.fst (Prod.fst r3), ())) fun r3 => Option.some (Bool.true, ())
noncomputable def junctionlaw6_closed.f (k : Nat) : dens junctionlaw6_closed.i → Option (junctionlaw6_closed.p.den × densB junctionlaw6_closed.b) := fun d => junctionlaw6_closed k d.1.1 d.1.2.1 d.1.2.2.1 d.1.2.2.2.1 d.1.2.2.2.2.1 d.1.2.2.2.2.2.1 d.1.2.2.2.2.2.2.1 d.1.2.2.2.2.2.2.2.1 d.1.2.2.2.2.2.2.2.2.1 d.2.1
noncomputable def junctionlaw6_closed.ctx (k : Nat) : Ctx κ := junctionlaw6_closed.x k [junctionlaw6_closed.m0 k, junctionlaw6_closed.m1 k, junctionlaw6_closed.m2 k, junctionlaw6_closed.m3 k]
theorem junctionlaw6_closed.xOk (k : Nat) : (junctionlaw6_closed.ctx k).Ok := ctxOk trivial trivial
theorem junctionlaw6_closed.k0 (k : Nat) : LamOk (junctionlaw6_closed.ctx k) ((junctionlaw6_closed.ctx k).Λ 0) (sub [1, 0] junctionlaw6_closed.c) :=
  cut_ok (kindOf := kindOf) (C := junctionlaw6_closed.ctx k) (n := .none) (L := junctionlaw6_closed.e0 k) (junctionlaw6_closed.xOk k) (by kernel_rfl) (by kernel_rfl) (fits_of (l := []) (by kernel_rfl) trivial) (fun _ => by kernel_rfl)
theorem junctionlaw6_closed.k1 (k : Nat) : LamOk (junctionlaw6_closed.ctx k) ((junctionlaw6_closed.ctx k).Λ 1) (sub [1, 1, 0, 1, 0, 0, 1, 0, 0, 1, 0, 0, 1, 0] junctionlaw6_closed.c) :=
  cut_ok (kindOf := kindOf) (C := junctionlaw6_closed.ctx k) (n := .none) (L := junctionlaw6_closed.e1 k) (junctionlaw6_closed.xOk k) (by kernel_rfl) (by kernel_rfl) (fits_of (l := []) (by kernel_rfl) trivial) (fun _ => by kernel_rfl)
theorem junctionlaw6_closed.k2 (k : Nat) : LamOk (junctionlaw6_closed.ctx k) ((junctionlaw6_closed.ctx k).Λ 2) (.loop (sub [1, 1, 0, 1, 0, 0, 1, 0, 0, 1, 0, 0] junctionlaw6_closed.c)) :=
  loop_ok (kindOf := kindOf) (C := junctionlaw6_closed.ctx k) (n := (.pair .none (.pair (.cut 1) .none))) (L := junctionlaw6_closed.e2 k) (junctionlaw6_closed.xOk k) (by kernel_rfl) (by kernel_rfl) (fits_of (l := [(1, (sub [1, 1, 0, 1, 0, 0, 1, 0, 0, 1, 0, 0, 1, 0] junctionlaw6_closed.c))]) (by kernel_rfl) ⟨junctionlaw6_closed.k1 k, trivial⟩) (fun _ => by kernel_rfl) (fun _ _ => by kernel_rfl) k
theorem junctionlaw6_closed.k3 (k : Nat) : LamOk (junctionlaw6_closed.ctx k) ((junctionlaw6_closed.ctx k).Λ 3) (.loop (sub [1, 1, 0, 1, 0, 0] junctionlaw6_closed.c)) :=
  loop_ok (kindOf := kindOf) (C := junctionlaw6_closed.ctx k) (n := (.pair .none (.pair (.pair (.pair .none (.pair (.cut 2) .none)) .none) .none))) (L := junctionlaw6_closed.e3 k) (junctionlaw6_closed.xOk k) (by kernel_rfl) (by kernel_rfl) (fits_of (l := [(2, .loop (sub [1, 1, 0, 1, 0, 0, 1, 0, 0, 1, 0, 0] junctionlaw6_closed.c))]) (by kernel_rfl) ⟨junctionlaw6_closed.k2 k, trivial⟩) (fun _ => by kernel_rfl) (fun _ _ => by kernel_rfl) k
theorem junctionlaw6_closed.call (k : Nat) : CallV Tryd.prog E glob 38 junctionlaw6_closed.i junctionlaw6_closed.p junctionlaw6_closed.b (junctionlaw6_closed.f k) :=
  fn_okZ (kindOf := kindOf) (C := junctionlaw6_closed.ctx k) (n := (.pair (.ops [0] 0) (.pair (.cut 0) (.pair (.pair .none (.pair (.cut 3) .none)) .none)))) (junctionlaw6_closed.xOk k) Tryd.func38 junctionlaw6_closed.hb (fits_of (l := [(0, (sub [1, 0] junctionlaw6_closed.c)), (3, .loop (sub [1, 1, 0, 1, 0, 0] junctionlaw6_closed.c))]) (by kernel_rfl) ⟨junctionlaw6_closed.k0 k, junctionlaw6_closed.k3 k, trivial⟩) (fun _ => by kernel_rfl)
noncomputable def junctionlaw6_closed.ent (k : Nat) : EntS κ := ⟨38, [], entOf junctionlaw6_closed.i junctionlaw6_closed.p junctionlaw6_closed.b true (junctionlaw6_closed.f k) E⟩
theorem junctionlaw6_closed.entOk (k : Nat) : EntOk Tryd.prog E glob 38 (junctionlaw6_closed.ent k).run := ent_free encOk (callable_of Tryd.func38 (by kernel_rfl) (by kernel_rfl)) (by rfl) trivial (junctionlaw6_closed.call k)
noncomputable def junctionlaw6_closed.qent (k : Nat) : QEntS κ := ⟨38, qentOf junctionlaw6_closed.i junctionlaw6_closed.p (junctionlaw6_closed.f k) E⟩
theorem junctionlaw6_closed.qentOk (k : Nat) : QEntOk Tryd.prog E glob 38 (junctionlaw6_closed.qent k).run := qent_ok encOk (callable_of Tryd.func38 (by kernel_rfl) (by kernel_rfl)) (junctionlaw6_closed.call k)
noncomputable def junctionlaw6_SafetyWalks.c : Go.Code := match Tryd.f8.body with | some c => c | none => .skip
theorem junctionlaw6_SafetyWalks.hb : Tryd.f8.body = some junctionlaw6_SafetyWalks.c := by kernel_rfl
noncomputable def junctionlaw6_SafetyWalks.x (k : Nat) (ls : List (LamS κ)) : Ctx κ := mkCtx [safety_Reach.ent k, junctionref5_Sound.ent k, junctionlaw6_closed.ent k] [junctionref5_Sound.qent k, junctionlaw6_closed.qent k] ls
def junctionlaw6_SafetyWalks.i : List (Pat κ) := [.agg [.str, .ro .T42, .ro .T47, .ro .T110, .ro .T9, .ro .T9, .ro .T112, .ro .T98, .int .i64], .ro .T4]
def junctionlaw6_SafetyWalks.s0 : Sh κ := ⟨0, [2, 5, 6], [.rop [.str, .ro .T42, .ro .T47, .ro .T110, .ro .T9, .ro .T9, .ro .T112, .ro .T98, .int .i64], .ro .T4, .int .i64], []⟩
def junctionlaw6_SafetyWalks.o0 : List (Ex × Sh κ) := [(.ret, ⟨0, [4], [.bool], []⟩), (.normal, ⟨0, [], [], []⟩)]
noncomputable def junctionlaw6_SafetyWalks.l0 (k : Nat) (t2 : ByteArray) (t2_1 : List S42) (t2_2 : List S47) (t2_3 : List S110) (t2_4 : List ByteArray) (t2_5 : List ByteArray) (t2_6 : List S112) (t2_7 : List S98) (t2_8 : Int) (t5 : List Bool) (t6 : Int) : Option ((Bool × Unit) × Unit ⊕ Unit × Unit) :=
    if (t6 != (0 : Int)) = Bool.false then
      Option.bind (Go.Am.Tryd.junctionlaw6_closed k t2 t2_1 t2_2 t2_3 t2_4 t2_5 t2_6 t2_7 t2_8 t5) fun r0 =>
        if (!Prod.fst r0) = Bool.true then Option.some (Sum.inl ((Bool.false, ()), ())) else Option.some (Sum.inr ((), ()))
    else Option.some (Sum.inl ((Bool.false, ()), ()))
def junctionlaw6_SafetyWalks.w0 : List Nat := [23, 24, 25, 26, 27, 28, 29, 30, 4]
noncomputable def junctionlaw6_SafetyWalks.e0 (k : Nat) : junctionlaw6_SafetyWalks.s0.den → Option (OutT junctionlaw6_SafetyWalks.o0) := fun d => junctionlaw6_SafetyWalks.l0 k d.1.1.1 d.1.1.2.1 d.1.1.2.2.1 d.1.1.2.2.2.1 d.1.1.2.2.2.2.1 d.1.1.2.2.2.2.2.1 d.1.1.2.2.2.2.2.2.1 d.1.1.2.2.2.2.2.2.2.1 d.1.1.2.2.2.2.2.2.2.2.1 d.1.2.1 d.1.2.2.1
noncomputable def junctionlaw6_SafetyWalks.m0 (k : Nat) : LamS κ := ⟨lamK 52 junctionlaw6_SafetyWalks.w0 junctionlaw6_SafetyWalks.s0 junctionlaw6_SafetyWalks.o0 (junctionlaw6_SafetyWalks.e0 k)⟩
def junctionlaw6_SafetyWalks.s2 : Sh κ := ⟨0, [1, 5, 7], [.ro .T4, .ro .T4, .int .i64], []⟩
def junctionlaw6_SafetyWalks.s1 : Sh κ := ⟨0, [1, 5, 7], [.ro .T4, .ro .T4, .int .i64], []⟩
def junctionlaw6_SafetyWalks.o1 : List (Ex × Sh κ) := [(.normal, ⟨0, [], [], []⟩), (.ret, ⟨0, [4], [.bool], []⟩)]
noncomputable def junctionlaw6_SafetyWalks.l1 (k : Nat) (t1 : List Bool) (t5 : List Bool) (t7 : Int) : Option (Unit × Unit ⊕ (Bool × Unit) × Unit) :=
    if (0 : Int) ≤ t7 ∧ t7 < (↑(List.length t5) : Int) then
      if List.getD t5 (Int.toNat t7) Bool.false = Bool.true then
        if (0 : Int) ≤ t7 ∧ t7 < (↑(List.length t1) : Int) then
          if (!List.getD t1 (Int.toNat t7) Bool.false) = Bool.true then Option.some (Sum.inr ((Bool.false, ()), ())) else Option.some (Sum.inl ((), ()))
        else Option.none
      else Option.some (Sum.inl ((), ()))
    else Option.none
def junctionlaw6_SafetyWalks.w1 : List Nat := [41, 42, 43, 44, 45, 46, 47, 48, 49, 50, 51, 4]
noncomputable def junctionlaw6_SafetyWalks.e1 (k : Nat) : junctionlaw6_SafetyWalks.s1.den → Option (OutT junctionlaw6_SafetyWalks.o1) := fun d => junctionlaw6_SafetyWalks.l1 k d.1.1 d.1.2.1 d.1.2.2.1
noncomputable def junctionlaw6_SafetyWalks.m1 (k : Nat) : LamS κ := ⟨lamK 52 junctionlaw6_SafetyWalks.w1 junctionlaw6_SafetyWalks.s1 junctionlaw6_SafetyWalks.o1 (junctionlaw6_SafetyWalks.e1 k)⟩
def junctionlaw6_SafetyWalks.o2 : List (Ex × Sh κ) := [(.ret, ⟨0, [4], [.bool], []⟩), (.exit 0, ⟨0, [], [], []⟩)]
noncomputable def junctionlaw6_SafetyWalks.l2 (k : Nat) : Nat → (List Bool) → (List Bool) → Int → Option ((Bool × Unit) × Unit ⊕ Unit × Unit)
  | 0, _, _, _ => none
  | j + 1, t1, t5, t7 =>
    if Decidable.decide (t7 < (↑(List.length t5) : Int)) = Bool.true then
      Option.bind (Go.Am.Tryd.junctionlaw6_SafetyWalks.l1 k t1 t5 t7) fun r0 =>
        Go.Am.onSum r0 (fun r1 => junctionlaw6_SafetyWalks.l2 k j t1 t5 (Go.IntKind.wrap Go.IntKind.i64 (t7 + (1 : Int)))) fun r1 => Option.some (Sum.inl ((Prod.fst (Prod.fst r1), ()), ()))
    else Option.some (Sum.inr ((), ()))
def junctionlaw6_SafetyWalks.w2 : List Nat := [35, 36, 37, 38, 41, 42, 43, 44, 45, 46, 47, 48, 49, 50, 51, 4, 39, 40, 7]
noncomputable def junctionlaw6_SafetyWalks.e2 (k j : Nat) : junctionlaw6_SafetyWalks.s2.den → Option (OutT junctionlaw6_SafetyWalks.o2) := fun d => junctionlaw6_SafetyWalks.l2 k j d.1.1 d.1.2.1 d.1.2.2.1
noncomputable def junctionlaw6_SafetyWalks.m2 (k : Nat) : LamS κ := ⟨lamK 52 junctionlaw6_SafetyWalks.w2 junctionlaw6_SafetyWalks.s2 junctionlaw6_SafetyWalks.o2 (junctionlaw6_SafetyWalks.e2 k k)⟩
def junctionlaw6_SafetyWalks.p : Pat κ := .bool
def junctionlaw6_SafetyWalks.b : List (BPat κ) := []
noncomputable def junctionlaw6_SafetyWalks (k : Nat) (t0 : ByteArray) (t0_1 : List S42) (t0_2 : List S47) (t0_3 : List S110) (t0_4 : List ByteArray) (t0_5 : List ByteArray) (t0_6 : List S112) (t0_7 : List S98) (t0_8 : Int) (t1 : List Bool) : Option (Bool × Unit) :=
    Option.bind (Go.Am.Tryd.safety_Reach k t0 t0_1 t0_2 t0_3 t0_4 t0_5 t0_6 t0_7 t0_8) fun r0 =>
      Option.bind (Go.Am.Tryd.junctionref5_Sound k t0 t0_1 t0_2 t0_3 t0_4 t0_5 t0_6 t0_7 t0_8) fun r1 =>
        if (!Prod.fst r1) = Bool.true then
          if (Prod.fst (Prod.snd (Prod.fst r0)) == (80 : Int)) = Bool.true then Option.some ((↑(List.length (Prod.fst (Prod.fst r0))) : Int) == (0 : Int), ())
          else Option.some (Bool.false, ())
        else
          Option.bind
            (Go.Am.Tryd.junctionlaw6_SafetyWalks.l0 k t0 t0_1 t0_2 t0_3 t0_4 t0_5 t0_6 t0_7 t0_8 (Prod.fst (Prod.fst r0)) (Prod.fst (Prod.snd (Prod.fst r0))))
            fun r2 =>
            Go.Am.onSum r2 (fun r3 => Option.some (Prod.fst (Prod.fst r3), ())) fun r3 =>
              Option.bind (Go.Am.Tryd.junctionlaw6_closed k t0 t0_1 t0_2 t0_3 t0_4 t0_5 t0_6 t0_7 t0_8 t1) fun r4 =>
                if (!Prod.fst r4) = Bool.true then Option.some (Bool.true, ())
                else
                  Option.bind (Go.Am.Tryd.junctionlaw6_SafetyWalks.l2 k k t1 (Prod.fst (Prod.fst r0)) (0 : Int)) fun r5 =>
                    Go.Am.onSum r5 (fun r6 => Option.some (Prod.fst (Prod.fst r6), ())) fun r6 => Option.some (Bool.true, ())
noncomputable def junctionlaw6_SafetyWalks.f (k : Nat) : dens junctionlaw6_SafetyWalks.i → Option (junctionlaw6_SafetyWalks.p.den × densB junctionlaw6_SafetyWalks.b) := fun d => junctionlaw6_SafetyWalks k d.1.1 d.1.2.1 d.1.2.2.1 d.1.2.2.2.1 d.1.2.2.2.2.1 d.1.2.2.2.2.2.1 d.1.2.2.2.2.2.2.1 d.1.2.2.2.2.2.2.2.1 d.1.2.2.2.2.2.2.2.2.1 d.2.1
noncomputable def junctionlaw6_SafetyWalks.ctx (k : Nat) : Ctx κ := junctionlaw6_SafetyWalks.x k [junctionlaw6_SafetyWalks.m0 k, junctionlaw6_SafetyWalks.m1 k, junctionlaw6_SafetyWalks.m2 k]
theorem junctionlaw6_SafetyWalks.xOk (k : Nat) : (junctionlaw6_SafetyWalks.ctx k).Ok := ctxOk ⟨safety_Reach.entOk k, junctionref5_Sound.entOk k, junctionlaw6_closed.entOk k, trivial⟩ ⟨junctionref5_Sound.qentOk k, junctionlaw6_closed.qentOk k, trivial⟩
theorem junctionlaw6_SafetyWalks.k0 (k : Nat) : LamOk (junctionlaw6_SafetyWalks.ctx k) ((junctionlaw6_SafetyWalks.ctx k).Λ 0) (sub [1, 1, 1, 0] junctionlaw6_SafetyWalks.c) :=
  cut_ok (kindOf := kindOf) (C := junctionlaw6_SafetyWalks.ctx k) (n := .none) (L := junctionlaw6_SafetyWalks.e0 k) (junctionlaw6_SafetyWalks.xOk k) (by kernel_rfl) (by kernel_rfl) (fits_of (l := []) (by kernel_rfl) trivial) (fun _ => by kernel_rfl)
theorem junctionlaw6_SafetyWalks.k1 (k : Nat) : LamOk (junctionlaw6_SafetyWalks.ctx k) ((junctionlaw6_SafetyWalks.ctx k).Λ 1) (sub [1, 1, 1, 1, 1, 0, 1, 0, 0, 1, 0] junctionlaw6_SafetyWalks.c) :=
  cut_ok (kindOf := kindOf) (C := junctionlaw6_SafetyWalks.ctx k) (n := .none) (L := junctionlaw6_SafetyWalks.e1 k) (junctionlaw6_SafetyWalks.xOk k) (by kernel_rfl) (by kernel_rfl) (fits_of (l := []) (by kernel_rfl) trivial) (fun _ => by kernel_rfl)
theorem junctionlaw6_SafetyWalks.k2 (k : Nat) : LamOk (junctionlaw6_SafetyWalks.ctx k) ((junctionlaw6_SafetyWalks.ctx k).Λ 2) (.loop (sub [1, 1, 1, 1, 1, 0, 1, 0, 0] junctionlaw6_SafetyWalks.c)) :=
  loop_ok (kindOf := kindOf) (C := junctionlaw6_SafetyWalks.ctx k) (n := (.pair .none (.pair (.cut 1) .none))) (L := junctionlaw6_SafetyWalks.e2 k) (junctionlaw6_SafetyWalks.xOk k) (by kernel_rfl) (by kernel_rfl) (fits_of (l := [(1, (sub [1, 1, 1, 1, 1, 0, 1, 0, 0, 1, 0] junctionlaw6_SafetyWalks.c))]) (by kernel_rfl) ⟨junctionlaw6_SafetyWalks.k1 k, trivial⟩) (fun _ => by kernel_rfl) (fun _ _ => by kernel_rfl) k
theorem junctionlaw6_SafetyWalks.call (k : Nat) : CallV Tryd.prog E glob 8 junctionlaw6_SafetyWalks.i junctionlaw6_SafetyWalks.p junctionlaw6_SafetyWalks.b (junctionlaw6_SafetyWalks.f k) :=
  fn_okZ (kindOf := kindOf) (C := junctionlaw6_SafetyWalks.ctx k) (n := (.pair (.ops [0] 0) (.pair .none (.pair .none (.pair (.cut 0) (.pair .none (.pair (.pair .none (.pair (.cut 2) .none)) .none))))))) (junctionlaw6_SafetyWalks.xOk k) Tryd.func8 junctionlaw6_SafetyWalks.hb (fits_of (l := [(0, (sub [1, 1, 1, 0] junctionlaw6_SafetyWalks.c)), (2, .loop (sub [1, 1, 1, 1, 1, 0, 1, 0, 0] junctionlaw6_SafetyWalks.c))]) (by kernel_rfl) ⟨junctionlaw6_SafetyWalks.k0 k, junctionlaw6_SafetyWalks.k2 k, trivial⟩) (fun _ => by kernel_rfl)
noncomputable def junctionlaw6_SafetyWalks.ent (k : Nat) : EntS κ := ⟨8, [], entOf junctionlaw6_SafetyWalks.i junctionlaw6_SafetyWalks.p junctionlaw6_SafetyWalks.b true (junctionlaw6_SafetyWalks.f k) E⟩
theorem junctionlaw6_SafetyWalks.entOk (k : Nat) : EntOk Tryd.prog E glob 8 (junctionlaw6_SafetyWalks.ent k).run := ent_free encOk (callable_of Tryd.func8 (by kernel_rfl) (by kernel_rfl)) (by rfl) trivial (junctionlaw6_SafetyWalks.call k)
noncomputable def junctionlaw6_SafetyWalks.qent (k : Nat) : QEntS κ := ⟨8, qentOf junctionlaw6_SafetyWalks.i junctionlaw6_SafetyWalks.p (junctionlaw6_SafetyWalks.f k) E⟩
theorem junctionlaw6_SafetyWalks.qentOk (k : Nat) : QEntOk Tryd.prog E glob 8 (junctionlaw6_SafetyWalks.qent k).run := qent_ok encOk (callable_of Tryd.func8 (by kernel_rfl) (by kernel_rfl)) (junctionlaw6_SafetyWalks.call k)

end Go.Am.Tryd
