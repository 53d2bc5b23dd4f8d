/- The functions that SafetyTurns reaches, over data: written by the generator; Lean checks it. -/
import Derived.Test.YtdgempbldhdihaaDoorTHand6
namespace Go.Am.Tryd
open Go.Proofs Go.Am
set_option maxRecDepth 1000000
set_option linter.unusedVariables false
noncomputable def safety_has.c : Go.Code := match Tryd.f53.body with | some c => c | none => .skip
theorem safety_has.hb : Tryd.f53.body = some safety_has.c := by kernel_rfl
noncomputable def safety_has.x (k : Nat) (ls : List (LamS κ)) : Ctx κ := mkCtx [] [] ls
def safety_has.i : List (Pat κ) := [.int .u64, .int .i64]
def safety_has.p : Pat κ := .bool
def safety_has.b : List (BPat κ) := []
noncomputable def safety_has (k : Nat) (t0 : Int) (t1 : Int) : Option (Bool × Unit) :=
    if Decidable.decide (t1 ≥ (0 : Int)) = Bool.true then
      if Decidable.decide (t1 < (64 : Int)) = Bool.true then
        if Go.IntKind.wrap Go.IntKind.u64 t1 < (0 : Int) then Option.none
        else
          Option.some
            (Go.IntKind.wrap Go.IntKind.u64
                  (↑(BitVec.toNat
                        (BitVec.ofInt (Go.IntKind.bits Go.IntKind.u64) (Go.Am.shr Go.IntKind.u64 t0 (Go.IntKind.wrap Go.IntKind.u64 t1)) &&&
                          BitVec.ofInt (Go.IntKind.bits Go.IntKind.u64) (1 : Int))) :
                    Int) ==
                (1 : Int),
              ())
      else Option.some (Bool.false, ())
    else Option.some (Bool.false, ())
noncomputable def safety_has.f (k : Nat) : dens safety_has.i → Option (safety_has.p.den × densB safety_has.b) := fun d => safety_has k d.1 d.2.1
noncomputable def safety_has.ctx (k : Nat) : Ctx κ := safety_has.x k []
theorem safety_has.xOk (k : Nat) : (safety_has.ctx k).Ok := ctxOk trivial trivial
theorem safety_has.call (k : Nat) : CallV Tryd.prog E glob 53 safety_has.i safety_has.p safety_has.b (safety_has.f k) :=
  fn_okZ (kindOf := kindOf) (C := safety_has.ctx k) (n := .none) (safety_has.xOk k) Tryd.func53 safety_has.hb (fits_of (l := []) (by kernel_rfl) trivial) (fun _ => by kernel_rfl)
noncomputable def safety_has.ent (k : Nat) : EntS κ := ⟨53, [], entOf safety_has.i safety_has.p safety_has.b true (safety_has.f k) E⟩
theorem safety_has.entOk (k : Nat) : EntOk Tryd.prog E glob 53 (safety_has.ent k).run := ent_free encOk (callable_of Tryd.func53 (by kernel_rfl) (by kernel_rfl)) (by rfl) trivial (safety_has.call k)
noncomputable def safety_has.qent (k : Nat) : QEntS κ := ⟨53, qentOf safety_has.i safety_has.p (safety_has.f k) E⟩
theorem safety_has.qentOk (k : Nat) : QEntOk Tryd.prog E glob 53 (safety_has.qent k).run := qent_ok encOk (callable_of Tryd.func53 (by kernel_rfl) (by kernel_rfl)) (safety_has.call k)
noncomputable def safety_Clash.c : Go.Code := match Tryd.f25.body with | some c => c | none => .skip
theorem safety_Clash.hb : Tryd.f25.body = some safety_Clash.c := by kernel_rfl
noncomputable def safety_Clash.x (k : Nat) (ls : List (LamS κ)) : Ctx κ := mkCtx [safety_has.ent k] [safety_has.qent k] ls
def safety_Clash.i : List (Pat κ) := [.agg [.ro .T42, .ro .T47], .int .u64]
def safety_Clash.s1 : Sh κ := ⟨0, [1, 2, 10, 11, 12], [.int .u64, .rop [.ro .T42, .ro .T47], .ro .T47, .int .i64, .int .i64], []⟩
def safety_Clash.s0 : Sh κ := ⟨0, [1, 2, 8], [.int .u64, .rop [.ro .T42, .ro .T47], .ptr 0 0], [.raw 47 [.int .i64, .int .i64, .int .i64, .int .i64]]⟩
def safety_Clash.o0 : List (Ex × Sh κ) := [(.normal, ⟨1, [41, 8], [.bool, .ptr 0 0], [.raw 47 [.int .i64, .int .i64, .int .i64, .int .i64]]⟩)]
noncomputable def safety_Clash.l0 (k : Nat) (t1 : Int) (t2 : List S42) (t2_1 : List S47) (b0 : Int) (b0_1 : Int) (b0_2 : Int) (b0_3 : Int) : Option ((Bool × Unit × Unit) × (Int × Int × Int × Int × Unit) × Unit) :=
    if Decidable.decide (b0 < (↑(List.length t2) : Int)) = Bool.true then
      if Decidable.decide (b0_1 < (↑(List.length t2) : Int)) = Bool.true then
        Option.bind (Go.Am.Tryd.safety_has k t1 b0) fun r0 =>
          if Prod.fst r0 = Bool.true then
            Option.bind (Go.Am.Tryd.safety_has k t1 b0_1) fun r1 => Option.some ((Prod.fst r1, (), ()), (b0, b0_1, b0_2, b0_3, ()), ())
          else Option.some ((Bool.false, (), ()), (b0, b0_1, b0_2, b0_3, ()), ())
      else Option.some ((Bool.false, (), ()), (b0, b0_1, b0_2, b0_3, ()), ())
    else Option.some ((Bool.false, (), ()), (b0, b0_1, b0_2, b0_3, ()), ())
def safety_Clash.w0 : List Nat := [16, 17, 18, 19, 20, 21, 22, 23, 24, 25, 26, 27, 28, 29, 30, 31, 32, 33, 34, 35, 36, 37, 38, 39, 40, 41]
noncomputable def safety_Clash.e0 (k : Nat) : safety_Clash.s0.den → Option (OutT safety_Clash.o0) := fun d => safety_Clash.l0 k d.1.1 d.1.2.1.1 d.1.2.1.2.1 d.2.1.1 d.2.1.2.1 d.2.1.2.2.1 d.2.1.2.2.2.1
noncomputable def safety_Clash.m0 (k : Nat) : LamS κ := ⟨lamK 47 safety_Clash.w0 safety_Clash.s0 safety_Clash.o0 (safety_Clash.e0 k)⟩
def safety_Clash.o1 : List (Ex × Sh κ) := [(.ret, ⟨0, [4, 5, 6], [.int .i64, .int .i64, .bool], []⟩), (.exit 0, ⟨0, [], [], []⟩)]
noncomputable def safety_Clash.l1 (k : Nat) : Nat → Int → (List S42) → (List S47) → (List S47) → Int → Int → Option ((Int × Int × Bool × Unit) × Unit ⊕ Unit × Unit)
  | 0, _, _, _, _, _, _ => none
  | j + 1, t1, t2, t2_1, t10, t11, t12 =>
    if Decidable.decide (t12 < t11) = Bool.true then
      if (0 : Int) ≤ t12 ∧ t12 < (↑(List.length t10) : Int) then
        Option.bind
          (Go.Am.Tryd.safety_Clash.l0 k t1 t2 t2_1 (Go.Am.Tryd.S47.f0 (List.getD t10 (Int.toNat t12) (Go.Am.Tryd.S47.mk (0 : Int) (0 : Int) (0 : Int) (0 : Int))))
            (Go.Am.Tryd.S47.f1 (List.getD t10 (Int.toNat t12) (Go.Am.Tryd.S47.mk (0 : Int) (0 : Int) (0 : Int) (0 : Int))))
            (Go.Am.Tryd.S47.f2 (List.getD t10 (Int.toNat t12) (Go.Am.Tryd.S47.mk (0 : Int) (0 : Int) (0 : Int) (0 : Int))))
            (Go.Am.Tryd.S47.f3 (List.getD t10 (Int.toNat t12) (Go.Am.Tryd.S47.mk (0 : Int) (0 : Int) (0 : Int) (0 : Int)))))
          fun r0 =>
          if Prod.fst (Prod.fst r0) = Bool.true then
            Option.some (Sum.inl ((Prod.fst (Prod.fst (Prod.snd r0)), Prod.fst (Prod.snd (Prod.fst (Prod.snd r0))), Bool.true, ()), ()))
          else safety_Clash.l1 k j t1 t2 t2_1 t10 t11 (Go.IntKind.wrap Go.IntKind.i64 (t12 + (1 : Int)))
      else Option.none
    else Option.some (Sum.inr ((), ()))
def safety_Clash.w1 : List Nat := [13, 14, 15, 8, 16, 17, 18, 19, 20, 21, 22, 23, 24, 25, 26, 27, 28, 29, 30, 31, 32, 33, 34, 35, 36, 37, 38, 39, 40, 41, 42, 43, 44, 45, 4, 5, 6, 46, 12]
noncomputable def safety_Clash.e1 (k j : Nat) : safety_Clash.s1.den → Option (OutT safety_Clash.o1) := fun d => safety_Clash.l1 k j d.1.1 d.1.2.1.1 d.1.2.1.2.1 d.1.2.2.1 d.1.2.2.2.1 d.1.2.2.2.2.1
noncomputable def safety_Clash.m1 (k : Nat) : LamS κ := ⟨lamK 47 safety_Clash.w1 safety_Clash.s1 safety_Clash.o1 (safety_Clash.e1 k k)⟩
def safety_Clash.p : Pat κ := .tup [.int .i64, .int .i64, .bool]
def safety_Clash.b : List (BPat κ) := []
noncomputable def safety_Clash (k : Nat) (t0 : List S42) (t0_1 : List S47) (t1 : Int) : Option ((Int × Int × Bool × Unit) × Unit) :=
    Option.bind (Go.Am.Tryd.safety_Clash.l1 k k t1 t0 t0_1 t0_1 (↑(List.length t0_1) : Int) (0 : Int)) fun r0 =>
      Go.Am.onSum r0 (fun r1 => Option.some ((Prod.fst (Prod.fst r1), Prod.fst (Prod.snd (Prod.fst r1)), Prod.fst (Prod.snd (Prod.snd (Prod.fst r1))), ()), ()))
        fun r1 => Option.some (((-1 : Int), (-1 : Int), Bool.false, ()), ())
noncomputable def safety_Clash.f (k : Nat) : dens safety_Clash.i → Option (safety_Clash.p.den × densB safety_Clash.b) := fun d => safety_Clash k d.1.1 d.1.2.1 d.2.1
noncomputable def safety_Clash.ctx (k : Nat) : Ctx κ := safety_Clash.x k [safety_Clash.m0 k, safety_Clash.m1 k]
theorem safety_Clash.xOk (k : Nat) : (safety_Clash.ctx k).Ok := ctxOk ⟨safety_has.entOk k, trivial⟩ ⟨safety_has.qentOk k, trivial⟩
theorem safety_Clash.k0 (k : Nat) : LamOk (safety_Clash.ctx k) ((safety_Clash.ctx k).Λ 0) (sub [1, 0, 1, 0, 0, 1, 1, 0, 0, 1, 0] safety_Clash.c) :=
  cut_ok (kindOf := kindOf) (C := safety_Clash.ctx k) (n := .none) (L := safety_Clash.e0 k) (safety_Clash.xOk k) (by kernel_rfl) (by kernel_rfl) (fits_of (l := []) (by kernel_rfl) trivial) (fun _ => by kernel_rfl)
theorem safety_Clash.k1 (k : Nat) : LamOk (safety_Clash.ctx k) ((safety_Clash.ctx k).Λ 1) (.loop (sub [1, 0, 1, 0, 0] safety_Clash.c)) :=
  loop_ok (kindOf := kindOf) (C := safety_Clash.ctx k) (n := (.pair .none (.pair .none (.pair (.pair (.pair .none (.pair (.cut 0) (.pair (.pair (.ops [] 7) .none) .none))) .none) .none)))) (L := safety_Clash.e1 k) (safety_Clash.xOk k) (by kernel_rfl) (by kernel_rfl) (fits_of (l := [(0, (sub [1, 0, 1, 0, 0, 1, 1, 0, 0, 1, 0] safety_Clash.c))]) (by kernel_rfl) ⟨safety_Clash.k0 k, trivial⟩) (fun _ => by kernel_rfl) (fun _ _ => by kernel_rfl) k
theorem safety_Clash.call (k : Nat) : CallV Tryd.prog E glob 25 safety_Clash.i safety_Clash.p safety_Clash.b (safety_Clash.f k) :=
  fn_okZ (kindOf := kindOf) (C := safety_Clash.ctx k) (n := (.pair (.ops [0] 0) (.pair (.pair .none (.pair (.cut 1) .none)) .none))) (safety_Clash.xOk k) Tryd.func25 safety_Clash.hb (fits_of (l := [(1, .loop (sub [1, 0, 1, 0, 0] safety_Clash.c))]) (by kernel_rfl) ⟨safety_Clash.k1 k, trivial⟩) (fun _ => by kernel_rfl)
noncomputable def safety_Clash.ent (k : Nat) : EntS κ := ⟨25, [], entOf safety_Clash.i safety_Clash.p safety_Clash.b true (safety_Clash.f k) E⟩
theorem safety_Clash.entOk (k : Nat) : EntOk Tryd.prog E glob 25 (safety_Clash.ent k).run := ent_free encOk (callable_of Tryd.func25 (by kernel_rfl) (by kernel_rfl)) (by rfl) trivial (safety_Clash.call k)
noncomputable def check_in.c : Go.Code := match Tryd.f75.body with | some c => c | none => .skip
theorem check_in.hb : Tryd.f75.body = some check_in.c := by kernel_rfl
noncomputable def check_in.x (k : Nat) (ls : List (LamS κ)) : Ctx κ := mkCtx [] [] ls
def check_in.i : List (Pat κ) := [.int .i64, .int .i64, .int .i64]
def check_in.p : Pat κ := .bool
def check_in.b : List (BPat κ) := []
noncomputable def check_in (k : Nat) (t0 : Int) (t1 : Int) (t2 : Int) : Option (Bool × Unit) :=
    if Decidable.decide (t0 ≥ t1) = Bool.true then Option.some (Decidable.decide (t0 ≤ t2), ()) else Option.some (Bool.false, ())
noncomputable def check_in.f (k : Nat) : dens check_in.i → Option (check_in.p.den × densB check_in.b) := fun d => check_in k d.1 d.2.1 d.2.2.1
noncomputable def check_in.ctx (k : Nat) : Ctx κ := check_in.x k []
theorem check_in.xOk (k : Nat) : (check_in.ctx k).Ok := ctxOk trivial trivial
theorem check_in.call (k : Nat) : CallV Tryd.prog E glob 75 check_in.i check_in.p check_in.b (check_in.f k) :=
  fn_okZ (kindOf := kindOf) (C := check_in.ctx k) (n := .none) (check_in.xOk k) Tryd.func75 check_in.hb (fits_of (l := []) (by kernel_rfl) trivial) (fun _ => by kernel_rfl)
noncomputable def check_in.ent (k : Nat) : EntS κ := ⟨75, [], entOf check_in.i check_in.p check_in.b true (check_in.f k) E⟩
theorem check_in.entOk (k : Nat) : EntOk Tryd.prog E glob 75 (check_in.ent k).run := ent_free encOk (callable_of Tryd.func75 (by kernel_rfl) (by kernel_rfl)) (by rfl) trivial (check_in.call k)
noncomputable def check_in.qent (k : Nat) : QEntS κ := ⟨75, qentOf check_in.i check_in.p (check_in.f k) E⟩
theorem check_in.qentOk (k : Nat) : QEntOk Tryd.prog E glob 75 (check_in.qent k).run := qent_ok encOk (callable_of Tryd.func75 (by kernel_rfl) (by kernel_rfl)) (check_in.call k)
noncomputable def check_Grid.c : Go.Code := match Tryd.f47.body with | some c => c | none => .skip
theorem check_Grid.hb : Tryd.f47.body = some check_Grid.c := by kernel_rfl
noncomputable def check_Grid.x (k : Nat) (ls : List (LamS κ)) : Ctx κ := mkCtx [check_in.ent k] [check_in.qent k] ls
def check_Grid.i : List (Pat κ) := [.agg [.ro .T42, .ro .T47]]
def check_Grid.s0 : Sh κ := ⟨0, [14, 15, 16], [.ro .T42, .int .i64, .int .i64], []⟩
def check_Grid.o0 : List (Ex × Sh κ) := [(.ret, ⟨0, [2], [.bool], []⟩), (.exit 0, ⟨0, [], [], []⟩)]
noncomputable def check_Grid.l0 (k : Nat) : Nat → (List S42) → Int → Int → Option ((Bool × Unit) × Unit ⊕ Unit × Unit)
  | 0, _, _, _ => none
  | j + 1, t14, t15, t16 =>
    if Decidable.decide (t16 < t15) = Bool.true then
      if (0 : Int) ≤ t16 ∧ t16 < (↑(List.length t14) : Int) then
        Option.bind
          (Go.Am.Tryd.check_in k (Go.Am.Tryd.S42.f1 (List.getD t14 (Int.toNat t16) (Go.Am.Tryd.S42.mk ByteArray.empty (0 : Int) (0 : Int) (0 : Int) (0 : Int))))
            (1 : Int) (2 : Int))
          fun r0 =>
          if (!Prod.fst r0) = Bool.false then
            Option.bind
              (Go.Am.Tryd.check_in k (Go.Am.Tryd.S42.f2 (List.getD t14 (Int.toNat t16) (Go.Am.Tryd.S42.mk ByteArray.empty (0 : Int) (0 : Int) (0 : Int) (0 : Int))))
                (1 : Int) (3600 : Int))
              fun r1 =>
              if (!Prod.fst r1) = Bool.false then
                Option.bind
                  (Go.Am.Tryd.check_in k
                    (Go.Am.Tryd.S42.f3 (List.getD t14 (Int.toNat t16) (Go.Am.Tryd.S42.mk ByteArray.empty (0 : Int) (0 : Int) (0 : Int) (0 : Int)))) (0 : Int)
                    (60 : Int))
                  fun r2 =>
                  if (!Prod.fst r2) = Bool.false then
                    Option.bind
                      (Go.Am.Tryd.check_in k
                        (Go.Am.Tryd.S42.f4 (List.getD t14 (Int.toNat t16) (Go.Am.Tryd.S42.mk ByteArray.empty (0 : Int) (0 : Int) (0 : Int) (0 : Int)))) (0 : Int)
                        (60 : Int))
                      fun r3 =>
                      if (!Prod.fst r3) = Bool.true then Option.some (Sum.inl ((Bool.false, ()), ()))
                      else check_Grid.l0 k j t14 t15 (Go.IntKind.wrap Go.IntKind.i64 (t16 + (1 : Int)))
                  else Option.some (Sum.inl ((Bool.false, ()), ()))
              else Option.some (Sum.inl ((Bool.false, ()), ()))
          else Option.some (Sum.inl ((Bool.false, ()), ()))
      else Option.none
    else Option.some (Sum.inr ((), ()))
def check_Grid.w0 : List Nat := [17, 18, 19, 4, 20, 21, 22, 23, 24, 25, 26, 27, 28, 29, 30, 31, 32, 33, 34, 35, 36, 37, 38, 39, 40, 41, 2, 42, 16]
noncomputable def check_Grid.e0 (k j : Nat) : check_Grid.s0.den → Option (OutT check_Grid.o0) := fun d => check_Grid.l0 k j d.1.1 d.1.2.1 d.1.2.2.1
noncomputable def check_Grid.m0 (k : Nat) : LamS κ := ⟨lamK 101 check_Grid.w0 check_Grid.s0 check_Grid.o0 (check_Grid.e0 k k)⟩
def check_Grid.s3 : Sh κ := ⟨0, [1, 5, 6, 44, 45, 46], [.rop [.ro .T42, .ro .T47], .int .i64, .int .i64, .ro .T47, .int .i64, .int .i64], []⟩
def check_Grid.s1 : Sh κ := ⟨0, [1, 8], [.rop [.ro .T42, .ro .T47], .ptr 0 0], [.raw 47 [.int .i64, .int .i64, .int .i64, .int .i64]]⟩
def check_Grid.o1 : List (Ex × Sh κ) := [(.ret, ⟨1, [2], [.bool], [.raw 47 [.int .i64, .int .i64, .int .i64, .int .i64]]⟩), (.normal, ⟨1, [8], [.ptr 0 0], [.raw 47 [.int .i64, .int .i64, .int .i64, .int .i64]]⟩)]
noncomputable def check_Grid.l1 (k : Nat) (t1 : List S42) (t1_1 : List S47) (b0 : Int) (b0_1 : Int) (b0_2 : Int) (b0_3 : Int) : Option ((Bool × Unit) × (Int × Int × Int × Int × Unit) × Unit ⊕ (Unit × Unit) × (Int × Int × Int × Int × Unit) × Unit) :=
    if Decidable.decide (b0 < (0 : Int)) = Bool.false then
      if Decidable.decide (b0_1 ≤ b0) = Bool.false then
        if Decidable.decide (b0_1 ≥ (↑(List.length t1) : Int)) = Bool.false then
          Option.bind (Go.Am.Tryd.check_in k b0_2 (0 : Int) (3600 : Int)) fun r0 =>
            if (!Prod.fst r0) = Bool.false then
              Option.bind (Go.Am.Tryd.check_in k b0_3 (0 : Int) (3600 : Int)) fun r1 =>
                if (!Prod.fst r1) = Bool.true then Option.some (Sum.inl ((Bool.false, ()), (b0, b0_1, b0_2, b0_3, ()), ()))
                else Option.some (Sum.inr (((), ()), (b0, b0_1, b0_2, b0_3, ()), ()))
            else Option.some (Sum.inl ((Bool.false, ()), (b0, b0_1, b0_2, b0_3, ()), ()))
        else Option.some (Sum.inl ((Bool.false, ()), (b0, b0_1, b0_2, b0_3, ()), ()))
      else Option.some (Sum.inl ((Bool.false, ()), (b0, b0_1, b0_2, b0_3, ()), ()))
    else Option.some (Sum.inl ((Bool.false, ()), (b0, b0_1, b0_2, b0_3, ()), ()))
def check_Grid.w1 : List Nat := [50, 51, 52, 53, 54, 55, 56, 57, 58, 59, 60, 61, 62, 63, 64, 65, 66, 67, 68, 69, 70, 71, 72, 73, 74, 75, 76, 77, 78, 79, 2]
noncomputable def check_Grid.e1 (k : Nat) : check_Grid.s1.den → Option (OutT check_Grid.o1) := fun d => check_Grid.l1 k d.1.1.1 d.1.1.2.1 d.2.1.1 d.2.1.2.1 d.2.1.2.2.1 d.2.1.2.2.2.1
noncomputable def check_Grid.m1 (k : Nat) : LamS κ := ⟨lamK 101 check_Grid.w1 check_Grid.s1 check_Grid.o1 (check_Grid.e1 k)⟩
def check_Grid.s2 : Sh κ := ⟨0, [5, 6, 8], [.int .i64, .int .i64, .ptr 0 0], [.raw 47 [.int .i64, .int .i64, .int .i64, .int .i64]]⟩
def check_Grid.o2 : List (Ex × Sh κ) := [(.ret, ⟨1, [2], [.bool], [.raw 47 [.int .i64, .int .i64, .int .i64, .int .i64]]⟩), (.normal, ⟨1, [8], [.ptr 0 0], [.raw 47 [.int .i64, .int .i64, .int .i64, .int .i64]]⟩)]
noncomputable def check_Grid.l2 (k : Nat) (t5 : Int) (t6 : Int) (b0 : Int) (b0_1 : Int) (b0_2 : Int) (b0_3 : Int) : Option ((Bool × Unit) × (Int × Int × Int × Int × Unit) × Unit ⊕ (Unit × Unit) × (Int × Int × Int × Int × Unit) × Unit) :=
    if Decidable.decide (b0 < t5) = Bool.false then
      if (b0 == t5) = Bool.true then
        if Decidable.decide (b0_1 ≤ t6) = Bool.true then Option.some (Sum.inl ((Bool.false, ()), (b0, b0_1, b0_2, b0_3, ()), ()))
        else Option.some (Sum.inr (((), ()), (b0, b0_1, b0_2, b0_3, ()), ()))
      else Option.some (Sum.inr (((), ()), (b0, b0_1, b0_2, b0_3, ()), ()))
    else Option.some (Sum.inl ((Bool.false, ()), (b0, b0_1, b0_2, b0_3, ()), ()))
def check_Grid.w2 : List Nat := [80, 81, 82, 83, 84, 85, 86, 87, 88, 89, 90, 91, 92, 93, 94, 95, 2]
noncomputable def check_Grid.e2 (k : Nat) : check_Grid.s2.den → Option (OutT check_Grid.o2) := fun d => check_Grid.l2 k d.1.1 d.1.2.1 d.2.1.1 d.2.1.2.1 d.2.1.2.2.1 d.2.1.2.2.2.1
noncomputable def check_Grid.m2 (k : Nat) : LamS κ := ⟨lamK 101 check_Grid.w2 check_Grid.s2 check_Grid.o2 (check_Grid.e2 k)⟩
def check_Grid.o3 : List (Ex × Sh κ) := [(.ret, ⟨0, [2], [.bool], []⟩), (.exit 2, ⟨0, [], [], []⟩)]
noncomputable def check_Grid.l3 (k : Nat) : Nat → (List S42) → (List S47) → Int → Int → (List S47) → Int → Int → Option ((Bool × Unit) × Unit ⊕ Unit × Unit)
  | 0, _, _, _, _, _, _, _ => none
  | j + 1, t1, t1_1, t5, t6, t44, t45, t46 =>
    if Decidable.decide (t46 < t45) = Bool.true then
      if (0 : Int) ≤ t46 ∧ t46 < (↑(List.length t44) : Int) then
        Option.bind
          (Go.Am.Tryd.check_Grid.l1 k t1 t1_1 (Go.Am.Tryd.S47.f0 (List.getD t44 (Int.toNat t46) (Go.Am.Tryd.S47.mk (0 : Int) (0 : Int) (0 : Int) (0 : Int))))
            (Go.Am.Tryd.S47.f1 (List.getD t44 (Int.toNat t46) (Go.Am.Tryd.S47.mk (0 : Int) (0 : Int) (0 : Int) (0 : Int))))
            (Go.Am.Tryd.S47.f2 (List.getD t44 (Int.toNat t46) (Go.Am.Tryd.S47.mk (0 : Int) (0 : Int) (0 : Int) (0 : Int))))
            (Go.Am.Tryd.S47.f3 (List.getD t44 (Int.toNat t46) (Go.Am.Tryd.S47.mk (0 : Int) (0 : Int) (0 : Int) (0 : Int)))))
          fun r0 =>
          Go.Am.onSum r0 (fun r1 => Option.some (Sum.inl ((Prod.fst (Prod.fst r1), ()), ()))) fun r1 =>
            Option.bind
              (Go.Am.Tryd.check_Grid.l2 k t5 t6 (Prod.fst (Prod.fst (Prod.snd r1))) (Prod.fst (Prod.snd (Prod.fst (Prod.snd r1))))
                (Prod.fst (Prod.snd (Prod.snd (Prod.fst (Prod.snd r1))))) (Prod.fst (Prod.snd (Prod.snd (Prod.snd (Prod.fst (Prod.snd r1)))))))
              fun r2 =>
              Go.Am.onSum r2 (fun r3 => Option.some (Sum.inl ((Prod.fst (Prod.fst r3), ()), ()))) fun r3 =>
                check_Grid.l3 k j t1 t1_1 (Prod.fst (Prod.fst (Prod.snd r3))) (Prod.fst (Prod.snd (Prod.fst (Prod.snd r3)))) t44 t45
                  (Go.IntKind.wrap Go.IntKind.i64 (t46 + (1 : Int)))
      else Option.none
    else Option.some (Sum.inr ((), ()))
def check_Grid.w3 : List Nat := [47, 48, 49, 8, 50, 51, 52, 53, 54, 55, 56, 57, 58, 59, 60, 61, 62, 63, 64, 65, 66, 67, 68, 69, 70, 71, 72, 73, 74, 75, 76, 77, 78, 79, 2, 80, 81, 82, 83, 84, 85, 86, 87, 88, 89, 90, 91, 92, 93, 94, 95, 96, 97, 98, 99, 5, 6, 100, 46]
noncomputable def check_Grid.e3 (k j : Nat) : check_Grid.s3.den → Option (OutT check_Grid.o3) := fun d => check_Grid.l3 k j d.1.1.1 d.1.1.2.1 d.1.2.1 d.1.2.2.1 d.1.2.2.2.1 d.1.2.2.2.2.1 d.1.2.2.2.2.2.1
noncomputable def check_Grid.m3 (k : Nat) : LamS κ := ⟨lamK 101 check_Grid.w3 check_Grid.s3 check_Grid.o3 (check_Grid.e3 k k)⟩
def check_Grid.p : Pat κ := .bool
def check_Grid.b : List (BPat κ) := []
noncomputable def check_Grid (k : Nat) (t0 : List S42) (t0_1 : List S47) : Option (Bool × Unit) :=
    if Decidable.decide ((↑(List.length t0) : Int) > (64 : Int)) = Bool.true then Option.some (Bool.false, ())
    else
      Option.bind (Go.Am.Tryd.check_Grid.l0 k k t0 (↑(List.length t0) : Int) (0 : Int)) fun r0 =>
        Go.Am.onSum r0 (fun r1 => Option.some (Prod.fst (Prod.fst r1), ())) fun r1 =>
          Option.bind (Go.Am.Tryd.check_Grid.l3 k k t0 t0_1 (-1 : Int) (-1 : Int) t0_1 (↑(List.length t0_1) : Int) (0 : Int)) fun r2 =>
            Go.Am.onSum r2 (fun r3 => Option.some (Prod.fst (Prod.fst r3), ())) fun r3 => Option.some (Bool.true, ())
noncomputable def check_Grid.f (k : Nat) : dens check_Grid.i → Option (check_Grid.p.den × densB check_Grid.b) := fun d => check_Grid k d.1.1 d.1.2.1
noncomputable def check_Grid.ctx (k : Nat) : Ctx κ := check_Grid.x k [check_Grid.m0 k, check_Grid.m1 k, check_Grid.m2 k, check_Grid.m3 k]
theorem check_Grid.xOk (k : Nat) : (check_Grid.ctx k).Ok := ctxOk ⟨check_in.entOk k, trivial⟩ ⟨check_in.qentOk k, trivial⟩
theorem check_Grid.k0 (k : Nat) : LamOk (check_Grid.ctx k) ((check_Grid.ctx k).Λ 0) (.loop (sub [1, 1, 0, 1, 0, 0] check_Grid.c)) :=
  loop_ok (kindOf := kindOf) (C := check_Grid.ctx k) (n := .none) (L := check_Grid.e0 k) (check_Grid.xOk k) (by kernel_rfl) (by kernel_rfl) (fits_of (l := []) (by kernel_rfl) trivial) (fun _ => by kernel_rfl) (fun _ _ => by kernel_rfl) k
theorem check_Grid.k1 (k : Nat) : LamOk (check_Grid.ctx k) ((check_Grid.ctx k).Λ 1) (sub [1, 1, 1, 1, 0, 1, 0, 0, 1, 1, 0, 0, 1, 0] check_Grid.c) :=
  cut_ok (kindOf := kindOf) (C := check_Grid.ctx k) (n := .none) (L := check_Grid.e1 k) (check_Grid.xOk k) (by kernel_rfl) (by kernel_rfl) (fits_of (l := []) (by kernel_rfl) trivial) (fun _ => by kernel_rfl)
theorem check_Grid.k2 (k : Nat) : LamOk (check_Grid.ctx k) ((check_Grid.ctx k).Λ 2) (sub [1, 1, 1, 1, 0, 1, 0, 0, 1, 1, 0, 0, 1, 1, 0] check_Grid.c) :=
  cut_ok (kindOf := kindOf) (C := check_Grid.ctx k) (n := .none) (L := check_Grid.e2 k) (check_Grid.xOk k) (by kernel_rfl) (by kernel_rfl) (fits_of (l := []) (by kernel_rfl) trivial) (fun _ => by kernel_rfl)
theorem check_Grid.k3 (k : Nat) : LamOk (check_Grid.ctx k) ((check_Grid.ctx k).Λ 3) (.loop (sub [1, 1, 1, 1, 0, 1, 0, 0] check_Grid.c)) :=
  loop_ok (kindOf := kindOf) (C := check_Grid.ctx k) (n := (.pair .none (.pair .none (.pair (.pair (.pair .none (.pair (.cut 1) (.pair (.cut 2) (.ops [] 6)))) .none) .none)))) (L := check_Grid.e3 k) (check_Grid.xOk k) (by kernel_rfl) (by kernel_rfl) (fits_of (l := [(1, (sub [1, 1, 1, 1, 0, 1, 0, 0, 1, 1, 0, 0, 1, 0] check_Grid.c)), (2, (sub [1, 1, 1, 1, 0, 1, 0, 0, 1, 1, 0, 0, 1, 1, 0] check_Grid.c))]) (by kernel_rfl) ⟨check_Grid.k1 k, check_Grid.k2 k, trivial⟩) (fun _ => by kernel_rfl) (fun _ _ => by kernel_rfl) k
theorem check_Grid.call (k : Nat) : CallV Tryd.prog E glob 47 check_Grid.i check_Grid.p check_Grid.b (check_Grid.f k) :=
  fn_okZ (kindOf := kindOf) (C := check_Grid.ctx k) (n := (.pair (.ops [0] 0) (.pair .none (.pair (.pair .none (.pair (.cut 0) .none)) (.pair .none (.pair (.pair .none (.pair (.cut 3) .none)) .none)))))) (check_Grid.xOk k) Tryd.func47 check_Grid.hb (fits_of (l := [(0, .loop (sub [1, 1, 0, 1, 0, 0] check_Grid.c)), (3, .loop (sub [1, 1, 1, 1, 0, 1, 0, 0] check_Grid.c))]) (by kernel_rfl) ⟨check_Grid.k0 k, check_Grid.k3 k, trivial⟩) (fun _ => by kernel_rfl)
noncomputable def check_Grid.ent (k : Nat) : EntS κ := ⟨47, [], entOf check_Grid.i check_Grid.p check_Grid.b true (check_Grid.f k) E⟩
theorem check_Grid.entOk (k : Nat) : EntOk Tryd.prog E glob 47 (check_Grid.ent k).run := ent_free encOk (callable_of Tryd.func47 (by kernel_rfl) (by kernel_rfl)) (by rfl) trivial (check_Grid.call k)
noncomputable def check_Grid.qent (k : Nat) : QEntS κ := ⟨47, qentOf check_Grid.i check_Grid.p (check_Grid.f k) E⟩
theorem check_Grid.qentOk (k : Nat) : QEntOk Tryd.prog E glob 47 (check_Grid.qent k).run := qent_ok encOk (callable_of Tryd.func47 (by kernel_rfl) (by kernel_rfl)) (check_Grid.call k)
noncomputable def safety_refused.c : Go.Code := match Tryd.f43.body with | some c => c | none => .skip
theorem safety_refused.hb : Tryd.f43.body = some safety_refused.c := by kernel_rfl
noncomputable def safety_refused.x (k : Nat) (ls : List (LamS κ)) : Ctx κ := mkCtx [safety_Clash.ent k, check_Grid.ent k] [check_Grid.qent k] ls
def safety_refused.i : List (Pat κ) := [.agg [.ro .T42, .ro .T47], .int .u64, .int .u64]
def safety_refused.s0 : Sh κ := ⟨0, [3, 17, 18], [.rop [.ro .T42, .ro .T47], .agg [.int .u64, .int .u64], .int .i64], []⟩
def safety_refused.o0 : List (Ex × Sh κ) := [(.ret, ⟨0, [6], [.int .i64], []⟩), (.exit 0, ⟨0, [], [], []⟩)]
noncomputable def safety_refused.l0 (k : Nat) : Nat → (List S42) → (List S47) → Int → Int → Int → Option ((Int × Unit) × Unit ⊕ Unit × Unit)
  | 0, _, _, _, _, _ => none
  | j + 1, t3, t3_1, t17, t17_1, t18 =>
    if Decidable.decide (t18 < (2 : Int)) = Bool.true then
      if t18 = (↑(0 : Nat) : Int) then
        Option.bind (Go.Am.Tryd.safety_Clash k t3 t3_1 t17) fun r1 =>
          if Prod.fst (Prod.snd (Prod.snd (Prod.fst r1))) = Bool.true then Option.some (Sum.inl (((60 : Int), ()), ()))
          else safety_refused.l0 k j t3 t3_1 t17 t17_1 (Go.IntKind.wrap Go.IntKind.i64 (t18 + (1 : Int)))
      else
        if t18 = (↑((0 : Nat) + (1 : Nat)) : Int) then
          Option.bind (Go.Am.Tryd.safety_Clash k t3 t3_1 t17_1) fun r0 =>
            if Prod.fst (Prod.snd (Prod.snd (Prod.fst r0))) = Bool.true then Option.some (Sum.inl (((60 : Int), ()), ()))
            else safety_refused.l0 k j t3 t3_1 t17 t17_1 (Go.IntKind.wrap Go.IntKind.i64 (t18 + (1 : Int)))
        else Option.none
    else Option.some (Sum.inr ((), ()))
def safety_refused.w0 : List Nat := [19, 20, 8, 22, 23, 24, 21, 25, 26, 27, 9, 10, 11, 28, 6, 29, 18]
noncomputable def safety_refused.e0 (k j : Nat) : safety_refused.s0.den → Option (OutT safety_refused.o0) := fun d => safety_refused.l0 k j d.1.1.1 d.1.1.2.1 d.1.2.1.1 d.1.2.1.2.1 d.1.2.2.1
noncomputable def safety_refused.m0 (k : Nat) : LamS κ := ⟨lamK 30 safety_refused.w0 safety_refused.s0 safety_refused.o0 (safety_refused.e0 k k)⟩
def safety_refused.p : Pat κ := .int .i64
def safety_refused.b : List (BPat κ) := []
noncomputable def safety_refused (k : Nat) (t0 : List S42) (t0_1 : List S47) (t1 : Int) (t2 : Int) : Option (Int × Unit) :=
    Option.bind (Go.Am.Tryd.check_Grid k t0 t0_1) fun r0 =>
      if (!Prod.fst r0) = Bool.true then Option.some ((70 : Int), ())
      else
        Option.bind (Go.Am.Tryd.safety_refused.l0 k k t0 t0_1 t1 t2 (0 : Int)) fun r1 =>
          Go.Am.onSum r1 (fun r2 => Option.some (Prod.fst (Prod.fst r2), ())) fun r2 => Option.some ((0 : Int), ())
noncomputable def safety_refused.f (k : Nat) : dens safety_refused.i → Option (safety_refused.p.den × densB safety_refused.b) := fun d => safety_refused k d.1.1 d.1.2.1 d.2.1 d.2.2.1
noncomputable def safety_refused.ctx (k : Nat) : Ctx κ := safety_refused.x k [safety_refused.m0 k]
theorem safety_refused.xOk (k : Nat) : (safety_refused.ctx k).Ok := ctxOk ⟨safety_Clash.entOk k, check_Grid.entOk k, trivial⟩ ⟨check_Grid.qentOk k, trivial⟩
theorem safety_refused.k0 (k : Nat) : LamOk (safety_refused.ctx k) ((safety_refused.ctx k).Λ 0) (.loop (sub [1, 1, 0, 1, 0, 0] safety_refused.c)) :=
  loop_ok (kindOf := kindOf) (C := safety_refused.ctx k) (n := .none) (L := safety_refused.e0 k) (safety_refused.xOk k) (by kernel_rfl) (by kernel_rfl) (fits_of (l := []) (by kernel_rfl) trivial) (fun _ => by kernel_rfl) (fun _ _ => by kernel_rfl) k
theorem safety_refused.call (k : Nat) : CallV Tryd.prog E glob 43 safety_refused.i safety_refused.p safety_refused.b (safety_refused.f k) :=
  fn_okZ (kindOf := kindOf) (C := safety_refused.ctx k) (n := (.pair (.ops [0] 0) (.pair .none (.pair (.pair .none (.pair (.cut 0) .none)) .none)))) (safety_refused.xOk k) Tryd.func43 safety_refused.hb (fits_of (l := [(0, .loop (sub [1, 1, 0, 1, 0, 0] safety_refused.c))]) (by kernel_rfl) ⟨safety_refused.k0 k, trivial⟩) (fun _ => by kernel_rfl)
noncomputable def safety_refused.ent (k : Nat) : EntS κ := ⟨43, [], entOf safety_refused.i safety_refused.p safety_refused.b true (safety_refused.f k) E⟩
theorem safety_refused.entOk (k : Nat) : EntOk Tryd.prog E glob 43 (safety_refused.ent k).run := ent_free encOk (callable_of Tryd.func43 (by kernel_rfl) (by kernel_rfl)) (by rfl) trivial (safety_refused.call k)
noncomputable def safety_refused.qent (k : Nat) : QEntS κ := ⟨43, qentOf safety_refused.i safety_refused.p (safety_refused.f k) E⟩
theorem safety_refused.qentOk (k : Nat) : QEntOk Tryd.prog E glob 43 (safety_refused.qent k).run := qent_ok encOk (callable_of Tryd.func43 (by kernel_rfl) (by kernel_rfl)) (safety_refused.call k)
noncomputable def safety_Span.c : Go.Code := match Tryd.f11.body with | some c => c | none => .skip
theorem safety_Span.hb : Tryd.f11.body = some safety_Span.c := by kernel_rfl
noncomputable def safety_Span.x (k : Nat) (ls : List (LamS κ)) : Ctx κ := mkCtx [safety_through.ent k, safety_refused.ent k] [safety_through.qent k, safety_refused.qent k] ls
def safety_Span.i : List (Pat κ) := [.agg [.ro .T42, .ro .T47], .int .u64, .int .u64]
def safety_Span.p : Pat κ := .tup [.int .i64, .int .i64]
def safety_Span.b : List (BPat κ) := []
noncomputable def safety_Span (k : Nat) (t0 : List S42) (t0_1 : List S47) (t1 : Int) (t2 : Int) : Option ((Int × Int × Unit) × Unit) :=
    Option.bind (Go.Am.Tryd.safety_refused k t0 t0_1 t1 t2) fun r0 =>
      if (Prod.fst r0 != (0 : Int)) = Bool.true then Option.some (((0 : Int), Prod.fst r0, ()), ())
      else
        Option.bind
          (Go.Am.Tryd.safety_through k t0 t0_1 t1 t2
            (Go.IntKind.wrap Go.IntKind.u64
              (↑(BitVec.toNat (BitVec.ofInt (Go.IntKind.bits Go.IntKind.u64) t1 &&& ~~~BitVec.ofInt (Go.IntKind.bits Go.IntKind.u64) t2)) : Int)))
          fun r1 => Option.some ((Prod.fst r1, (0 : Int), ()), ())
noncomputable def safety_Span.f (k : Nat) : dens safety_Span.i → Option (safety_Span.p.den × densB safety_Span.b) := fun d => safety_Span k d.1.1 d.1.2.1 d.2.1 d.2.2.1
noncomputable def safety_Span.ctx (k : Nat) : Ctx κ := safety_Span.x k []
theorem safety_Span.xOk (k : Nat) : (safety_Span.ctx k).Ok := ctxOk ⟨safety_through.entOk k, safety_refused.entOk k, trivial⟩ ⟨safety_through.qentOk k, safety_refused.qentOk k, trivial⟩
theorem safety_Span.call (k : Nat) : CallV Tryd.prog E glob 11 safety_Span.i safety_Span.p safety_Span.b (safety_Span.f k) :=
  fn_okZ (kindOf := kindOf) (C := safety_Span.ctx k) (n := (.pair (.ops [0] 0) .none)) (safety_Span.xOk k) Tryd.func11 safety_Span.hb (fits_of (l := []) (by kernel_rfl) trivial) (fun _ => by kernel_rfl)
noncomputable def safety_Span.ent (k : Nat) : EntS κ := ⟨11, [], entOf safety_Span.i safety_Span.p safety_Span.b true (safety_Span.f k) E⟩
theorem safety_Span.entOk (k : Nat) : EntOk Tryd.prog E glob 11 (safety_Span.ent k).run := ent_free encOk (callable_of Tryd.func11 (by kernel_rfl) (by kernel_rfl)) (by rfl) trivial (safety_Span.call k)
noncomputable def safety_Longest.c : Go.Code := match Tryd.f13.body with | some c => c | none => .skip
theorem safety_Longest.hb : Tryd.f13.body = some safety_Longest.c := by kernel_rfl
noncomputable def safety_Longest.x (k : Nat) (ls : List (LamS κ)) : Ctx κ := mkCtx [safety_through.ent k, safety_refused.ent k] [safety_through.qent k, safety_refused.qent k] ls
def safety_Longest.i : List (Pat κ) := [.agg [.ro .T42, .ro .T47], .int .u64, .int .u64]
def safety_Longest.p : Pat κ := .tup [.int .i64, .int .i64]
def safety_Longest.b : List (BPat κ) := []
noncomputable def safety_Longest (k : Nat) (t0 : List S42) (t0_1 : List S47) (t1 : Int) (t2 : Int) : Option ((Int × Int × Unit) × Unit) :=
    Option.bind (Go.Am.Tryd.safety_refused k t0 t0_1 t1 t2) fun r0 =>
      if (Prod.fst r0 != (0 : Int)) = Bool.true then Option.some (((0 : Int), Prod.fst r0, ()), ())
      else Option.bind (Go.Am.Tryd.safety_through k t0 t0_1 t1 t2 (18446744073709551615 : Int)) fun r1 => Option.some ((Prod.fst r1, (0 : Int), ()), ())
noncomputable def safety_Longest.f (k : Nat) : dens safety_Longest.i → Option (safety_Longest.p.den × densB safety_Longest.b) := fun d => safety_Longest k d.1.1 d.1.2.1 d.2.1 d.2.2.1
noncomputable def safety_Longest.ctx (k : Nat) : Ctx κ := safety_Longest.x k []
theorem safety_Longest.xOk (k : Nat) : (safety_Longest.ctx k).Ok := ctxOk ⟨safety_through.entOk k, safety_refused.entOk k, trivial⟩ ⟨safety_through.qentOk k, safety_refused.qentOk k, trivial⟩
theorem safety_Longest.call (k : Nat) : CallV Tryd.prog E glob 13 safety_Longest.i safety_Longest.p safety_Longest.b (safety_Longest.f k) :=
  fn_okZ (kindOf := kindOf) (C := safety_Longest.ctx k) (n := (.pair (.ops [0] 0) .none)) (safety_Longest.xOk k) Tryd.func13 safety_Longest.hb (fits_of (l := []) (by kernel_rfl) trivial) (fun _ => by kernel_rfl)
noncomputable def safety_Longest.ent (k : Nat) : EntS κ := ⟨13, [], entOf safety_Longest.i safety_Longest.p safety_Longest.b true (safety_Longest.f k) E⟩
theorem safety_Longest.entOk (k : Nat) : EntOk Tryd.prog E glob 13 (safety_Longest.ent k).run := ent_free encOk (callable_of Tryd.func13 (by kernel_rfl) (by kernel_rfl)) (by rfl) trivial (safety_Longest.call k)
noncomputable def safety_Hold_1.c : Go.Code := match Tryd.f49.body with | some c => c | none => .skip
theorem safety_Hold_1.hb : Tryd.f49.body = some safety_Hold_1.c := by kernel_rfl
noncomputable def safety_Hold_1.x (k : Nat) (ls : List (LamS κ)) : Ctx κ := mkCtx [] [] ls
def safety_Hold_1.i : List (Pat κ) := [.int .i64, .ptr 0 0, .ptr 1 0]
def safety_Hold_1.bi : List (BPat κ) := [.raw 3 [.int .i64], .raw 25 [.ro .T42, .ro .T47]]
def safety_Hold_1.p : List (Pat κ) := [.tup [], .ptr 0 0, .ptr 1 0]
def safety_Hold_1.b : List (BPat κ) := [.raw 3 [.int .i64], .raw 25 [.ro .T42, .ro .T47]]
noncomputable def safety_Hold_1 (k : Nat) (t0 : Int) (b0 : Int) (b1 : List S42) (b1_1 : List S47) : Option ((Unit × Unit × Unit × Unit) × (Int × Unit) × (List Go.Am.Tryd.S42 × List Go.Am.Tryd.S47 × Unit) × Unit) :=
    if (0 : Int) ≤ t0 ∧ t0 < (↑(List.length b1) : Int) then
      Option.some
        (((), (), (), ()),
          (Max.max b0
              (Go.IntKind.wrap Go.IntKind.i64
                (Go.Am.Tryd.S42.f2 (List.getD b1 (Int.toNat t0) (Go.Am.Tryd.S42.mk ByteArray.empty (0 : Int) (0 : Int) (0 : Int) (0 : Int))) - (1 : Int))),
            ()),
          (b1, b1_1, ()), ())
    else Option.none
noncomputable def safety_Hold_1.f (k : Nat) : dens safety_Hold_1.i × densB safety_Hold_1.bi → Option (dens safety_Hold_1.p × densB safety_Hold_1.b) := fun d => safety_Hold_1 k d.1.1 d.2.1.1 d.2.2.1.1 d.2.2.1.2.1
noncomputable def safety_Hold_1.ctx (k : Nat) : Ctx κ := safety_Hold_1.x k []
theorem safety_Hold_1.xOk (k : Nat) : (safety_Hold_1.ctx k).Ok := ctxOk trivial trivial
theorem safety_Hold_1.call (k : Nat) : CallW Tryd.prog E glob 49 safety_Hold_1.i safety_Hold_1.bi [1, 2] safety_Hold_1.p safety_Hold_1.b (safety_Hold_1.f k) :=
  fn_okW (kindOf := kindOf) (C := safety_Hold_1.ctx k) (n := (.ops [] 9)) (safety_Hold_1.xOk k) Tryd.func49 safety_Hold_1.hb (by kernel_rfl) (fits_of (l := []) (by kernel_rfl) trivial) (fun _ => by kernel_rfl)
noncomputable def safety_Hold_1.ent (k : Nat) : EntS κ := ⟨49, [], entW safety_Hold_1.i safety_Hold_1.bi [1, 2] safety_Hold_1.p safety_Hold_1.b (safety_Hold_1.f k)⟩
theorem safety_Hold_1.entOk (k : Nat) : EntOk Tryd.prog E glob 49 (safety_Hold_1.ent k).run := ent_okW encOk (callable_of Tryd.func49 (by kernel_rfl) (by kernel_rfl)) (by decide) (by rfl) (safety_Hold_1.call k)
noncomputable def safety_members.c : Go.Code := match Tryd.f48.body with | some c => c | none => .skip
theorem safety_members.hb : Tryd.f48.body = some safety_members.c := by kernel_rfl
noncomputable def safety_members.x (k : Nat) (ls : List (LamS κ)) : Ctx κ := mkCtx [bits_TrailingZeros64.ent k, safety_Hold_1.ent k] [bits_TrailingZeros64.qent k] ls
def safety_members.i : List (Pat κ) := [.agg [.ro .T42, .ro .T47], .int .u64, .fn 49 [.ptr 0 0, .ptr 1 0]]
def safety_members.bi : List (BPat κ) := [.raw 3 [.int .i64], .raw 25 [.ro .T42, .ro .T47]]
def safety_members.s1 : Sh κ := ⟨0, [1, 2, 3], [.int .u64, .fn 49 [.ptr 0 0, .ptr 1 0], .rop [.ro .T42, .ro .T47]], [.raw 3 [.int .i64], .raw 25 [.ro .T42, .ro .T47]]⟩
def safety_members.s0 : Sh κ := ⟨0, [1, 2, 3], [.int .u64, .fn 49 [.ptr 0 0, .ptr 1 0], .rop [.ro .T42, .ro .T47]], [.raw 3 [.int .i64], .raw 25 [.ro .T42, .ro .T47]]⟩
def safety_members.o0 : List (Ex × Sh κ) := [(.normal, ⟨2, [2], [.fn 49 [.ptr 0 0, .ptr 1 0]], [.raw 3 [.int .i64], .raw 25 [.ro .T42, .ro .T47]]⟩)]
noncomputable def safety_members.l0 (k : Nat) (t1 : Int) (t3 : List S42) (t3_1 : List S47) (b0 : Int) (b1 : List S42) (b1_1 : List S47) : Option (((Unit × Unit × Unit) × Unit) × (Int × Unit) × (List Go.Am.Tryd.S42 × List Go.Am.Tryd.S47 × Unit) × Unit) :=
    Option.bind (Go.Am.Tryd.bits_TrailingZeros64 k t1) fun r0 =>
      if Decidable.decide (Prod.fst r0 < (↑(List.length t3) : Int)) = Bool.true then
        Option.bind (Go.Am.Tryd.safety_Hold_1 k (Prod.fst r0) b0 b1 b1_1) fun r1 =>
          Option.some
            ((((), (), ()), ()), (Prod.fst (Prod.fst (Prod.snd r1)), ()),
              (Prod.fst (Prod.fst (Prod.snd (Prod.snd r1))), Prod.fst (Prod.snd (Prod.fst (Prod.snd (Prod.snd r1)))), ()), ())
      else Option.some ((((), (), ()), ()), (b0, ()), (b1, b1_1, ()), ())
def safety_members.w0 : List Nat := [13, 14, 6, 15, 16, 17, 18, 19, 20, 21, 22]
noncomputable def safety_members.e0 (k : Nat) : safety_members.s0.den → Option (OutT safety_members.o0) := fun d => safety_members.l0 k d.1.1 d.1.2.2.1.1 d.1.2.2.1.2.1 d.2.1.1 d.2.2.1.1 d.2.2.1.2.1
noncomputable def safety_members.m0 (k : Nat) : LamS κ := ⟨lamK 23 safety_members.w0 safety_members.s0 safety_members.o0 (safety_members.e0 k)⟩
def safety_members.o1 : List (Ex × Sh κ) := [(.exit 0, ⟨2, [2], [.fn 49 [.ptr 0 0, .ptr 1 0]], [.raw 3 [.int .i64], .raw 25 [.ro .T42, .ro .T47]]⟩)]
noncomputable def safety_members.l1 (k : Nat) : Nat → Int → (List S42) → (List S47) → Int → (List S42) → (List S47) → Option (((Unit × Unit × Unit) × Unit) × (Int × Unit) × (List Go.Am.Tryd.S42 × List Go.Am.Tryd.S47 × Unit) × Unit)
  | 0, _, _, _, _, _, _ => none
  | j + 1, t1, t3, t3_1, b0, b1, b1_1 =>
    if (t1 != (0 : Int)) = Bool.true then
      Option.bind (Go.Am.Tryd.safety_members.l0 k t1 t3 t3_1 b0 b1 b1_1) fun r0 =>
        safety_members.l1 k j
          (Go.IntKind.wrap Go.IntKind.u64
            (↑(BitVec.toNat
                  (BitVec.ofInt (Go.IntKind.bits Go.IntKind.u64) t1 &&&
                    BitVec.ofInt (Go.IntKind.bits Go.IntKind.u64) (Go.IntKind.wrap Go.IntKind.u64 (t1 - (1 : Int))))) :
              Int))
          t3 t3_1 (Prod.fst (Prod.fst (Prod.snd r0))) (Prod.fst (Prod.fst (Prod.snd (Prod.snd r0)))) (Prod.fst (Prod.snd (Prod.fst (Prod.snd (Prod.snd r0)))))
    else Option.some ((((), (), ()), ()), (b0, ()), (b1, b1_1, ()), ())
def safety_members.w1 : List Nat := [7, 8, 13, 14, 6, 15, 16, 17, 18, 19, 20, 21, 22, 9, 10, 11, 12, 1]
noncomputable def safety_members.e1 (k j : Nat) : safety_members.s1.den → Option (OutT safety_members.o1) := fun d => safety_members.l1 k j d.1.1 d.1.2.2.1.1 d.1.2.2.1.2.1 d.2.1.1 d.2.2.1.1 d.2.2.1.2.1
noncomputable def safety_members.m1 (k : Nat) : LamS κ := ⟨lamK 23 safety_members.w1 safety_members.s1 safety_members.o1 (safety_members.e1 k k)⟩
def safety_members.p : List (Pat κ) := [.tup [], .fn 49 [.ptr 0 0, .ptr 1 0]]
def safety_members.b : List (BPat κ) := [.raw 3 [.int .i64], .raw 25 [.ro .T42, .ro .T47]]
noncomputable def safety_members (k : Nat) (t0 : List S42) (t0_1 : List S47) (t1 : Int) (b0 : Int) (b1 : List S42) (b1_1 : List S47) : Option ((Unit × (Unit × Unit × Unit) × Unit) × (Int × Unit) × (List Go.Am.Tryd.S42 × List Go.Am.Tryd.S47 × Unit) × Unit) :=
    Option.bind (Go.Am.Tryd.safety_members.l1 k k t1 t0 t0_1 b0 b1 b1_1) fun r0 =>
      Option.some
        (((), ((), (), ()), ()), (Prod.fst (Prod.fst (Prod.snd r0)), ()),
          (Prod.fst (Prod.fst (Prod.snd (Prod.snd r0))), Prod.fst (Prod.snd (Prod.fst (Prod.snd (Prod.snd r0)))), ()), ())
noncomputable def safety_members.f (k : Nat) : dens safety_members.i × densB safety_members.bi → Option (dens safety_members.p × densB safety_members.b) := fun d => safety_members k d.1.1.1 d.1.1.2.1 d.1.2.1 d.2.1.1 d.2.2.1.1 d.2.2.1.2.1
noncomputable def safety_members.ctx (k : Nat) : Ctx κ := safety_members.x k [safety_members.m0 k, safety_members.m1 k]
theorem safety_members.xOk (k : Nat) : (safety_members.ctx k).Ok := ctxOk ⟨bits_TrailingZeros64.entOk k, safety_Hold_1.entOk k, trivial⟩ ⟨bits_TrailingZeros64.qentOk k, trivial⟩
theorem safety_members.k0 (k : Nat) : LamOk (safety_members.ctx k) ((safety_members.ctx k).Λ 0) (sub [1, 0, 0, 1, 0] safety_members.c) :=
  cut_ok (kindOf := kindOf) (C := safety_members.ctx k) (n := .none) (L := safety_members.e0 k) (safety_members.xOk k) (by kernel_rfl) (by kernel_rfl) (fits_of (l := []) (by kernel_rfl) trivial) (fun _ => by kernel_rfl)
theorem safety_members.k1 (k : Nat) : LamOk (safety_members.ctx k) ((safety_members.ctx k).Λ 1) (.loop (sub [1, 0, 0] safety_members.c)) :=
  loop_ok (kindOf := kindOf) (C := safety_members.ctx k) (n := (.pair .none (.pair (.cut 0) .none))) (L := safety_members.e1 k) (safety_members.xOk k) (by kernel_rfl) (by kernel_rfl) (fits_of (l := [(0, (sub [1, 0, 0, 1, 0] safety_members.c))]) (by kernel_rfl) ⟨safety_members.k0 k, trivial⟩) (fun _ => by kernel_rfl) (fun _ _ => by kernel_rfl) k
theorem safety_members.call (k : Nat) : CallW Tryd.prog E glob 48 safety_members.i safety_members.bi [2] safety_members.p safety_members.b (safety_members.f k) :=
  fn_okW (kindOf := kindOf) (C := safety_members.ctx k) (n := (.pair (.ops [0] 0) (.pair (.cut 1) .none))) (safety_members.xOk k) Tryd.func48 safety_members.hb (by kernel_rfl) (fits_of (l := [(1, .loop (sub [1, 0, 0] safety_members.c))]) (by kernel_rfl) ⟨safety_members.k1 k, trivial⟩) (fun _ => by kernel_rfl)
noncomputable def safety_members.ent (k : Nat) : EntS κ := ⟨48, [49], entW safety_members.i safety_members.bi [2] safety_members.p safety_members.b (safety_members.f k)⟩
theorem safety_members.entOk (k : Nat) : EntOk Tryd.prog E glob 48 (safety_members.ent k).run := ent_okW encOk (callable_of Tryd.func48 (by kernel_rfl) (by kernel_rfl)) (by decide) (by rfl) (safety_members.call k)
noncomputable def safety_Hold.c : Go.Code := match Tryd.f15.body with | some c => c | none => .skip
theorem safety_Hold.hb : Tryd.f15.body = some safety_Hold.c := by kernel_rfl
noncomputable def safety_Hold.x (k : Nat) (ls : List (LamS κ)) : Ctx κ := mkCtx [check_Grid.ent k, safety_Hold_1.ent k, safety_members.ent k] [check_Grid.qent k] ls
def safety_Hold.i : List (Pat κ) := [.agg [.ro .T42, .ro .T47], .int .u64, .int .u64]
def safety_Hold.p : Pat κ := .tup [.int .i64, .int .i64]
def safety_Hold.b : List (BPat κ) := []
noncomputable def safety_Hold (k : Nat) (t0 : List S42) (t0_1 : List S47) (t1 : Int) (t2 : Int) : Option ((Int × Int × Unit) × Unit) :=
    Option.bind (Go.Am.Tryd.check_Grid k t0 t0_1) fun r0 =>
      if (!Prod.fst r0) = Bool.true then Option.some (((0 : Int), (70 : Int), ()), ())
      else
        Option.bind
          (Go.Am.Tryd.safety_members k t0 t0_1
            (Go.IntKind.wrap Go.IntKind.u64
              (↑(BitVec.toNat (BitVec.ofInt (Go.IntKind.bits Go.IntKind.u64) t1 &&& ~~~BitVec.ofInt (Go.IntKind.bits Go.IntKind.u64) t2)) : Int))
            (0 : Int) t0 t0_1)
          fun r1 => Option.some ((Prod.fst (Prod.fst (Prod.snd r1)), (0 : Int), ()), ())
noncomputable def safety_Hold.f (k : Nat) : dens safety_Hold.i → Option (safety_Hold.p.den × densB safety_Hold.b) := fun d => safety_Hold k d.1.1 d.1.2.1 d.2.1 d.2.2.1
noncomputable def safety_Hold.ctx (k : Nat) : Ctx κ := safety_Hold.x k []
theorem safety_Hold.xOk (k : Nat) : (safety_Hold.ctx k).Ok := ctxOk ⟨check_Grid.entOk k, safety_Hold_1.entOk k, safety_members.entOk k, trivial⟩ ⟨check_Grid.qentOk k, trivial⟩
theorem safety_Hold.call (k : Nat) : CallV Tryd.prog E glob 15 safety_Hold.i safety_Hold.p safety_Hold.b (safety_Hold.f k) :=
  fn_okZ (kindOf := kindOf) (C := safety_Hold.ctx k) (n := .none) (safety_Hold.xOk k) Tryd.func15 safety_Hold.hb (fits_of (l := []) (by kernel_rfl) trivial) (fun _ => by kernel_rfl)
noncomputable def safety_Hold.ent (k : Nat) : EntS κ := ⟨15, [], entOf safety_Hold.i safety_Hold.p safety_Hold.b true (safety_Hold.f k) E⟩
theorem safety_Hold.entOk (k : Nat) : EntOk Tryd.prog E glob 15 (safety_Hold.ent k).run := ent_free encOk (callable_of Tryd.func15 (by kernel_rfl) (by kernel_rfl)) (by rfl) trivial (safety_Hold.call k)
noncomputable def junctionlaw6_alive.c : Go.Code := match Tryd.f19.body with | some c => c | none => .skip
theorem junctionlaw6_alive.hb : Tryd.f19.body = some junctionlaw6_alive.c := by kernel_rfl
noncomputable def junctionlaw6_alive.x (k : Nat) (ls : List (LamS κ)) : Ctx κ := mkCtx [safety_Clash.ent k, safety_Span.ent k, safety_Longest.ent k, safety_Hold.ent k] [] ls
def junctionlaw6_alive.i : List (Pat κ) := []
def junctionlaw6_alive.p : Pat κ := .bool
def junctionlaw6_alive.b : List (BPat κ) := []
noncomputable def junctionlaw6_alive (k : Nat) : Option (Bool × Unit) :=
    Option.bind
      (Go.Am.Tryd.safety_Clash k
        [Go.Am.Tryd.S42.mk (ByteArray.mk #[]) (1 : Int) (5 : Int) (3 : Int) (1 : Int), Go.Am.Tryd.S42.mk (ByteArray.mk #[]) (1 : Int) (6 : Int) (4 : Int) (0 : Int)]
        [Go.Am.Tryd.S47.mk (0 : Int) (1 : Int) (7 : Int) (4 : Int)] (3 : Int))
      fun r0 =>
      Option.bind
        (Go.Am.Tryd.safety_Span k
          [Go.Am.Tryd.S42.mk (ByteArray.mk #[]) (1 : Int) (5 : Int) (3 : Int) (1 : Int),
            Go.Am.Tryd.S42.mk (ByteArray.mk #[]) (1 : Int) (6 : Int) (4 : Int) (0 : Int)]
          [Go.Am.Tryd.S47.mk (0 : Int) (1 : Int) (7 : Int) (4 : Int)] (1 : Int) (2 : Int))
        fun r1 =>
        Option.bind
          (Go.Am.Tryd.safety_Longest k
            [Go.Am.Tryd.S42.mk (ByteArray.mk #[]) (1 : Int) (5 : Int) (3 : Int) (1 : Int),
              Go.Am.Tryd.S42.mk (ByteArray.mk #[]) (1 : Int) (6 : Int) (4 : Int) (0 : Int)]
            [Go.Am.Tryd.S47.mk (0 : Int) (1 : Int) (7 : Int) (4 : Int)] (2 : Int) (1 : Int))
          fun r2 =>
          Option.bind
            (Go.Am.Tryd.safety_Hold k
              [Go.Am.Tryd.S42.mk (ByteArray.mk #[]) (1 : Int) (5 : Int) (3 : Int) (1 : Int),
                Go.Am.Tryd.S42.mk (ByteArray.mk #[]) (1 : Int) (6 : Int) (4 : Int) (0 : Int)]
              [Go.Am.Tryd.S47.mk (0 : Int) (1 : Int) (7 : Int) (4 : Int)] (2 : Int) (1 : Int))
            fun r3 =>
            if (Prod.fst (Prod.fst r0) == (0 : Int)) = Bool.true then
              if (Prod.fst (Prod.snd (Prod.fst r0)) == (1 : Int)) = Bool.true then
                if Prod.fst (Prod.snd (Prod.snd (Prod.fst r0))) = Bool.true then
                  if (Prod.fst (Prod.fst r1) == (8 : Int)) = Bool.true then
                    if (Prod.fst (Prod.snd (Prod.fst r1)) == (0 : Int)) = Bool.true then
                      if (Prod.fst (Prod.fst r2) == (6 : Int)) = Bool.true then
                        if (Prod.fst (Prod.snd (Prod.fst r2)) == (0 : Int)) = Bool.true then
                          if (Prod.fst (Prod.fst r3) == (5 : Int)) = Bool.true then Option.some (Prod.fst (Prod.snd (Prod.fst r3)) == (0 : Int), ())
                          else Option.some (Bool.false, ())
                        else Option.some (Bool.false, ())
                      else Option.some (Bool.false, ())
                    else Option.some (Bool.false, ())
                  else Option.some (Bool.false, ())
                else Option.some (Bool.false, ())
              else Option.some (Bool.false, ())
            else Option.some (Bool.false, ())
noncomputable def junctionlaw6_alive.f (k : Nat) : dens junctionlaw6_alive.i → Option (junctionlaw6_alive.p.den × densB junctionlaw6_alive.b) := fun d => junctionlaw6_alive k
noncomputable def junctionlaw6_alive.ctx (k : Nat) : Ctx κ := junctionlaw6_alive.x k []
theorem junctionlaw6_alive.xOk (k : Nat) : (junctionlaw6_alive.ctx k).Ok := ctxOk ⟨safety_Clash.entOk k, safety_Span.entOk k, safety_Longest.entOk k, safety_Hold.entOk k, trivial⟩ trivial
theorem junctionlaw6_alive.call (k : Nat) : CallV Tryd.prog E glob 19 junctionlaw6_alive.i junctionlaw6_alive.p junctionlaw6_alive.b (junctionlaw6_alive.f k) :=
  fn_okZ (kindOf := kindOf) (C := junctionlaw6_alive.ctx k) (n := .none) (junctionlaw6_alive.xOk k) Tryd.func19 junctionlaw6_alive.hb (fits_of (l := []) (by kernel_rfl) trivial) (fun _ => by kernel_rfl)
noncomputable def junctionlaw6_alive.ent (k : Nat) : EntS κ := ⟨19, [], entOf junctionlaw6_alive.i junctionlaw6_alive.p junctionlaw6_alive.b true (junctionlaw6_alive.f k) E⟩
theorem junctionlaw6_alive.entOk (k : Nat) : EntOk Tryd.prog E glob 19 (junctionlaw6_alive.ent k).run := ent_free encOk (callable_of Tryd.func19 (by kernel_rfl) (by kernel_rfl)) (by rfl) trivial (junctionlaw6_alive.call k)
noncomputable def junctionlaw6_alive.qent (k : Nat) : QEntS κ := ⟨19, qentOf junctionlaw6_alive.i junctionlaw6_alive.p (junctionlaw6_alive.f k) E⟩
theorem junctionlaw6_alive.qentOk (k : Nat) : QEntOk Tryd.prog E glob 19 (junctionlaw6_alive.qent k).run := qent_ok encOk (callable_of Tryd.func19 (by kernel_rfl) (by kernel_rfl)) (junctionlaw6_alive.call k)
noncomputable def junctionref5_within.c : Go.Code := match Tryd.f51.body with | some c => c | none => .skip
theorem junctionref5_within.hb : Tryd.f51.body = some junctionref5_within.c := by kernel_rfl
noncomputable def junctionref5_within.x (k : Nat) (ls : List (LamS κ)) : Ctx κ := mkCtx [] [] ls
def junctionref5_within.i : List (Pat κ) := [.int .i64, .int .i64, .int .i64]
def junctionref5_within.p : Pat κ := .bool
def junctionref5_within.b : List (BPat κ) := []
noncomputable def junctionref5_within (k : Nat) (t0 : Int) (t1 : Int) (t2 : Int) : Option (Bool × Unit) :=
    if Decidable.decide (t0 ≥ t1) = Bool.true then Option.some (Decidable.decide (t0 ≤ t2), ()) else Option.some (Bool.false, ())
noncomputable def junctionref5_within.f (k : Nat) : dens junctionref5_within.i → Option (junctionref5_within.p.den × densB junctionref5_within.b) := fun d => junctionref5_within k d.1 d.2.1 d.2.2.1
noncomputable def junctionref5_within.ctx (k : Nat) : Ctx κ := junctionref5_within.x k []
theorem junctionref5_within.xOk (k : Nat) : (junctionref5_within.ctx k).Ok := ctxOk trivial trivial
theorem junctionref5_within.call (k : Nat) : CallV Tryd.prog E glob 51 junctionref5_within.i junctionref5_within.p junctionref5_within.b (junctionref5_within.f k) :=
  fn_okZ (kindOf := kindOf) (C := junctionref5_within.ctx k) (n := .none) (junctionref5_within.xOk k) Tryd.func51 junctionref5_within.hb (fits_of (l := []) (by kernel_rfl) trivial) (fun _ => by kernel_rfl)
noncomputable def junctionref5_within.ent (k : Nat) : EntS κ := ⟨51, [], entOf junctionref5_within.i junctionref5_within.p junctionref5_within.b true (junctionref5_within.f k) E⟩
theorem junctionref5_within.entOk (k : Nat) : EntOk Tryd.prog E glob 51 (junctionref5_within.ent k).run := ent_free encOk (callable_of Tryd.func51 (by kernel_rfl) (by kernel_rfl)) (by rfl) trivial (junctionref5_within.call k)
noncomputable def junctionref5_within.qent (k : Nat) : QEntS κ := ⟨51, qentOf junctionref5_within.i junctionref5_within.p (junctionref5_within.f k) E⟩
theorem junctionref5_within.qentOk (k : Nat) : QEntOk Tryd.prog E glob 51 (junctionref5_within.qent k).run := qent_ok encOk (callable_of Tryd.func51 (by kernel_rfl) (by kernel_rfl)) (junctionref5_within.call k)
noncomputable def junctionref5_Grid.c : Go.Code := match Tryd.f20.body with | some c => c | none => .skip
theorem junctionref5_Grid.hb : Tryd.f20.body = some junctionref5_Grid.c := by kernel_rfl
noncomputable def junctionref5_Grid.x (k : Nat) (ls : List (LamS κ)) : Ctx κ := mkCtx [junctionref5_within.ent k] [junctionref5_within.qent k] ls
def junctionref5_Grid.i : List (Pat κ) := [.agg [.ro .T42, .ro .T47]]
def junctionref5_Grid.s1 : Sh κ := ⟨0, [1, 3, 4], [.rop [.ro .T42, .ro .T47], .int .i64, .int .i64], []⟩
def junctionref5_Grid.s0 : Sh κ := ⟨0, [1, 4], [.rop [.ro .T42, .ro .T47], .int .i64], []⟩
def junctionref5_Grid.o0 : List (Ex × Sh κ) := [(.ret, ⟨0, [2], [.bool], []⟩), (.normal, ⟨0, [], [], []⟩)]
noncomputable def junctionref5_Grid.l0 (k : Nat) (t1 : List S42) (t1_1 : List S47) (t4 : Int) : Option ((Bool × Unit) × Unit ⊕ Unit × Unit) :=
    if (0 : Int) ≤ t4 ∧ t4 < (↑(List.length t1) : Int) then
      Option.bind
        (Go.Am.Tryd.junctionref5_within k
          (Go.Am.Tryd.S42.f1 (List.getD t1 (Int.toNat t4) (Go.Am.Tryd.S42.mk ByteArray.empty (0 : Int) (0 : Int) (0 : Int) (0 : Int)))) (1 : Int) (2 : Int))
        fun r0 =>
        if (!Prod.fst r0) = Bool.false then
          Option.bind
            (Go.Am.Tryd.junctionref5_within k
              (Go.Am.Tryd.S42.f2 (List.getD t1 (Int.toNat t4) (Go.Am.Tryd.S42.mk ByteArray.empty (0 : Int) (0 : Int) (0 : Int) (0 : Int)))) (1 : Int) (3600 : Int))
            fun r1 =>
            if (!Prod.fst r1) = Bool.false then
              Option.bind
                (Go.Am.Tryd.junctionref5_within k
                  (Go.Am.Tryd.S42.f3 (List.getD t1 (Int.toNat t4) (Go.Am.Tryd.S42.mk ByteArray.empty (0 : Int) (0 : Int) (0 : Int) (0 : Int)))) (0 : Int)
                  (60 : Int))
                fun r2 =>
                if (!Prod.fst r2) = Bool.false then
                  Option.bind
                    (Go.Am.Tryd.junctionref5_within k
                      (Go.Am.Tryd.S42.f4 (List.getD t1 (Int.toNat t4) (Go.Am.Tryd.S42.mk ByteArray.empty (0 : Int) (0 : Int) (0 : Int) (0 : Int)))) (0 : Int)
                      (60 : Int))
                    fun r3 => if (!Prod.fst r3) = Bool.true then Option.some (Sum.inl ((Bool.false, ()), ())) else Option.some (Sum.inr ((), ()))
                else Option.some (Sum.inl ((Bool.false, ()), ()))
            else Option.some (Sum.inl ((Bool.false, ()), ()))
        else Option.some (Sum.inl ((Bool.false, ()), ()))
    else Option.none
def junctionref5_Grid.w0 : List Nat := [19, 20, 21, 22, 23, 5, 24, 25, 26, 27, 28, 29, 30, 31, 32, 33, 34, 35, 36, 37, 38, 39, 40, 41, 42, 43, 44, 45, 2]
noncomputable def junctionref5_Grid.e0 (k : Nat) : junctionref5_Grid.s0.den → Option (OutT junctionref5_Grid.o0) := fun d => junctionref5_Grid.l0 k d.1.1.1 d.1.1.2.1 d.1.2.1
noncomputable def junctionref5_Grid.m0 (k : Nat) : LamS κ := ⟨lamK 113 junctionref5_Grid.w0 junctionref5_Grid.s0 junctionref5_Grid.o0 (junctionref5_Grid.e0 k)⟩
def junctionref5_Grid.o1 : List (Ex × Sh κ) := [(.ret, ⟨0, [2], [.bool], []⟩), (.exit 0, ⟨0, [], [], []⟩)]
noncomputable def junctionref5_Grid.l1 (k : Nat) : Nat → (List S42) → (List S47) → Int → Int → Option ((Bool × Unit) × Unit ⊕ Unit × Unit)
  | 0, _, _, _, _ => none
  | j + 1, t1, t1_1, t3, t4 =>
    if Decidable.decide (t4 < t3) = Bool.true then
      Option.bind (Go.Am.Tryd.junctionref5_Grid.l0 k t1 t1_1 t4) fun r0 =>
        Go.Am.onSum r0 (fun r1 => Option.some (Sum.inl ((Prod.fst (Prod.fst r1), ()), ()))) fun r1 =>
          junctionref5_Grid.l1 k j t1 t1_1 t3 (Go.IntKind.wrap Go.IntKind.i64 (t4 + (1 : Int)))
    else Option.some (Sum.inr ((), ()))
def junctionref5_Grid.w1 : List Nat := [14, 15, 16, 19, 20, 21, 22, 23, 5, 24, 25, 26, 27, 28, 29, 30, 31, 32, 33, 34, 35, 36, 37, 38, 39, 40, 41, 42, 43, 44, 45, 2, 17, 18, 4]
noncomputable def junctionref5_Grid.e1 (k j : Nat) : junctionref5_Grid.s1.den → Option (OutT junctionref5_Grid.o1) := fun d => junctionref5_Grid.l1 k j d.1.1.1 d.1.1.2.1 d.1.2.1 d.1.2.2.1
noncomputable def junctionref5_Grid.m1 (k : Nat) : LamS κ := ⟨lamK 113 junctionref5_Grid.w1 junctionref5_Grid.s1 junctionref5_Grid.o1 (junctionref5_Grid.e1 k k)⟩
def junctionref5_Grid.s4 : Sh κ := ⟨0, [1, 3, 6], [.rop [.ro .T42, .ro .T47], .int .i64, .int .i64], []⟩
def junctionref5_Grid.s3 : Sh κ := ⟨0, [1, 3, 6], [.rop [.ro .T42, .ro .T47], .int .i64, .int .i64], []⟩
def junctionref5_Grid.s2 : Sh κ := ⟨0, [3, 7], [.int .i64, .ptr 0 0], [.raw 47 [.int .i64, .int .i64, .int .i64, .int .i64]]⟩
def junctionref5_Grid.o2 : List (Ex × Sh κ) := [(.ret, ⟨1, [2], [.bool], [.raw 47 [.int .i64, .int .i64, .int .i64, .int .i64]]⟩), (.normal, ⟨1, [7], [.ptr 0 0], [.raw 47 [.int .i64, .int .i64, .int .i64, .int .i64]]⟩)]
noncomputable def junctionref5_Grid.l2 (k : Nat) (t3 : Int) (b0 : Int) (b0_1 : Int) (b0_2 : Int) (b0_3 : Int) : Option ((Bool × Unit) × (Int × Int × Int × Int × Unit) × Unit ⊕ (Unit × Unit) × (Int × Int × Int × Int × Unit) × Unit) :=
    if Decidable.decide (b0 < (0 : Int)) = Bool.false then
      if Decidable.decide (b0_1 ≤ b0) = Bool.false then
        if Decidable.decide (b0_1 ≥ t3) = Bool.false then
          Option.bind (Go.Am.Tryd.junctionref5_within k b0_2 (0 : Int) (3600 : Int)) fun r0 =>
            if (!Prod.fst r0) = Bool.false then
              Option.bind (Go.Am.Tryd.junctionref5_within k b0_3 (0 : Int) (3600 : Int)) fun r1 =>
                if (!Prod.fst r1) = Bool.true then Option.some (Sum.inl ((Bool.false, ()), (b0, b0_1, b0_2, b0_3, ()), ()))
                else Option.some (Sum.inr (((), ()), (b0, b0_1, b0_2, b0_3, ()), ()))
            else Option.some (Sum.inl ((Bool.false, ()), (b0, b0_1, b0_2, b0_3, ()), ()))
        else Option.some (Sum.inl ((Bool.false, ()), (b0, b0_1, b0_2, b0_3, ()), ()))
      else Option.some (Sum.inl ((Bool.false, ()), (b0, b0_1, b0_2, b0_3, ()), ()))
    else Option.some (Sum.inl ((Bool.false, ()), (b0, b0_1, b0_2, b0_3, ()), ()))
def junctionref5_Grid.w2 : List Nat := [58, 59, 60, 61, 62, 63, 64, 65, 66, 67, 68, 69, 70, 71, 72, 73, 74, 75, 76, 77, 78, 79, 80, 81, 82, 83, 84, 85, 2]
noncomputable def junctionref5_Grid.e2 (k : Nat) : junctionref5_Grid.s2.den → Option (OutT junctionref5_Grid.o2) := fun d => junctionref5_Grid.l2 k d.1.1 d.2.1.1 d.2.1.2.1 d.2.1.2.2.1 d.2.1.2.2.2.1
noncomputable def junctionref5_Grid.m2 (k : Nat) : LamS κ := ⟨lamK 113 junctionref5_Grid.w2 junctionref5_Grid.s2 junctionref5_Grid.o2 (junctionref5_Grid.e2 k)⟩
def junctionref5_Grid.o3 : List (Ex × Sh κ) := [(.ret, ⟨0, [2], [.bool], []⟩), (.normal, ⟨0, [], [], []⟩)]
noncomputable def junctionref5_Grid.l3 (k : Nat) (t1 : List S42) (t1_1 : List S47) (t3 : Int) (t6 : Int) : Option ((Bool × Unit) × Unit ⊕ Unit × Unit) :=
    if (0 : Int) ≤ t6 ∧ t6 < (↑(List.length t1_1) : Int) then
      Option.bind
        (Go.Am.Tryd.junctionref5_Grid.l2 k t3 (Go.Am.Tryd.S47.f0 (List.getD t1_1 (Int.toNat t6) (Go.Am.Tryd.S47.mk (0 : Int) (0 : Int) (0 : Int) (0 : Int))))
          (Go.Am.Tryd.S47.f1 (List.getD t1_1 (Int.toNat t6) (Go.Am.Tryd.S47.mk (0 : Int) (0 : Int) (0 : Int) (0 : Int))))
          (Go.Am.Tryd.S47.f2 (List.getD t1_1 (Int.toNat t6) (Go.Am.Tryd.S47.mk (0 : Int) (0 : Int) (0 : Int) (0 : Int))))
          (Go.Am.Tryd.S47.f3 (List.getD t1_1 (Int.toNat t6) (Go.Am.Tryd.S47.mk (0 : Int) (0 : Int) (0 : Int) (0 : Int)))))
        fun r0 =>
        Go.Am.onSum r0 (fun r1 => Option.some (Sum.inl ((Prod.fst (Prod.fst r1), ()), ()))) fun r1 =>
          if Decidable.decide (t6 > (0 : Int)) = Bool.true then
            if (0 : Int) ≤ Go.IntKind.wrap Go.IntKind.i64 (t6 - (1 : Int)) ∧ Go.IntKind.wrap Go.IntKind.i64 (t6 - (1 : Int)) < (↑(List.length t1_1) : Int) then
              if
                  Decidable.decide
                      (Prod.fst (Prod.fst (Prod.snd r1)) <
                        Go.Am.Tryd.S47.f0
                          (List.getD t1_1 (Int.toNat (Go.IntKind.wrap Go.IntKind.i64 (t6 - (1 : Int))))
                            (Go.Am.Tryd.S47.mk (0 : Int) (0 : Int) (0 : Int) (0 : Int)))) =
                    Bool.false then
                if
                    (Prod.fst (Prod.fst (Prod.snd r1)) ==
                        Go.Am.Tryd.S47.f0
                          (List.getD t1_1 (Int.toNat (Go.IntKind.wrap Go.IntKind.i64 (t6 - (1 : Int))))
                            (Go.Am.Tryd.S47.mk (0 : Int) (0 : Int) (0 : Int) (0 : Int)))) =
                      Bool.true then
                  if
                      Decidable.decide
                          (Prod.fst (Prod.snd (Prod.fst (Prod.snd r1))) ≤
                            Go.Am.Tryd.S47.f1
                              (List.getD t1_1 (Int.toNat (Go.IntKind.wrap Go.IntKind.i64 (t6 - (1 : Int))))
                                (Go.Am.Tryd.S47.mk (0 : Int) (0 : Int) (0 : Int) (0 : Int)))) =
                        Bool.true then
                    Option.some (Sum.inl ((Bool.false, ()), ()))
                  else Option.some (Sum.inr ((), ()))
                else Option.some (Sum.inr ((), ()))
              else Option.some (Sum.inl ((Bool.false, ()), ()))
            else Option.none
          else Option.some (Sum.inr ((), ()))
    else Option.none
def junctionref5_Grid.w3 : List Nat := [53, 54, 55, 56, 57, 7, 58, 59, 60, 61, 62, 63, 64, 65, 66, 67, 68, 69, 70, 71, 72, 73, 74, 75, 76, 77, 78, 79, 80, 81, 82, 83, 84, 85, 2, 86, 87, 88, 89, 90, 91, 92, 93, 8, 94, 95, 96, 97, 98, 99, 100, 101, 102, 103, 104, 105, 106, 107, 108, 109, 110, 111, 112]
noncomputable def junctionref5_Grid.e3 (k : Nat) : junctionref5_Grid.s3.den → Option (OutT junctionref5_Grid.o3) := fun d => junctionref5_Grid.l3 k d.1.1.1 d.1.1.2.1 d.1.2.1 d.1.2.2.1
noncomputable def junctionref5_Grid.m3 (k : Nat) : LamS κ := ⟨lamK 113 junctionref5_Grid.w3 junctionref5_Grid.s3 junctionref5_Grid.o3 (junctionref5_Grid.e3 k)⟩
def junctionref5_Grid.o4 : List (Ex × Sh κ) := [(.ret, ⟨0, [2], [.bool], []⟩), (.exit 2, ⟨0, [], [], []⟩)]
noncomputable def junctionref5_Grid.l4 (k : Nat) : Nat → (List S42) → (List S47) → Int → Int → Option ((Bool × Unit) × Unit ⊕ Unit × Unit)
  | 0, _, _, _, _ => none
  | j + 1, t1, t1_1, t3, t6 =>
    if Decidable.decide (t6 < (↑(List.length t1_1) : Int)) = Bool.true then
      Option.bind (Go.Am.Tryd.junctionref5_Grid.l3 k t1 t1_1 t3 t6) fun r0 =>
        Go.Am.onSum r0 (fun r1 => Option.some (Sum.inl ((Prod.fst (Prod.fst r1), ()), ()))) fun r1 =>
          junctionref5_Grid.l4 k j t1 t1_1 t3 (Go.IntKind.wrap Go.IntKind.i64 (t6 + (1 : Int)))
    else Option.some (Sum.inr ((), ()))
def junctionref5_Grid.w4 : List Nat := [46, 47, 48, 49, 50, 53, 54, 55, 56, 57, 7, 58, 59, 60, 61, 62, 63, 64, 65, 66, 67, 68, 69, 70, 71, 72, 73, 74, 75, 76, 77, 78, 79, 80, 81, 82, 83, 84, 85, 2, 86, 87, 88, 89, 90, 91, 92, 93, 8, 94, 95, 96, 97, 98, 99, 100, 101, 102, 103, 104, 105, 106, 107, 108, 109, 110, 111, 112, 51, 52, 6]
noncomputable def junctionref5_Grid.e4 (k j : Nat) : junctionref5_Grid.s4.den → Option (OutT junctionref5_Grid.o4) := fun d => junctionref5_Grid.l4 k j d.1.1.1 d.1.1.2.1 d.1.2.1 d.1.2.2.1
noncomputable def junctionref5_Grid.m4 (k : Nat) : LamS κ := ⟨lamK 113 junctionref5_Grid.w4 junctionref5_Grid.s4 junctionref5_Grid.o4 (junctionref5_Grid.e4 k k)⟩
def junctionref5_Grid.p : Pat κ := .bool
def junctionref5_Grid.b : List (BPat κ) := []
noncomputable def junctionref5_Grid (k : Nat) (t0 : List S42) (t0_1 : List S47) : Option (Bool × Unit) :=
    if Decidable.decide ((↑(List.length t0) : Int) > (64 : Int)) = Bool.true then Option.some (Bool.false, ())
    else
      Option.bind (Go.Am.Tryd.junctionref5_Grid.l1 k k t0 t0_1 (↑(List.length t0) : Int) (0 : Int)) fun r0 =>
        Go.Am.onSum r0 (fun r1 => Option.some (Prod.fst (Prod.fst r1), ())) fun r1 =>
          Option.bind (Go.Am.Tryd.junctionref5_Grid.l4 k k t0 t0_1 (↑(List.length t0) : Int) (0 : Int)) fun r2 =>
            Go.Am.onSum r2 (fun r3 => Option.some (Prod.fst (Prod.fst r3), ())) fun r3 => Option.some (Bool.true, ())
noncomputable def junctionref5_Grid.f (k : Nat) : dens junctionref5_Grid.i → Option (junctionref5_Grid.p.den × densB junctionref5_Grid.b) := fun d => junctionref5_Grid k d.1.1 d.1.2.1
noncomputable def junctionref5_Grid.ctx (k : Nat) : Ctx κ := junctionref5_Grid.x k [junctionref5_Grid.m0 k, junctionref5_Grid.m1 k, junctionref5_Grid.m2 k, junctionref5_Grid.m3 k, junctionref5_Grid.m4 k]
theorem junctionref5_Grid.xOk (k : Nat) : (junctionref5_Grid.ctx k).Ok := ctxOk ⟨junctionref5_within.entOk k, trivial⟩ ⟨junctionref5_within.qentOk k, trivial⟩
theorem junctionref5_Grid.k0 (k : Nat) : LamOk (junctionref5_Grid.ctx k) ((junctionref5_Grid.ctx k).Λ 0) (sub [1, 1, 1, 0, 1, 0, 0, 1, 0] junctionref5_Grid.c) :=
  cut_ok (kindOf := kindOf) (C := junctionref5_Grid.ctx k) (n := .none) (L := junctionref5_Grid.e0 k) (junctionref5_Grid.xOk k) (by kernel_rfl) (by kernel_rfl) (fits_of (l := []) (by kernel_rfl) trivial) (fun _ => by kernel_rfl)
theorem junctionref5_Grid.k1 (k : Nat) : LamOk (junctionref5_Grid.ctx k) ((junctionref5_Grid.ctx k).Λ 1) (.loop (sub [1, 1, 1, 0, 1, 0, 0] junctionref5_Grid.c)) :=
  loop_ok (kindOf := kindOf) (C := junctionref5_Grid.ctx k) (n := (.pair .none (.pair (.cut 0) .none))) (L := junctionref5_Grid.e1 k) (junctionref5_Grid.xOk k) (by kernel_rfl) (by kernel_rfl) (fits_of (l := [(0, (sub [1, 1, 1, 0, 1, 0, 0, 1, 0] junctionref5_Grid.c))]) (by kernel_rfl) ⟨junctionref5_Grid.k0 k, trivial⟩) (fun _ => by kernel_rfl) (fun _ _ => by kernel_rfl) k
theorem junctionref5_Grid.k2 (k : Nat) : LamOk (junctionref5_Grid.ctx k) ((junctionref5_Grid.ctx k).Λ 2) (sub [1, 1, 1, 1, 0, 1, 0, 0, 1, 0, 0, 1, 0] junctionref5_Grid.c) :=
  cut_ok (kindOf := kindOf) (C := junctionref5_Grid.ctx k) (n := .none) (L := junctionref5_Grid.e2 k) (junctionref5_Grid.xOk k) (by kernel_rfl) (by kernel_rfl) (fits_of (l := []) (by kernel_rfl) trivial) (fun _ => by kernel_rfl)
theorem junctionref5_Grid.k3 (k : Nat) : LamOk (junctionref5_Grid.ctx k) ((junctionref5_Grid.ctx k).Λ 3) (sub [1, 1, 1, 1, 0, 1, 0, 0, 1, 0] junctionref5_Grid.c) :=
  cut_ok (kindOf := kindOf) (C := junctionref5_Grid.ctx k) (n := (.pair (.pair .none (.pair (.cut 2) .none)) .none)) (L := junctionref5_Grid.e3 k) (junctionref5_Grid.xOk k) (by kernel_rfl) (by kernel_rfl) (fits_of (l := [(2, (sub [1, 1, 1, 1, 0, 1, 0, 0, 1, 0, 0, 1, 0] junctionref5_Grid.c))]) (by kernel_rfl) ⟨junctionref5_Grid.k2 k, trivial⟩) (fun _ => by kernel_rfl)
theorem junctionref5_Grid.k4 (k : Nat) : LamOk (junctionref5_Grid.ctx k) ((junctionref5_Grid.ctx k).Λ 4) (.loop (sub [1, 1, 1, 1, 0, 1, 0, 0] junctionref5_Grid.c)) :=
  loop_ok (kindOf := kindOf) (C := junctionref5_Grid.ctx k) (n := (.pair .none (.pair (.cut 3) .none))) (L := junctionref5_Grid.e4 k) (junctionref5_Grid.xOk k) (by kernel_rfl) (by kernel_rfl) (fits_of (l := [(3, (sub [1, 1, 1, 1, 0, 1, 0, 0, 1, 0] junctionref5_Grid.c))]) (by kernel_rfl) ⟨junctionref5_Grid.k3 k, trivial⟩) (fun _ => by kernel_rfl) (fun _ _ => by kernel_rfl) k
theorem junctionref5_Grid.call (k : Nat) : CallV Tryd.prog E glob 20 junctionref5_Grid.i junctionref5_Grid.p junctionref5_Grid.b (junctionref5_Grid.f k) :=
  fn_okZ (kindOf := kindOf) (C := junctionref5_Grid.ctx k) (n := (.pair (.ops [0] 0) (.pair .none (.pair .none (.pair (.pair .none (.pair (.cut 1) .none)) (.pair (.pair .none (.pair (.cut 4) .none)) .none)))))) (junctionref5_Grid.xOk k) Tryd.func20 junctionref5_Grid.hb (fits_of (l := [(1, .loop (sub [1, 1, 1, 0, 1, 0, 0] junctionref5_Grid.c)), (4, .loop (sub [1, 1, 1, 1, 0, 1, 0, 0] junctionref5_Grid.c))]) (by kernel_rfl) ⟨junctionref5_Grid.k1 k, junctionref5_Grid.k4 k, trivial⟩) (fun _ => by kernel_rfl)
noncomputable def junctionref5_Grid.ent (k : Nat) : EntS κ := ⟨20, [], entOf junctionref5_Grid.i junctionref5_Grid.p junctionref5_Grid.b true (junctionref5_Grid.f k) E⟩
theorem junctionref5_Grid.entOk (k : Nat) : EntOk Tryd.prog E glob 20 (junctionref5_Grid.ent k).run := ent_free encOk (callable_of Tryd.func20 (by kernel_rfl) (by kernel_rfl)) (by rfl) trivial (junctionref5_Grid.call k)
noncomputable def junctionref5_Grid.qent (k : Nat) : QEntS κ := ⟨20, qentOf junctionref5_Grid.i junctionref5_Grid.p (junctionref5_Grid.f k) E⟩
theorem junctionref5_Grid.qentOk (k : Nat) : QEntOk Tryd.prog E glob 20 (junctionref5_Grid.qent k).run := qent_ok encOk (callable_of Tryd.func20 (by kernel_rfl) (by kernel_rfl)) (junctionref5_Grid.call k)
noncomputable def junctionlaw6_copied.c : Go.Code := match Tryd.f21.body with | some c => c | none => .skip
theorem junctionlaw6_copied.hb : Tryd.f21.body = some junctionlaw6_copied.c := by kernel_rfl
noncomputable def junctionlaw6_copied.x (k : Nat) (ls : List (LamS κ)) : Ctx κ := mkCtx [] [] ls
def junctionlaw6_copied.i : List (Pat κ) := [.agg [.ro .T42, .ro .T47]]
def junctionlaw6_copied.s0 : Sh κ := ⟨0, [1, 2], [.rop [.ro .T42, .ro .T47], .ptr 0 0], [.raw 25 [.own .T42 1, .own .T47 2], .rows .T42, .rows .T47]⟩
def junctionlaw6_copied.o0 : List (Ex × Sh κ) := [(.normal, ⟨3, [2], [.ptr 0 0], [.raw 25 [.own .T42 3, .own .T47 4], .rows .T42, .rows .T47, .rows .T42, .rows .T47]⟩)]
noncomputable def junctionlaw6_copied.l0 (k : Nat) (t1 : List S42) (t1_1 : List S47) (b1 : List S42) (b2 : List S47) : Option ((Unit × Unit) × (Unit × Unit × Unit) × List Go.Am.Tryd.S42 × List Go.Am.Tryd.S47 × List Go.Am.Tryd.S42 × List Go.Am.Tryd.S47 × Unit) :=
    Go.Am.room (List.length t1 * (48 : Nat)) (Go.Am.room (List.length t1_1 * (32 : Nat)) (Option.some (((), ()), ((), (), ()), b1, b2, t1, t1_1, ())))
def junctionlaw6_copied.w0 : List Nat := [3, 4, 5, 6, 7, 8, 9]
noncomputable def junctionlaw6_copied.e0 (k : Nat) : junctionlaw6_copied.s0.den → Option (OutT junctionlaw6_copied.o0) := fun d => junctionlaw6_copied.l0 k d.1.1.1 d.1.1.2.1 d.2.2.1 d.2.2.2.1
noncomputable def junctionlaw6_copied.m0 (k : Nat) : LamS κ := ⟨lamK 10 junctionlaw6_copied.w0 junctionlaw6_copied.s0 junctionlaw6_copied.o0 (junctionlaw6_copied.e0 k)⟩
def junctionlaw6_copied.t0 : Sched := (.take 0 (.take 1 (.take 3 (.take 4 (.all (.cons 2 (.all (.cons 5 (.take 6 (.all (.cons 7 .done .nil))) .nil)) .nil))))))
noncomputable def junctionlaw6_copied.p0 (k : Nat) (t1 : List S42) (t1_1 : List S47) (b1 : List S42) (b2 : List S47) (o : (Unit × Unit) × (Unit × Unit × Unit) × List Go.Am.Tryd.S42 × List Go.Am.Tryd.S47 × List Go.Am.Tryd.S42 × List Go.Am.Tryd.S47 × Unit) : Prop :=
    Go.Am.holds
        (Go.Am.room (List.length t1 * (48 : Nat))
          (Option.some
            (Go.Am.holds
                (Go.Am.room (List.length t1_1 * (32 : Nat)) (Option.some (Option.some (((), ()), ((), (), ()), b1, b2, t1, t1_1, ()) = Option.some o ∧ True))) ∧
              True))) ∧
      True
theorem junctionlaw6_copied.q0 (k : Nat) (t1 : List S42) (t1_1 : List S47) (b1 : List S42) (b2 : List S47) (o : (Unit × Unit) × (Unit × Unit × Unit) × List Go.Am.Tryd.S42 × List Go.Am.Tryd.S47 × List Go.Am.Tryd.S42 × List Go.Am.Tryd.S47 × Unit) (h : junctionlaw6_copied.l0 k t1 t1_1 b1 b2 = some o) : junctionlaw6_copied.p0 k t1 t1_1 b1 b2 o := by
  unfold junctionlaw6_copied.l0 at h
  unfold junctionlaw6_copied.p0
  repeat' (first | split at h | (rw [Option.bind_eq_some_iff] at h; obtain ⟨_, _, h⟩ := h) | (rw [room_some] at h; obtain ⟨_, h⟩ := h) | (rw [tooLong_some] at h; obtain ⟨_, h⟩ := h))
  all_goals first | (cases h; done) | (cases h; simp only [Option.bind_some, room_pos, tooLong_pos, if_true, and_self, and_true, not_false_eq_true, holds, *]; done) | (cases h; simp [holds, room_pos, tooLong_pos, *]; done) | (cases h; simp_all [holds, room_pos, tooLong_pos])
def junctionlaw6_copied.p : Pat κ := .agg [.own .T42 0, .own .T47 1]
def junctionlaw6_copied.b : List (BPat κ) := [.rows .T42, .rows .T47]
noncomputable def junctionlaw6_copied (k : Nat) (t0 : List S42) (t0_1 : List S47) : Option ((Unit × Unit × Unit) × List Go.Am.Tryd.S42 × List Go.Am.Tryd.S47 × Unit) :=
    Option.bind (Go.Am.Tryd.junctionlaw6_copied.l0 k t0 t0_1 [] []) fun r0 =>
      Option.some (((), (), ()), Prod.fst (Prod.snd (Prod.snd (Prod.snd (Prod.snd r0)))), Prod.fst (Prod.snd (Prod.snd (Prod.snd (Prod.snd (Prod.snd r0))))), ())
noncomputable def junctionlaw6_copied.f (k : Nat) : dens junctionlaw6_copied.i → Option (junctionlaw6_copied.p.den × densB junctionlaw6_copied.b) := fun d => junctionlaw6_copied k d.1.1 d.1.2.1
noncomputable def junctionlaw6_copied.ctx (k : Nat) : Ctx κ := junctionlaw6_copied.x k [junctionlaw6_copied.m0 k]
theorem junctionlaw6_copied.xOk (k : Nat) : (junctionlaw6_copied.ctx k).Ok := ctxOk trivial trivial
theorem junctionlaw6_copied.k0 (k : Nat) : LamOk (junctionlaw6_copied.ctx k) ((junctionlaw6_copied.ctx k).Λ 0) (sub [1, 0] junctionlaw6_copied.c) :=
  tree_ok (kindOf := kindOf) (C := junctionlaw6_copied.ctx k) (L := junctionlaw6_copied.e0 k) (tr := junctionlaw6_copied.t0) (junctionlaw6_copied.xOk k) (by kernel_rfl) (by kernel_rfl) (by kernel_rfl) (by kernel_rfl) fun d o h => (show runs (junctionlaw6_copied.ctx k) kindOf _ junctionlaw6_copied.t0 _ _ = junctionlaw6_copied.p0 k d.1.1.1 d.1.1.2.1 d.2.2.1 d.2.2.2.1 o by kernel_rfl).mpr (junctionlaw6_copied.q0 k d.1.1.1 d.1.1.2.1 d.2.2.1 d.2.2.2.1 o (by unfold junctionlaw6_copied.e0 at h; exact h))
theorem junctionlaw6_copied.call (k : Nat) : CallV Tryd.prog E glob 21 junctionlaw6_copied.i junctionlaw6_copied.p junctionlaw6_copied.b (junctionlaw6_copied.f k) :=
  fn_ok (kindOf := kindOf) (C := junctionlaw6_copied.ctx k) (n := (.pair (.ops [0] 0) (.pair (.cut 0) .none))) (junctionlaw6_copied.xOk k) Tryd.func21 junctionlaw6_copied.hb (fits_of (l := [(0, (sub [1, 0] junctionlaw6_copied.c))]) (by kernel_rfl) ⟨junctionlaw6_copied.k0 k, trivial⟩) (fun _ => by kernel_rfl)
noncomputable def junctionlaw6_copied.ent (k : Nat) : EntS κ := ⟨21, [], entOf junctionlaw6_copied.i junctionlaw6_copied.p junctionlaw6_copied.b true (junctionlaw6_copied.f k) E⟩
theorem junctionlaw6_copied.entOk (k : Nat) : EntOk Tryd.prog E glob 21 (junctionlaw6_copied.ent k).run := ent_free encOk (callable_of Tryd.func21 (by kernel_rfl) (by kernel_rfl)) (by rfl) ⟨D.plain (by rfl), D.plain (by rfl), trivial⟩ (junctionlaw6_copied.call k)
noncomputable def junctionlaw6_turned.c : Go.Code := match Tryd.f23.body with | some c => c | none => .skip
theorem junctionlaw6_turned.hb : Tryd.f23.body = some junctionlaw6_turned.c := by kernel_rfl
noncomputable def junctionlaw6_turned.x (k : Nat) (ls : List (LamS κ)) : Ctx κ := mkCtx [] [] ls
def junctionlaw6_turned.i : List (Pat κ) := [.int .i64, .int .i64, .int .i64]
def junctionlaw6_turned.p : Pat κ := .int .i64
def junctionlaw6_turned.b : List (BPat κ) := []
noncomputable def junctionlaw6_turned (k : Nat) (t0 : Int) (t1 : Int) (t2 : Int) : Option (Int × Unit) :=
    if (t0 == t1) = Bool.true then Option.some (t2, ()) else if (t0 == t2) = Bool.true then Option.some (t1, ()) else Option.some (t0, ())
noncomputable def junctionlaw6_turned.f (k : Nat) : dens junctionlaw6_turned.i → Option (junctionlaw6_turned.p.den × densB junctionlaw6_turned.b) := fun d => junctionlaw6_turned k d.1 d.2.1 d.2.2.1
noncomputable def junctionlaw6_turned.ctx (k : Nat) : Ctx κ := junctionlaw6_turned.x k []
theorem junctionlaw6_turned.xOk (k : Nat) : (junctionlaw6_turned.ctx k).Ok := ctxOk trivial trivial
theorem junctionlaw6_turned.call (k : Nat) : CallV Tryd.prog E glob 23 junctionlaw6_turned.i junctionlaw6_turned.p junctionlaw6_turned.b (junctionlaw6_turned.f k) :=
  fn_okZ (kindOf := kindOf) (C := junctionlaw6_turned.ctx k) (n := .none) (junctionlaw6_turned.xOk k) Tryd.func23 junctionlaw6_turned.hb (fits_of (l := []) (by kernel_rfl) trivial) (fun _ => by kernel_rfl)
noncomputable def junctionlaw6_turned.ent (k : Nat) : EntS κ := ⟨23, [], entOf junctionlaw6_turned.i junctionlaw6_turned.p junctionlaw6_turned.b true (junctionlaw6_turned.f k) E⟩
theorem junctionlaw6_turned.entOk (k : Nat) : EntOk Tryd.prog E glob 23 (junctionlaw6_turned.ent k).run := ent_free encOk (callable_of Tryd.func23 (by kernel_rfl) (by kernel_rfl)) (by rfl) trivial (junctionlaw6_turned.call k)
noncomputable def junctionlaw6_turned.qent (k : Nat) : QEntS κ := ⟨23, qentOf junctionlaw6_turned.i junctionlaw6_turned.p (junctionlaw6_turned.f k) E⟩
theorem junctionlaw6_turned.qentOk (k : Nat) : QEntOk Tryd.prog E glob 23 (junctionlaw6_turned.qent k).run := qent_ok encOk (callable_of Tryd.func23 (by kernel_rfl) (by kernel_rfl)) (junctionlaw6_turned.call k)
noncomputable def junctionlaw6_turnedMask.c : Go.Code := match Tryd.f24.body with | some c => c | none => .skip
theorem junctionlaw6_turnedMask.hb : Tryd.f24.body = some junctionlaw6_turnedMask.c := by kernel_rfl
noncomputable def junctionlaw6_turnedMask.x (k : Nat) (ls : List (LamS κ)) : Ctx κ := mkCtx [] [] ls
def junctionlaw6_turnedMask.i : List (Pat κ) := [.int .u64, .int .i64, .int .i64]
def junctionlaw6_turnedMask.p : Pat κ := .int .u64
def junctionlaw6_turnedMask.b : List (BPat κ) := []
noncomputable def junctionlaw6_turnedMask (k : Nat) (t0 : Int) (t1 : Int) (t2 : Int) : Option (Int × Unit) :=
    if t1 < (0 : Int) then Option.none
    else
      if t2 < (0 : Int) then Option.none
      else
        if t1 < (0 : Int) then Option.none
        else
          if t2 < (0 : Int) then Option.none
          else
            if t2 < (0 : Int) then Option.none
            else
              if t1 < (0 : Int) then Option.none
              else
                Option.some
                  (Go.IntKind.wrap Go.IntKind.u64
                      (↑(BitVec.toNat
                            (BitVec.ofInt (Go.IntKind.bits Go.IntKind.u64)
                                (Go.IntKind.wrap Go.IntKind.u64
                                  (↑(BitVec.toNat
                                        (BitVec.ofInt (Go.IntKind.bits Go.IntKind.u64)
                                            (Go.IntKind.wrap Go.IntKind.u64
                                              (↑(BitVec.toNat
                                                    (BitVec.ofInt (Go.IntKind.bits Go.IntKind.u64)
                                                        (Go.IntKind.wrap Go.IntKind.u64
                                                          (↑(BitVec.toNat
                                                                (BitVec.ofInt (Go.IntKind.bits Go.IntKind.u64) t0 &&&
                                                                  ~~~BitVec.ofInt (Go.IntKind.bits Go.IntKind.u64) (Go.Am.shl Go.IntKind.u64 (1 : Int) t1))) :
                                                            Int)) &&&
                                                      ~~~BitVec.ofInt (Go.IntKind.bits Go.IntKind.u64) (Go.Am.shl Go.IntKind.u64 (1 : Int) t2))) :
                                                Int)) |||
                                          BitVec.ofInt (Go.IntKind.bits Go.IntKind.u64)
                                            (Go.Am.shl Go.IntKind.u64
                                              (Go.IntKind.wrap Go.IntKind.u64
                                                (↑(BitVec.toNat
                                                      (BitVec.ofInt (Go.IntKind.bits Go.IntKind.u64) (Go.Am.shr Go.IntKind.u64 t0 t1) &&&
                                                        BitVec.ofInt (Go.IntKind.bits Go.IntKind.u64) (1 : Int))) :
                                                  Int))
                                              t2))) :
                                    Int)) |||
                              BitVec.ofInt (Go.IntKind.bits Go.IntKind.u64)
                                (Go.Am.shl Go.IntKind.u64
                                  (Go.IntKind.wrap Go.IntKind.u64
                                    (↑(BitVec.toNat
                                          (BitVec.ofInt (Go.IntKind.bits Go.IntKind.u64) (Go.Am.shr Go.IntKind.u64 t0 t2) &&&
                                            BitVec.ofInt (Go.IntKind.bits Go.IntKind.u64) (1 : Int))) :
                                      Int))
                                  t1))) :
                        Int),
                    ())
noncomputable def junctionlaw6_turnedMask.f (k : Nat) : dens junctionlaw6_turnedMask.i → Option (junctionlaw6_turnedMask.p.den × densB junctionlaw6_turnedMask.b) := fun d => junctionlaw6_turnedMask k d.1 d.2.1 d.2.2.1
noncomputable def junctionlaw6_turnedMask.ctx (k : Nat) : Ctx κ := junctionlaw6_turnedMask.x k []
theorem junctionlaw6_turnedMask.xOk (k : Nat) : (junctionlaw6_turnedMask.ctx k).Ok := ctxOk trivial trivial
theorem junctionlaw6_turnedMask.call (k : Nat) : CallV Tryd.prog E glob 24 junctionlaw6_turnedMask.i junctionlaw6_turnedMask.p junctionlaw6_turnedMask.b (junctionlaw6_turnedMask.f k) :=
  fn_okZ (kindOf := kindOf) (C := junctionlaw6_turnedMask.ctx k) (n := (.pair .none (.pair .none (.pair .none (.pair (.ops [] 8) (.pair (.ops [] 10) .none)))))) (junctionlaw6_turnedMask.xOk k) Tryd.func24 junctionlaw6_turnedMask.hb (fits_of (l := []) (by kernel_rfl) trivial) (fun _ => by kernel_rfl)
noncomputable def junctionlaw6_turnedMask.ent (k : Nat) : EntS κ := ⟨24, [], entOf junctionlaw6_turnedMask.i junctionlaw6_turnedMask.p junctionlaw6_turnedMask.b true (junctionlaw6_turnedMask.f k) E⟩
theorem junctionlaw6_turnedMask.entOk (k : Nat) : EntOk Tryd.prog E glob 24 (junctionlaw6_turnedMask.ent k).run := ent_free encOk (callable_of Tryd.func24 (by kernel_rfl) (by kernel_rfl)) (by rfl) trivial (junctionlaw6_turnedMask.call k)
noncomputable def junctionlaw6_turnedMask.qent (k : Nat) : QEntS κ := ⟨24, qentOf junctionlaw6_turnedMask.i junctionlaw6_turnedMask.p (junctionlaw6_turnedMask.f k) E⟩
theorem junctionlaw6_turnedMask.qentOk (k : Nat) : QEntOk Tryd.prog E glob 24 (junctionlaw6_turnedMask.qent k).run := qent_ok encOk (callable_of Tryd.func24 (by kernel_rfl) (by kernel_rfl)) (junctionlaw6_turnedMask.call k)
noncomputable def junctionlaw6_SafetyTurns.c : Go.Code := match Tryd.f4.body with | some c => c | none => .skip
theorem junctionlaw6_SafetyTurns.hb : Tryd.f4.body = some junctionlaw6_SafetyTurns.c := by kernel_rfl
noncomputable def junctionlaw6_SafetyTurns.x (k : Nat) (ls : List (LamS κ)) : Ctx κ := mkCtx [safety_Inter.ent k, safety_Span.ent k, safety_Longest.ent k, safety_Hold.ent k, junctionlaw6_alive.ent k, junctionref5_Grid.ent k, junctionlaw6_copied.ent k, junctionlaw6_turned.ent k, junctionlaw6_turnedMask.ent k] [safety_Inter.qent k, junctionlaw6_alive.qent k, junctionref5_Grid.qent k, junctionlaw6_turned.qent k, junctionlaw6_turnedMask.qent k] ls
def junctionlaw6_SafetyTurns.i : List (Pat κ) := [.agg [.ro .T42, .ro .T47], .int .i64, .int .i64, .int .u64, .int .u64]
def junctionlaw6_SafetyTurns.s0 : Sh κ := ⟨0, [1, 2, 5, 11], [.int .i64, .int .i64, .rop [.ro .T42, .ro .T47], .int .i64], []⟩
def junctionlaw6_SafetyTurns.o0 : List (Ex × Sh κ) := [(.ret, ⟨0, [10], [.bool], []⟩), (.normal, ⟨0, [], [], []⟩)]
noncomputable def junctionlaw6_SafetyTurns.l0 (k : Nat) (t1 : Int) (t2 : Int) (t5 : List S42) (t5_1 : List S47) (t11 : Int) : Option ((Bool × Unit) × Unit ⊕ Unit × Unit) :=
    Option.bind (Go.Am.Tryd.junctionref5_Grid k t5 t5_1) fun r0 =>
      if (!Prod.fst r0) = Bool.false then
        if Decidable.decide (t1 < (0 : Int)) = Bool.false then
          if Decidable.decide (t2 < (0 : Int)) = Bool.false then
            if Decidable.decide (t1 ≥ t11) = Bool.false then
              if Decidable.decide (t2 ≥ t11) = Bool.true then Option.some (Sum.inl ((Bool.true, ()), ())) else Option.some (Sum.inr ((), ()))
            else Option.some (Sum.inl ((Bool.true, ()), ()))
          else Option.some (Sum.inl ((Bool.true, ()), ()))
        else Option.some (Sum.inl ((Bool.true, ()), ()))
      else Option.some (Sum.inl ((Bool.true, ()), ()))
def junctionlaw6_SafetyTurns.w0 : List Nat := [38, 39, 40, 41, 42, 43, 44, 45, 46, 47, 48, 49, 50, 51, 52, 53, 54, 55, 56, 57, 58, 10]
noncomputable def junctionlaw6_SafetyTurns.e0 (k : Nat) : junctionlaw6_SafetyTurns.s0.den → Option (OutT junctionlaw6_SafetyTurns.o0) := fun d => junctionlaw6_SafetyTurns.l0 k d.1.1 d.1.2.1 d.1.2.2.1.1 d.1.2.2.1.2.1 d.1.2.2.2.1
noncomputable def junctionlaw6_SafetyTurns.m0 (k : Nat) : LamS κ := ⟨lamK 214 junctionlaw6_SafetyTurns.w0 junctionlaw6_SafetyTurns.s0 junctionlaw6_SafetyTurns.o0 (junctionlaw6_SafetyTurns.e0 k)⟩
def junctionlaw6_SafetyTurns.s3 : Sh κ := ⟨0, [1, 2, 5, 11, 12, 13], [.int .i64, .int .i64, .rop [.ro .T42, .ro .T47], .int .i64, .ptr 0 0, .int .i64], [.raw 25 [.own .T42 1, .own .T47 2], .rows .T42, .rows .T47]⟩
def junctionlaw6_SafetyTurns.s2 : Sh κ := ⟨0, [1, 2, 5, 11, 12, 13, 14], [.int .i64, .int .i64, .rop [.ro .T42, .ro .T47], .int .i64, .ptr 0 0, .int .i64, .int .i64], [.raw 25 [.own .T42 1, .own .T47 2], .rows .T42, .rows .T47]⟩
def junctionlaw6_SafetyTurns.s1 : Sh κ := ⟨0, [1, 2, 5, 12, 13, 14], [.int .i64, .int .i64, .rop [.ro .T42, .ro .T47], .ptr 0 0, .int .i64, .int .i64], [.raw 25 [.own .T42 1, .own .T47 2], .rows .T42, .rows .T47]⟩
def junctionlaw6_SafetyTurns.o1 : List (Ex × Sh κ) := [(.normal, ⟨3, [12], [.ptr 0 0], [.raw 25 [.own .T42 1, .own .T47 2], .rows .T42, .rows .T47]⟩)]
noncomputable def junctionlaw6_SafetyTurns.l1 (k : Nat) (t1 : Int) (t2 : Int) (t5 : List S42) (t5_1 : List S47) (t13 : Int) (t14 : Int) (b1 : List S42) (b2 : List S47) : Option ((Unit × Unit) × (Unit × Unit × Unit) × List Go.Am.Tryd.S42 × List Go.Am.Tryd.S47 × Unit) :=
    Option.bind (Go.Am.Tryd.junctionlaw6_turned k t13 t1 t2) fun r0 =>
      Option.bind (Go.Am.Tryd.junctionlaw6_turned k t14 t1 t2) fun r1 =>
        Option.bind (Go.Am.Tryd.safety_Inter k t5 t5_1 (Prod.fst r0) (Prod.fst r1)) fun r2 =>
          Option.bind (Go.Am.Tryd.junctionlaw6_turned k t14 t1 t2) fun r3 =>
            Option.bind (Go.Am.Tryd.junctionlaw6_turned k t13 t1 t2) fun r4 =>
              Option.bind (Go.Am.Tryd.safety_Inter k t5 t5_1 (Prod.fst r3) (Prod.fst r4)) fun r5 =>
                if Prod.fst (Prod.snd (Prod.fst r2)) = Bool.true then
                  Go.Am.room ((List.length b2 + List.length [Go.Am.Tryd.S47.mk t13 t14 (Prod.fst (Prod.fst r2)) (Prod.fst (Prod.fst r5))]) * (32 : Nat))
                    (Option.some (((), ()), ((), (), ()), b1, b2 ++ [Go.Am.Tryd.S47.mk t13 t14 (Prod.fst (Prod.fst r2)) (Prod.fst (Prod.fst r5))], ()))
                else Option.some (((), ()), ((), (), ()), b1, b2, ())
def junctionlaw6_SafetyTurns.w1 : List Nat := [93, 94, 95, 96, 97, 98, 99, 100, 101, 102, 92, 103, 104, 15, 16, 106, 107, 108, 109, 110, 111, 112, 113, 114, 115, 105, 116, 117, 17, 18, 118, 119, 120, 121, 122, 123, 124, 125, 126, 127, 128]
noncomputable def junctionlaw6_SafetyTurns.e1 (k : Nat) : junctionlaw6_SafetyTurns.s1.den → Option (OutT junctionlaw6_SafetyTurns.o1) := fun d => junctionlaw6_SafetyTurns.l1 k d.1.1 d.1.2.1 d.1.2.2.1.1 d.1.2.2.1.2.1 d.1.2.2.2.2.1 d.1.2.2.2.2.2.1 d.2.2.1 d.2.2.2.1
noncomputable def junctionlaw6_SafetyTurns.m1 (k : Nat) : LamS κ := ⟨lamK 214 junctionlaw6_SafetyTurns.w1 junctionlaw6_SafetyTurns.s1 junctionlaw6_SafetyTurns.o1 (junctionlaw6_SafetyTurns.e1 k)⟩
def junctionlaw6_SafetyTurns.o2 : List (Ex × Sh κ) := [(.exit 2, ⟨3, [12], [.ptr 0 0], [.raw 25 [.own .T42 1, .own .T47 2], .rows .T42, .rows .T47]⟩)]
noncomputable def junctionlaw6_SafetyTurns.l2 (k : Nat) : Nat → Int → Int → (List S42) → (List S47) → Int → Int → Int → (List S42) → (List S47) → Option ((Unit × Unit) × (Unit × Unit × Unit) × List Go.Am.Tryd.S42 × List Go.Am.Tryd.S47 × Unit)
  | 0, _, _, _, _, _, _, _, _, _ => none
  | j + 1, t1, t2, t5, t5_1, t11, t13, t14, b1, b2 =>
    if Decidable.decide (t14 < t11) = Bool.true then
      Option.bind (Go.Am.Tryd.junctionlaw6_SafetyTurns.l1 k t1 t2 t5 t5_1 t13 t14 b1 b2) fun r0 =>
        junctionlaw6_SafetyTurns.l2 k j t1 t2 t5 t5_1 t11 t13 (Go.IntKind.wrap Go.IntKind.i64 (t14 + (1 : Int))) (Prod.fst (Prod.snd (Prod.snd r0)))
          (Prod.fst (Prod.snd (Prod.snd (Prod.snd r0))))
    else Option.some (((), ()), ((), (), ()), b1, b2, ())
def junctionlaw6_SafetyTurns.w2 : List Nat := [87, 88, 89, 93, 94, 95, 96, 97, 98, 99, 100, 101, 102, 92, 103, 104, 15, 16, 106, 107, 108, 109, 110, 111, 112, 113, 114, 115, 105, 116, 117, 17, 18, 118, 119, 120, 121, 122, 123, 124, 125, 126, 127, 128, 90, 91, 14]
noncomputable def junctionlaw6_SafetyTurns.e2 (k j : Nat) : junctionlaw6_SafetyTurns.s2.den → Option (OutT junctionlaw6_SafetyTurns.o2) := fun d => junctionlaw6_SafetyTurns.l2 k j d.1.1 d.1.2.1 d.1.2.2.1.1 d.1.2.2.1.2.1 d.1.2.2.2.1 d.1.2.2.2.2.2.1 d.1.2.2.2.2.2.2.1 d.2.2.1 d.2.2.2.1
noncomputable def junctionlaw6_SafetyTurns.m2 (k : Nat) : LamS κ := ⟨lamK 214 junctionlaw6_SafetyTurns.w2 junctionlaw6_SafetyTurns.s2 junctionlaw6_SafetyTurns.o2 (junctionlaw6_SafetyTurns.e2 k k)⟩
def junctionlaw6_SafetyTurns.o3 : List (Ex × Sh κ) := [(.exit 0, ⟨3, [12], [.ptr 0 0], [.raw 25 [.own .T42 1, .own .T47 2], .rows .T42, .rows .T47]⟩)]
noncomputable def junctionlaw6_SafetyTurns.l3 (k : Nat) : Nat → Int → Int → (List S42) → (List S47) → Int → Int → (List S42) → (List S47) → Option ((Unit × Unit) × (Unit × Unit × Unit) × List Go.Am.Tryd.S42 × List Go.Am.Tryd.S47 × Unit)
  | 0, _, _, _, _, _, _, _, _ => none
  | j + 1, t1, t2, t5, t5_1, t11, t13, b1, b2 =>
    if Decidable.decide (t13 < t11) = Bool.true then
      Option.bind (Go.Am.Tryd.junctionlaw6_SafetyTurns.l2 k k t1 t2 t5 t5_1 t11 t13 (Go.IntKind.wrap Go.IntKind.i64 (t13 + (1 : Int))) b1 b2) fun r0 =>
        junctionlaw6_SafetyTurns.l3 k j t1 t2 t5 t5_1 t11 (Go.IntKind.wrap Go.IntKind.i64 (t13 + (1 : Int))) (Prod.fst (Prod.snd (Prod.snd r0))) (Prod.fst (Prod.snd (Prod.snd (Prod.snd r0))))
    else Option.some (((), ()), ((), (), ()), b1, b2, ())
def junctionlaw6_SafetyTurns.w3 : List Nat := [80, 81, 82, 85, 86, 14, 87, 88, 89, 93, 94, 95, 96, 97, 98, 99, 100, 101, 102, 92, 103, 104, 15, 16, 106, 107, 108, 109, 110, 111, 112, 113, 114, 115, 105, 116, 117, 17, 18, 118, 119, 120, 121, 122, 123, 124, 125, 126, 127, 128, 90, 91, 83, 84, 13]
noncomputable def junctionlaw6_SafetyTurns.e3 (k j : Nat) : junctionlaw6_SafetyTurns.s3.den → Option (OutT junctionlaw6_SafetyTurns.o3) := fun d => junctionlaw6_SafetyTurns.l3 k j d.1.1 d.1.2.1 d.1.2.2.1.1 d.1.2.2.1.2.1 d.1.2.2.2.1 d.1.2.2.2.2.2.1 d.2.2.1 d.2.2.2.1
noncomputable def junctionlaw6_SafetyTurns.m3 (k : Nat) : LamS κ := ⟨lamK 214 junctionlaw6_SafetyTurns.w3 junctionlaw6_SafetyTurns.s3 junctionlaw6_SafetyTurns.o3 (junctionlaw6_SafetyTurns.e3 k k)⟩
def junctionlaw6_SafetyTurns.p : Pat κ := .bool
def junctionlaw6_SafetyTurns.b : List (BPat κ) := []
noncomputable def junctionlaw6_SafetyTurns (k : Nat) (t0 : List S42) (t0_1 : List S47) (t1 : Int) (t2 : Int) (t3 : Int) (t4 : Int) : Option (Bool × Unit) :=
    Option.bind (Go.Am.Tryd.junctionlaw6_alive k) fun r0 =>
      if (!Prod.fst r0) = Bool.true then Option.some (Bool.false, ())
      else
        Option.bind (Go.Am.Tryd.junctionlaw6_SafetyTurns.l0 k t1 t2 t0 t0_1 (↑(List.length t0) : Int)) fun r1 =>
          Go.Am.onSum r1 (fun r2 => Option.some (Prod.fst (Prod.fst r2), ())) fun r2 =>
            Option.bind (Go.Am.Tryd.junctionlaw6_copied k t0 t0_1) fun r3 =>
              if (0 : Int) ≤ t2 ∧ t2 < (↑(List.length t0) : Int) then
                if (0 : Int) ≤ t1 ∧ t1 < (↑(List.length (Prod.fst (Prod.snd r3))) : Int) then
                  if (0 : Int) ≤ t1 ∧ t1 < (↑(List.length t0) : Int) then
                    if
                        (0 : Int) ≤ t2 ∧
                          t2 <
                            (↑(List.length
                                  (List.set (Prod.fst (Prod.snd r3)) (Int.toNat t1)
                                    (Go.Am.Tryd.S42.mk
                                      (Go.Am.Tryd.S42.f0 (List.getD t0 (Int.toNat t2) (Go.Am.Tryd.S42.mk ByteArray.empty (0 : Int) (0 : Int) (0 : Int) (0 : Int))))
                                      (Go.Am.Tryd.S42.f1 (List.getD t0 (Int.toNat t2) (Go.Am.Tryd.S42.mk ByteArray.empty (0 : Int) (0 : Int) (0 : Int) (0 : Int))))
                                      (Go.Am.Tryd.S42.f2 (List.getD t0 (Int.toNat t2) (Go.Am.Tryd.S42.mk ByteArray.empty (0 : Int) (0 : Int) (0 : Int) (0 : Int))))
                                      (Go.Am.Tryd.S42.f3 (List.getD t0 (Int.toNat t2) (Go.Am.Tryd.S42.mk ByteArray.empty (0 : Int) (0 : Int) (0 : Int) (0 : Int))))
                                      (Go.Am.Tryd.S42.f4
                                        (List.getD t0 (Int.toNat t2) (Go.Am.Tryd.S42.mk ByteArray.empty (0 : Int) (0 : Int) (0 : Int) (0 : Int))))))) :
                              Int) then
                      Option.bind
                        (Go.Am.Tryd.junctionlaw6_SafetyTurns.l3 k k t1 t2 t0 t0_1 (↑(List.length t0) : Int) (0 : Int)
                          (List.set
                            (List.set (Prod.fst (Prod.snd r3)) (Int.toNat t1)
                              (Go.Am.Tryd.S42.mk
                                (Go.Am.Tryd.S42.f0 (List.getD t0 (Int.toNat t2) (Go.Am.Tryd.S42.mk ByteArray.empty (0 : Int) (0 : Int) (0 : Int) (0 : Int))))
                                (Go.Am.Tryd.S42.f1 (List.getD t0 (Int.toNat t2) (Go.Am.Tryd.S42.mk ByteArray.empty (0 : Int) (0 : Int) (0 : Int) (0 : Int))))
                                (Go.Am.Tryd.S42.f2 (List.getD t0 (Int.toNat t2) (Go.Am.Tryd.S42.mk ByteArray.empty (0 : Int) (0 : Int) (0 : Int) (0 : Int))))
                                (Go.Am.Tryd.S42.f3 (List.getD t0 (Int.toNat t2) (Go.Am.Tryd.S42.mk ByteArray.empty (0 : Int) (0 : Int) (0 : Int) (0 : Int))))
                                (Go.Am.Tryd.S42.f4 (List.getD t0 (Int.toNat t2) (Go.Am.Tryd.S42.mk ByteArray.empty (0 : Int) (0 : Int) (0 : Int) (0 : Int))))))
                            (Int.toNat t2)
                            (Go.Am.Tryd.S42.mk
                              (Go.Am.Tryd.S42.f0 (List.getD t0 (Int.toNat t1) (Go.Am.Tryd.S42.mk ByteArray.empty (0 : Int) (0 : Int) (0 : Int) (0 : Int))))
                              (Go.Am.Tryd.S42.f1 (List.getD t0 (Int.toNat t1) (Go.Am.Tryd.S42.mk ByteArray.empty (0 : Int) (0 : Int) (0 : Int) (0 : Int))))
                              (Go.Am.Tryd.S42.f2 (List.getD t0 (Int.toNat t1) (Go.Am.Tryd.S42.mk ByteArray.empty (0 : Int) (0 : Int) (0 : Int) (0 : Int))))
                              (Go.Am.Tryd.S42.f3 (List.getD t0 (Int.toNat t1) (Go.Am.Tryd.S42.mk ByteArray.empty (0 : Int) (0 : Int) (0 : Int) (0 : Int))))
                              (Go.Am.Tryd.S42.f4 (List.getD t0 (Int.toNat t1) (Go.Am.Tryd.S42.mk ByteArray.empty (0 : Int) (0 : Int) (0 : Int) (0 : Int))))))
                          [])
                        fun r4 =>
                        if ((↑(List.length (Prod.fst (Prod.snd (Prod.snd (Prod.snd r4))))) : Int) != (↑(List.length t0_1) : Int)) = Bool.true then
                          Option.some (Bool.false, ())
                        else
                          Option.bind (Go.Am.Tryd.junctionlaw6_turnedMask k t3 t1 t2) fun r5 =>
                            Option.bind (Go.Am.Tryd.junctionlaw6_turnedMask k t4 t1 t2) fun r6 =>
                              Option.bind (Go.Am.Tryd.safety_Span k t0 t0_1 t3 t4) fun r7 =>
                                Option.bind
                                  (Go.Am.Tryd.safety_Span k (Prod.fst (Prod.snd (Prod.snd r4))) (Prod.fst (Prod.snd (Prod.snd (Prod.snd r4)))) (Prod.fst r5)
                                    (Prod.fst r6))
                                  fun r8 =>
                                  Option.bind (Go.Am.Tryd.safety_Longest k t0 t0_1 t3 t4) fun r9 =>
                                    Option.bind
                                      (Go.Am.Tryd.safety_Longest k (Prod.fst (Prod.snd (Prod.snd r4))) (Prod.fst (Prod.snd (Prod.snd (Prod.snd r4)))) (Prod.fst r5)
                                        (Prod.fst r6))
                                      fun r10 =>
                                      Option.bind (Go.Am.Tryd.safety_Hold k t0 t0_1 t3 t4) fun r11 =>
                                        Option.bind
                                          (Go.Am.Tryd.safety_Hold k (Prod.fst (Prod.snd (Prod.snd r4))) (Prod.fst (Prod.snd (Prod.snd (Prod.snd r4)))) (Prod.fst r5)
                                            (Prod.fst r6))
                                          fun r12 =>
                                          if (Prod.fst (Prod.fst r7) == Prod.fst (Prod.fst r8)) = Bool.true then
                                            if (Prod.fst (Prod.snd (Prod.fst r7)) == Prod.fst (Prod.snd (Prod.fst r8))) = Bool.true then
                                              if (Prod.fst (Prod.fst r9) == Prod.fst (Prod.fst r10)) = Bool.true then
                                                if (Prod.fst (Prod.snd (Prod.fst r9)) == Prod.fst (Prod.snd (Prod.fst r10))) = Bool.true then
                                                  if (Prod.fst (Prod.fst r11) == Prod.fst (Prod.fst r12)) = Bool.true then
                                                    Option.some (Prod.fst (Prod.snd (Prod.fst r11)) == Prod.fst (Prod.snd (Prod.fst r12)), ())
                                                  else Option.some (Bool.false, ())
                                                else Option.some (Bool.false, ())
                                              else Option.some (Bool.false, ())
                                            else Option.some (Bool.false, ())
                                          else Option.some (Bool.false, ())
                    else Option.none
                  else Option.none
                else Option.none
              else Option.none
noncomputable def junctionlaw6_SafetyTurns.f (k : Nat) : dens junctionlaw6_SafetyTurns.i → Option (junctionlaw6_SafetyTurns.p.den × densB junctionlaw6_SafetyTurns.b) := fun d => junctionlaw6_SafetyTurns k d.1.1 d.1.2.1 d.2.1 d.2.2.1 d.2.2.2.1 d.2.2.2.2.1
noncomputable def junctionlaw6_SafetyTurns.ctx (k : Nat) : Ctx κ := junctionlaw6_SafetyTurns.x k [junctionlaw6_SafetyTurns.m0 k, junctionlaw6_SafetyTurns.m1 k, junctionlaw6_SafetyTurns.m2 k, junctionlaw6_SafetyTurns.m3 k]
theorem junctionlaw6_SafetyTurns.xOk (k : Nat) : (junctionlaw6_SafetyTurns.ctx k).Ok := ctxOk ⟨safety_Inter.entOk k, safety_Span.entOk k, safety_Longest.entOk k, safety_Hold.entOk k, junctionlaw6_alive.entOk k, junctionref5_Grid.entOk k, junctionlaw6_copied.entOk k, junctionlaw6_turned.entOk k, junctionlaw6_turnedMask.entOk k, trivial⟩ ⟨safety_Inter.qentOk k, junctionlaw6_alive.qentOk k, junctionref5_Grid.qentOk k, junctionlaw6_turned.qentOk k, junctionlaw6_turnedMask.qentOk k, trivial⟩
theorem junctionlaw6_SafetyTurns.k0 (k : Nat) : LamOk (junctionlaw6_SafetyTurns.ctx k) ((junctionlaw6_SafetyTurns.ctx k).Λ 0) (sub [1, 1, 1, 0] junctionlaw6_SafetyTurns.c) :=
  cut_ok (kindOf := kindOf) (C := junctionlaw6_SafetyTurns.ctx k) (n := .none) (L := junctionlaw6_SafetyTurns.e0 k) (junctionlaw6_SafetyTurns.xOk k) (by kernel_rfl) (by kernel_rfl) (fits_of (l := []) (by kernel_rfl) trivial) (fun _ => by kernel_rfl)
theorem junctionlaw6_SafetyTurns.k1 (k : Nat) : LamOk (junctionlaw6_SafetyTurns.ctx k) ((junctionlaw6_SafetyTurns.ctx k).Λ 1) (sub [1, 1, 1, 1, 1, 1, 1, 1, 0, 1, 0, 0, 1, 0, 0, 1, 0, 0, 1, 0] junctionlaw6_SafetyTurns.c) :=
  cut_ok (kindOf := kindOf) (C := junctionlaw6_SafetyTurns.ctx k) (n := (.pair (.pair (.ops [] 15) (.pair (.ops [] 15) .none)) .none)) (L := junctionlaw6_SafetyTurns.e1 k) (junctionlaw6_SafetyTurns.xOk k) (by kernel_rfl) (by kernel_rfl) (fits_of (l := []) (by kernel_rfl) trivial) (fun _ => by kernel_rfl)
theorem junctionlaw6_SafetyTurns.k2 (k : Nat) : LamOk (junctionlaw6_SafetyTurns.ctx k) ((junctionlaw6_SafetyTurns.ctx k).Λ 2) (.loop (sub [1, 1, 1, 1, 1, 1, 1, 1, 0, 1, 0, 0, 1, 0, 0, 1, 0, 0] junctionlaw6_SafetyTurns.c)) :=
  loop_ok (kindOf := kindOf) (C := junctionlaw6_SafetyTurns.ctx k) (n := (.pair .none (.pair (.cut 1) .none))) (L := junctionlaw6_SafetyTurns.e2 k) (junctionlaw6_SafetyTurns.xOk k) (by kernel_rfl) (by kernel_rfl) (fits_of (l := [(1, (sub [1, 1, 1, 1, 1, 1, 1, 1, 0, 1, 0, 0, 1, 0, 0, 1, 0, 0, 1, 0] junctionlaw6_SafetyTurns.c))]) (by kernel_rfl) ⟨junctionlaw6_SafetyTurns.k1 k, trivial⟩) (fun _ => by kernel_rfl) (fun _ _ => by kernel_rfl) k
theorem junctionlaw6_SafetyTurns.k3 (k : Nat) : LamOk (junctionlaw6_SafetyTurns.ctx k) ((junctionlaw6_SafetyTurns.ctx k).Λ 3) (.loop (sub [1, 1, 1, 1, 1, 1, 1, 1, 0, 1, 0, 0] junctionlaw6_SafetyTurns.c)) :=
  loop_ok (kindOf := kindOf) (C := junctionlaw6_SafetyTurns.ctx k) (n := (.pair .none (.pair (.pair (.pair .none (.pair (.cut 2) .none)) .none) .none))) (L := junctionlaw6_SafetyTurns.e3 k) (junctionlaw6_SafetyTurns.xOk k) (by kernel_rfl) (by kernel_rfl) (fits_of (l := [(2, .loop (sub [1, 1, 1, 1, 1, 1, 1, 1, 0, 1, 0, 0, 1, 0, 0, 1, 0, 0] junctionlaw6_SafetyTurns.c))]) (by kernel_rfl) ⟨junctionlaw6_SafetyTurns.k2 k, trivial⟩) (fun _ => by kernel_rfl) (fun _ _ => by kernel_rfl) k
theorem junctionlaw6_SafetyTurns.call (k : Nat) : CallV Tryd.prog E glob 4 junctionlaw6_SafetyTurns.i junctionlaw6_SafetyTurns.p junctionlaw6_SafetyTurns.b (junctionlaw6_SafetyTurns.f k) :=
  fn_okZ (kindOf := kindOf) (C := junctionlaw6_SafetyTurns.ctx k) (n := (.pair (.ops [0] 0) (.pair .none (.pair .none (.pair (.cut 0) (.pair .none (.pair (.ops [] 9) (.pair (.ops [] 9) (.pair .none (.pair (.pair .none (.pair (.cut 3) .none)) .none)))))))))) (junctionlaw6_SafetyTurns.xOk k) Tryd.func4 junctionlaw6_SafetyTurns.hb (fits_of (l := [(0, (sub [1, 1, 1, 0] junctionlaw6_SafetyTurns.c)), (3, .loop (sub [1, 1, 1, 1, 1, 1, 1, 1, 0, 1, 0, 0] junctionlaw6_SafetyTurns.c))]) (by kernel_rfl) ⟨junctionlaw6_SafetyTurns.k0 k, junctionlaw6_SafetyTurns.k3 k, trivial⟩) (fun _ => by kernel_rfl)
noncomputable def junctionlaw6_SafetyTurns.ent (k : Nat) : EntS κ := ⟨4, [], entOf junctionlaw6_SafetyTurns.i junctionlaw6_SafetyTurns.p junctionlaw6_SafetyTurns.b true (junctionlaw6_SafetyTurns.f k) E⟩
theorem junctionlaw6_SafetyTurns.entOk (k : Nat) : EntOk Tryd.prog E glob 4 (junctionlaw6_SafetyTurns.ent k).run := ent_free encOk (callable_of Tryd.func4 (by kernel_rfl) (by kernel_rfl)) (by rfl) trivial (junctionlaw6_SafetyTurns.call k)
noncomputable def junctionlaw6_SafetyTurns.qent (k : Nat) : QEntS κ := ⟨4, qentOf junctionlaw6_SafetyTurns.i junctionlaw6_SafetyTurns.p (junctionlaw6_SafetyTurns.f k) E⟩
theorem junctionlaw6_SafetyTurns.qentOk (k : Nat) : QEntOk Tryd.prog E glob 4 (junctionlaw6_SafetyTurns.qent k).run := qent_ok encOk (callable_of Tryd.func4 (by kernel_rfl) (by kernel_rfl)) (junctionlaw6_SafetyTurns.call k)
end Go.Am.Tryd
