/- Written by a program of this work's (wip/am/Gen.tpl over the seat's translation); Lean checks it. -/
import Derived.Test.YtdgempbldhdihaaDoorVHand6w
namespace Go.Am.Tryd
open Go.Proofs Go.Am
set_option maxRecDepth 1000000
set_option linter.unusedVariables false
noncomputable def check_in.c : Go.Code := match Tryd.f75.body with | some c => c | none => .skip
theorem check_in.hb : Tryd.f75.body = some check_in.c := by kernel_rfl
noncomputable def check_in.x (k : Nat) (ls : List (LamS κ)) : Ctx κ := mkCtx [] [] ls
def check_in.i : List (Pat κ) := [.int .i64, .int .i64, .int .i64]
def check_in.p : Pat κ := .bool
def check_in.b : List (BPat κ) := []
noncomputable def check_in (k : Nat) (t0 : Int) (t1 : Int) (t2 : Int) : Option (Bool × Unit) :=
    if Decidable.decide (t0 ≥ t1) = Bool.true then Option.some (Decidable.decide (t0 ≤ t2), ()) else Option.some (Bool.false, ())
noncomputable def check_in.f (k : Nat) : dens check_in.i → Option (check_in.p.den × densB check_in.b) := fun d => check_in k d.1 d.2.1 d.2.2.1
noncomputable def check_in.ctx (k : Nat) : Ctx κ := check_in.x k []
theorem check_in.xOk (k : Nat) : (check_in.ctx k).Ok := ctxOk trivial trivial
theorem check_in.call (k : Nat) : CallV Tryd.prog E glob 75 check_in.i check_in.p check_in.b (check_in.f k) :=
  fn_okZ (kindOf := kindOf) (C := check_in.ctx k) (n := .none) (check_in.xOk k) Tryd.func75 check_in.hb (fits_of (l := []) (by kernel_rfl) trivial) (fun _ => by kernel_rfl)
noncomputable def check_in.ent (k : Nat) : EntS κ := ⟨75, [], entOf check_in.i check_in.p check_in.b true (check_in.f k) E⟩
theorem check_in.entOk (k : Nat) : EntOk Tryd.prog E glob 75 (check_in.ent k).run := ent_free encOk (callable_of Tryd.func75 (by kernel_rfl) (by kernel_rfl)) (by rfl) trivial (check_in.call k)
noncomputable def check_in.qent (k : Nat) : QEntS κ := ⟨75, qentOf check_in.i check_in.p (check_in.f k) E⟩
theorem check_in.qentOk (k : Nat) : QEntOk Tryd.prog E glob 75 (check_in.qent k).run := qent_ok encOk (callable_of Tryd.func75 (by kernel_rfl) (by kernel_rfl)) (check_in.call k)
noncomputable def check_Grid.c : Go.Code := match Tryd.f47.body with | some c => c | none => .skip
theorem check_Grid.hb : Tryd.f47.body = some check_Grid.c := by kernel_rfl
noncomputable def check_Grid.x (k : Nat) (ls : List (LamS κ)) : Ctx κ := mkCtx [check_in.ent k] [check_in.qent k] ls
def check_Grid.i : List (Pat κ) := [.agg [.ro .T42, .ro .T47]]
def check_Grid.s0 : Sh κ := ⟨0, [14, 15, 16], [.ro .T42, .int .i64, .int .i64], []⟩
def check_Grid.o0 : List (Ex × Sh κ) := [(.ret, ⟨0, [2], [.bool], []⟩), (.exit 0, ⟨0, [], [], []⟩)]
noncomputable def check_Grid.l0 (k : Nat) : Nat → (List S42) → Int → Int → Option ((Bool × Unit) × Unit ⊕ Unit × Unit)
  | 0, _, _, _ => none
  | j + 1, t14, t15, t16 =>
    if Decidable.decide (t16 < t15) = Bool.true then
      if (0 : Int) ≤ t16 ∧ t16 < (↑(List.length t14) : Int) then
        Option.bind
          (Go.Am.Tryd.check_in k (Go.Am.Tryd.S42.f1 (List.getD t14 (Int.toNat t16) (Go.Am.Tryd.S42.mk ByteArray.empty (0 : Int) (0 : Int) (0 : Int) (0 : Int))))
            (1 : Int) (2 : Int))
          fun r0 =>
          if (!Prod.fst r0) = Bool.false then
            Option.bind
              (Go.Am.Tryd.check_in k (Go.Am.Tryd.S42.f2 (List.getD t14 (Int.toNat t16) (Go.Am.Tryd.S42.mk ByteArray.empty (0 : Int) (0 : Int) (0 : Int) (0 : Int))))
                (1 : Int) (3600 : Int))
              fun r1 =>
              if (!Prod.fst r1) = Bool.false then
                Option.bind
                  (Go.Am.Tryd.check_in k
                    (Go.Am.Tryd.S42.f3 (List.getD t14 (Int.toNat t16) (Go.Am.Tryd.S42.mk ByteArray.empty (0 : Int) (0 : Int) (0 : Int) (0 : Int)))) (0 : Int)
                    (60 : Int))
                  fun r2 =>
                  if (!Prod.fst r2) = Bool.false then
                    Option.bind
                      (Go.Am.Tryd.check_in k
                        (Go.Am.Tryd.S42.f4 (List.getD t14 (Int.toNat t16) (Go.Am.Tryd.S42.mk ByteArray.empty (0 : Int) (0 : Int) (0 : Int) (0 : Int)))) (0 : Int)
                        (60 : Int))
                      fun r3 =>
                      if (!Prod.fst r3) = Bool.true then Option.some (Sum.inl ((Bool.false, ()), ()))
                      else check_Grid.l0 k j t14 t15 (Go.IntKind.wrap Go.IntKind.i64 (t16 + (1 : Int)))
                  else Option.some (Sum.inl ((Bool.false, ()), ()))
              else Option.some (Sum.inl ((Bool.false, ()), ()))
          else Option.some (Sum.inl ((Bool.false, ()), ()))
      else Option.none
    else Option.some (Sum.inr ((), ()))
def check_Grid.w0 : List Nat := [17, 18, 19, 4, 20, 21, 22, 23, 24, 25, 26, 27, 28, 29, 30, 31, 32, 33, 34, 35, 36, 37, 38, 39, 40, 41, 2, 42, 16]
noncomputable def check_Grid.e0 (k j : Nat) : check_Grid.s0.den → Option (OutT check_Grid.o0) := fun d => check_Grid.l0 k j d.1.1 d.1.2.1 d.1.2.2.1
noncomputable def check_Grid.m0 (k : Nat) : LamS κ := ⟨lamK 101 check_Grid.w0 check_Grid.s0 check_Grid.o0 (check_Grid.e0 k k)⟩
def check_Grid.s3 : Sh κ := ⟨0, [1, 5, 6, 44, 45, 46], [.rop [.ro .T42, .ro .T47], .int .i64, .int .i64, .ro .T47, .int .i64, .int .i64], []⟩
def check_Grid.s1 : Sh κ := ⟨0, [1, 8], [.rop [.ro .T42, .ro .T47], .ptr 0 0], [.raw 47 [.int .i64, .int .i64, .int .i64, .int .i64]]⟩
def check_Grid.o1 : List (Ex × Sh κ) := [(.ret, ⟨1, [2], [.bool], [.raw 47 [.int .i64, .int .i64, .int .i64, .int .i64]]⟩), (.normal, ⟨1, [8], [.ptr 0 0], [.raw 47 [.int .i64, .int .i64, .int .i64, .int .i64]]⟩)]
noncomputable def check_Grid.l1 (k : Nat) (t1 : List S42) (t1_1 : List S47) (b0 : Int) (b0_1 : Int) (b0_2 : Int) (b0_3 : Int) : Option ((Bool × Unit) × (Int × Int × Int × Int × Unit) × Unit ⊕ (Unit × Unit) × (Int × Int × Int × Int × Unit) × Unit) :=
    if Decidable.decide (b0 < (0 : Int)) = Bool.false then
      if Decidable.decide (b0_1 ≤ b0) = Bool.false then
        if Decidable.decide (b0_1 ≥ (↑(List.length t1) : Int)) = Bool.false then
          Option.bind (Go.Am.Tryd.check_in k b0_2 (0 : Int) (3600 : Int)) fun r0 =>
            if (!Prod.fst r0) = Bool.false then
              Option.bind (Go.Am.Tryd.check_in k b0_3 (0 : Int) (3600 : Int)) fun r1 =>
                if (!Prod.fst r1) = Bool.true then Option.some (Sum.inl ((Bool.false, ()), (b0, b0_1, b0_2, b0_3, ()), ()))
                else Option.some (Sum.inr (((), ()), (b0, b0_1, b0_2, b0_3, ()), ()))
            else Option.some (Sum.inl ((Bool.false, ()), (b0, b0_1, b0_2, b0_3, ()), ()))
        else Option.some (Sum.inl ((Bool.false, ()), (b0, b0_1, b0_2, b0_3, ()), ()))
      else Option.some (Sum.inl ((Bool.false, ()), (b0, b0_1, b0_2, b0_3, ()), ()))
    else Option.some (Sum.inl ((Bool.false, ()), (b0, b0_1, b0_2, b0_3, ()), ()))
def check_Grid.w1 : List Nat := [50, 51, 52, 53, 54, 55, 56, 57, 58, 59, 60, 61, 62, 63, 64, 65, 66, 67, 68, 69, 70, 71, 72, 73, 74, 75, 76, 77, 78, 79, 2]
noncomputable def check_Grid.e1 (k : Nat) : check_Grid.s1.den → Option (OutT check_Grid.o1) := fun d => check_Grid.l1 k d.1.1.1 d.1.1.2.1 d.2.1.1 d.2.1.2.1 d.2.1.2.2.1 d.2.1.2.2.2.1
noncomputable def check_Grid.m1 (k : Nat) : LamS κ := ⟨lamK 101 check_Grid.w1 check_Grid.s1 check_Grid.o1 (check_Grid.e1 k)⟩
def check_Grid.s2 : Sh κ := ⟨0, [5, 6, 8], [.int .i64, .int .i64, .ptr 0 0], [.raw 47 [.int .i64, .int .i64, .int .i64, .int .i64]]⟩
def check_Grid.o2 : List (Ex × Sh κ) := [(.ret, ⟨1, [2], [.bool], [.raw 47 [.int .i64, .int .i64, .int .i64, .int .i64]]⟩), (.normal, ⟨1, [8], [.ptr 0 0], [.raw 47 [.int .i64, .int .i64, .int .i64, .int .i64]]⟩)]
noncomputable def check_Grid.l2 (k : Nat) (t5 : Int) (t6 : Int) (b0 : Int) (b0_1 : Int) (b0_2 : Int) (b0_3 : Int) : Option ((Bool × Unit) × (Int × Int × Int × Int × Unit) × Unit ⊕ (Unit × Unit) × (Int × Int × Int × Int × Unit) × Unit) :=
    if Decidable.decide (b0 < t5) = Bool.false then
      if (b0 == t5) = Bool.true then
        if Decidable.decide (b0_1 ≤ t6) = Bool.true then Option.some (Sum.inl ((Bool.false, ()), (b0, b0_1, b0_2, b0_3, ()), ()))
        else Option.some (Sum.inr (((), ()), (b0, b0_1, b0_2, b0_3, ()), ()))
      else Option.some (Sum.inr (((), ()), (b0, b0_1, b0_2, b0_3, ()), ()))
    else Option.some (Sum.inl ((Bool.false, ()), (b0, b0_1, b0_2, b0_3, ()), ()))
def check_Grid.w2 : List Nat := [80, 81, 82, 83, 84, 85, 86, 87, 88, 89, 90, 91, 92, 93, 94, 95, 2]
noncomputable def check_Grid.e2 (k : Nat) : check_Grid.s2.den → Option (OutT check_Grid.o2) := fun d => check_Grid.l2 k d.1.1 d.1.2.1 d.2.1.1 d.2.1.2.1 d.2.1.2.2.1 d.2.1.2.2.2.1
noncomputable def check_Grid.m2 (k : Nat) : LamS κ := ⟨lamK 101 check_Grid.w2 check_Grid.s2 check_Grid.o2 (check_Grid.e2 k)⟩
def check_Grid.o3 : List (Ex × Sh κ) := [(.ret, ⟨0, [2], [.bool], []⟩), (.exit 2, ⟨0, [], [], []⟩)]
noncomputable def check_Grid.l3 (k : Nat) : Nat → (List S42) → (List S47) → Int → Int → (List S47) → Int → Int → Option ((Bool × Unit) × Unit ⊕ Unit × Unit)
  | 0, _, _, _, _, _, _, _ => none
  | j + 1, t1, t1_1, t5, t6, t44, t45, t46 =>
    if Decidable.decide (t46 < t45) = Bool.true then
      if (0 : Int) ≤ t46 ∧ t46 < (↑(List.length t44) : Int) then
        Option.bind
          (Go.Am.Tryd.check_Grid.l1 k t1 t1_1 (Go.Am.Tryd.S47.f0 (List.getD t44 (Int.toNat t46) (Go.Am.Tryd.S47.mk (0 : Int) (0 : Int) (0 : Int) (0 : Int))))
            (Go.Am.Tryd.S47.f1 (List.getD t44 (Int.toNat t46) (Go.Am.Tryd.S47.mk (0 : Int) (0 : Int) (0 : Int) (0 : Int))))
            (Go.Am.Tryd.S47.f2 (List.getD t44 (Int.toNat t46) (Go.Am.Tryd.S47.mk (0 : Int) (0 : Int) (0 : Int) (0 : Int))))
            (Go.Am.Tryd.S47.f3 (List.getD t44 (Int.toNat t46) (Go.Am.Tryd.S47.mk (0 : Int) (0 : Int) (0 : Int) (0 : Int)))))
          fun r0 =>
          Go.Am.onSum r0 (fun r1 => Option.some (Sum.inl ((Prod.fst (Prod.fst r1), ()), ()))) fun r1 =>
            Option.bind
              (Go.Am.Tryd.check_Grid.l2 k t5 t6 (Prod.fst (Prod.fst (Prod.snd r1))) (Prod.fst (Prod.snd (Prod.fst (Prod.snd r1))))
                (Prod.fst (Prod.snd (Prod.snd (Prod.fst (Prod.snd r1))))) (Prod.fst (Prod.snd (Prod.snd (Prod.snd (Prod.fst (Prod.snd r1)))))))
              fun r2 =>
              Go.Am.onSum r2 (fun r3 => Option.some (Sum.inl ((Prod.fst (Prod.fst r3), ()), ()))) fun r3 =>
                check_Grid.l3 k j t1 t1_1 (Prod.fst (Prod.fst (Prod.snd r3))) (Prod.fst (Prod.snd (Prod.fst (Prod.snd r3)))) t44 t45
                  (Go.IntKind.wrap Go.IntKind.i64 (t46 + (1 : Int)))
      else Option.none
    else Option.some (Sum.inr ((), ()))
def check_Grid.w3 : List Nat := [47, 48, 49, 8, 50, 51, 52, 53, 54, 55, 56, 57, 58, 59, 60, 61, 62, 63, 64, 65, 66, 67, 68, 69, 70, 71, 72, 73, 74, 75, 76, 77, 78, 79, 2, 80, 81, 82, 83, 84, 85, 86, 87, 88, 89, 90, 91, 92, 93, 94, 95, 96, 97, 98, 99, 5, 6, 100, 46]
noncomputable def check_Grid.e3 (k j : Nat) : check_Grid.s3.den → Option (OutT check_Grid.o3) := fun d => check_Grid.l3 k j d.1.1.1 d.1.1.2.1 d.1.2.1 d.1.2.2.1 d.1.2.2.2.1 d.1.2.2.2.2.1 d.1.2.2.2.2.2.1
noncomputable def check_Grid.m3 (k : Nat) : LamS κ := ⟨lamK 101 check_Grid.w3 check_Grid.s3 check_Grid.o3 (check_Grid.e3 k k)⟩
def check_Grid.p : Pat κ := .bool
def check_Grid.b : List (BPat κ) := []
noncomputable def check_Grid (k : Nat) (t0 : List S42) (t0_1 : List S47) : Option (Bool × Unit) :=
    if Decidable.decide ((↑(List.length t0) : Int) > (64 : Int)) = Bool.true then Option.some (Bool.false, ())
    else
      Option.bind (Go.Am.Tryd.check_Grid.l0 k k t0 (↑(List.length t0) : Int) (0 : Int)) fun r0 =>
        Go.Am.onSum r0 (fun r1 => Option.some (Prod.fst (Prod.fst r1), ())) fun r1 =>
          Option.bind (Go.Am.Tryd.check_Grid.l3 k k t0 t0_1 (-1 : Int) (-1 : Int) t0_1 (↑(List.length t0_1) : Int) (0 : Int)) fun r2 =>
            Go.Am.onSum r2 (fun r3 => Option.some (Prod.fst (Prod.fst r3), ())) fun r3 => Option.some (Bool.true, ())
noncomputable def check_Grid.f (k : Nat) : dens check_Grid.i → Option (check_Grid.p.den × densB check_Grid.b) := fun d => check_Grid k d.1.1 d.1.2.1
noncomputable def check_Grid.ctx (k : Nat) : Ctx κ := check_Grid.x k [check_Grid.m0 k, check_Grid.m1 k, check_Grid.m2 k, check_Grid.m3 k]
theorem check_Grid.xOk (k : Nat) : (check_Grid.ctx k).Ok := ctxOk ⟨check_in.entOk k, trivial⟩ ⟨check_in.qentOk k, trivial⟩
theorem check_Grid.k0 (k : Nat) : LamOk (check_Grid.ctx k) ((check_Grid.ctx k).Λ 0) (.loop (sub [1, 1, 0, 1, 0, 0] check_Grid.c)) :=
  loop_ok (kindOf := kindOf) (C := check_Grid.ctx k) (n := .none) (L := check_Grid.e0 k) (check_Grid.xOk k) (by kernel_rfl) (by kernel_rfl) (fits_of (l := []) (by kernel_rfl) trivial) (fun _ => by kernel_rfl) (fun _ _ => by kernel_rfl) k
theorem check_Grid.k1 (k : Nat) : LamOk (check_Grid.ctx k) ((check_Grid.ctx k).Λ 1) (sub [1, 1, 1, 1, 0, 1, 0, 0, 1, 1, 0, 0, 1, 0] check_Grid.c) :=
  cut_ok (kindOf := kindOf) (C := check_Grid.ctx k) (n := .none) (L := check_Grid.e1 k) (check_Grid.xOk k) (by kernel_rfl) (by kernel_rfl) (fits_of (l := []) (by kernel_rfl) trivial) (fun _ => by kernel_rfl)
theorem check_Grid.k2 (k : Nat) : LamOk (check_Grid.ctx k) ((check_Grid.ctx k).Λ 2) (sub [1, 1, 1, 1, 0, 1, 0, 0, 1, 1, 0, 0, 1, 1, 0] check_Grid.c) :=
  cut_ok (kindOf := kindOf) (C := check_Grid.ctx k) (n := .none) (L := check_Grid.e2 k) (check_Grid.xOk k) (by kernel_rfl) (by kernel_rfl) (fits_of (l := []) (by kernel_rfl) trivial) (fun _ => by kernel_rfl)
theorem check_Grid.k3 (k : Nat) : LamOk (check_Grid.ctx k) ((check_Grid.ctx k).Λ 3) (.loop (sub [1, 1, 1, 1, 0, 1, 0, 0] check_Grid.c)) :=
  loop_ok (kindOf := kindOf) (C := check_Grid.ctx k) (n := (.pair .none (.pair .none (.pair (.pair (.pair .none (.pair (.cut 1) (.pair (.cut 2) (.ops [] 6)))) .none) .none)))) (L := check_Grid.e3 k) (check_Grid.xOk k) (by kernel_rfl) (by kernel_rfl) (fits_of (l := [(1, (sub [1, 1, 1, 1, 0, 1, 0, 0, 1, 1, 0, 0, 1, 0] check_Grid.c)), (2, (sub [1, 1, 1, 1, 0, 1, 0, 0, 1, 1, 0, 0, 1, 1, 0] check_Grid.c))]) (by kernel_rfl) ⟨check_Grid.k1 k, check_Grid.k2 k, trivial⟩) (fun _ => by kernel_rfl) (fun _ _ => by kernel_rfl) k
theorem check_Grid.call (k : Nat) : CallV Tryd.prog E glob 47 check_Grid.i check_Grid.p check_Grid.b (check_Grid.f k) :=
  fn_okZ (kindOf := kindOf) (C := check_Grid.ctx k) (n := (.pair (.ops [0] 0) (.pair .none (.pair (.pair .none (.pair (.cut 0) .none)) (.pair .none (.pair (.pair .none (.pair (.cut 3) .none)) .none)))))) (check_Grid.xOk k) Tryd.func47 check_Grid.hb (fits_of (l := [(0, .loop (sub [1, 1, 0, 1, 0, 0] check_Grid.c)), (3, .loop (sub [1, 1, 1, 1, 0, 1, 0, 0] check_Grid.c))]) (by kernel_rfl) ⟨check_Grid.k0 k, check_Grid.k3 k, trivial⟩) (fun _ => by kernel_rfl)
noncomputable def check_Grid.ent (k : Nat) : EntS κ := ⟨47, [], entOf check_Grid.i check_Grid.p check_Grid.b true (check_Grid.f k) E⟩
theorem check_Grid.entOk (k : Nat) : EntOk Tryd.prog E glob 47 (check_Grid.ent k).run := ent_free encOk (callable_of Tryd.func47 (by kernel_rfl) (by kernel_rfl)) (by rfl) trivial (check_Grid.call k)
noncomputable def check_Grid.qent (k : Nat) : QEntS κ := ⟨47, qentOf check_Grid.i check_Grid.p (check_Grid.f k) E⟩
theorem check_Grid.qentOk (k : Nat) : QEntOk Tryd.prog E glob 47 (check_Grid.qent k).run := qent_ok encOk (callable_of Tryd.func47 (by kernel_rfl) (by kernel_rfl)) (check_Grid.call k)
noncomputable def check_things.c : Go.Code := match Tryd.f98.body with | some c => c | none => .skip
theorem check_things.hb : Tryd.f98.body = some check_things.c := by kernel_rfl
noncomputable def check_things.x (k : Nat) (ls : List (LamS κ)) : Ctx κ := mkCtx [] [] ls
def check_things.i : List (Pat κ) := [.rop [.str, .ro .T42, .ro .T47, .ro .T110, .ro .T9, .ro .T9, .ro .T112, .ro .T98, .int .i64]]
def check_things.s0 : Sh κ := ⟨0, [0], [.rop [.str, .ro .T42, .ro .T47, .ro .T110, .ro .T9, .ro .T9, .ro .T112, .ro .T98, .int .i64]], []⟩
def check_things.o0 : List (Ex × Sh κ) := [(.normal, ⟨0, [3], [.own .T9 0], [.rows .T9]⟩)]
noncomputable def check_things.l0 (k : Nat) (t0 : ByteArray) (t0_1 : List S42) (t0_2 : List S47) (t0_3 : List S110) (t0_4 : List ByteArray) (t0_5 : List ByteArray) (t0_6 : List S112) (t0_7 : List S98) (t0_8 : Int) : Option ((Unit × Unit) × List ByteArray × Unit) :=
    Go.Am.room (List.length t0_4 * (16 : Nat)) (Go.Am.room ((List.length t0_4 + List.length t0_5) * (16 : Nat)) (Option.some (((), ()), t0_4 ++ t0_5, ())))
def check_things.w0 : List Nat := [12, 13, 14, 15, 16, 17, 18, 19, 20, 21, 3]
noncomputable def check_things.e0 (k : Nat) : check_things.s0.den → Option (OutT check_things.o0) := fun d => check_things.l0 k d.1.1.1 d.1.1.2.1 d.1.1.2.2.1 d.1.1.2.2.2.1 d.1.1.2.2.2.2.1 d.1.1.2.2.2.2.2.1 d.1.1.2.2.2.2.2.2.1 d.1.1.2.2.2.2.2.2.2.1 d.1.1.2.2.2.2.2.2.2.2.1
noncomputable def check_things.m0 (k : Nat) : LamS κ := ⟨lamK 84 check_things.w0 check_things.s0 check_things.o0 (check_things.e0 k)⟩
def check_things.t0 : Sched := (.take 0 (.take 1 (.take 2 (.take 3 (.take 5 (.take 6 (.take 7 (.take 8 (.all (.cons 4 (.all (.cons 9 (.take 10 .done) .nil)) .nil))))))))))
noncomputable def check_things.p0 (k : Nat) (t0 : ByteArray) (t0_1 : List S42) (t0_2 : List S47) (t0_3 : List S110) (t0_4 : List ByteArray) (t0_5 : List ByteArray) (t0_6 : List S112) (t0_7 : List S98) (t0_8 : Int) (o : (Unit × Unit) × List ByteArray × Unit) : Prop :=
    Go.Am.holds
        (Go.Am.room (List.length t0_4 * (16 : Nat))
          (Option.some
            (Go.Am.holds
                (Go.Am.room ((List.length t0_4 + List.length t0_5) * (16 : Nat)) (Option.some (Option.some (((), ()), t0_4 ++ t0_5, ()) = Option.some o))) ∧
              True))) ∧
      True
theorem check_things.q0 (k : Nat) (t0 : ByteArray) (t0_1 : List S42) (t0_2 : List S47) (t0_3 : List S110) (t0_4 : List ByteArray) (t0_5 : List ByteArray) (t0_6 : List S112) (t0_7 : List S98) (t0_8 : Int) (o : (Unit × Unit) × List ByteArray × Unit) (h : check_things.l0 k t0 t0_1 t0_2 t0_3 t0_4 t0_5 t0_6 t0_7 t0_8 = some o) : check_things.p0 k t0 t0_1 t0_2 t0_3 t0_4 t0_5 t0_6 t0_7 t0_8 o := by
  unfold check_things.l0 at h
  unfold check_things.p0
  repeat' (first | split at h | (rw [Option.bind_eq_some_iff] at h; obtain ⟨_, _, h⟩ := h) | (rw [room_some] at h; obtain ⟨_, h⟩ := h) | (rw [tooLong_some] at h; obtain ⟨_, h⟩ := h))
  all_goals first | (cases h; done) | (cases h; simp only [Option.bind_some, room_pos, tooLong_pos, if_true, and_self, and_true, not_false_eq_true, holds, *]; done) | (cases h; simp [holds, room_pos, tooLong_pos, *]; done) | (cases h; simp_all [holds, room_pos, tooLong_pos])
def check_things.s1 : Sh κ := ⟨0, [3, 26, 27, 28], [.own .T9 0, .ro .T42, .int .i64, .int .i64], [.rows .T9]⟩
def check_things.o1 : List (Ex × Sh κ) := [(.exit 0, ⟨1, [3], [.own .T9 0], [.rows .T9]⟩)]
noncomputable def check_things.l1 (k : Nat) : Nat → (List S42) → Int → Int → (List ByteArray) → Option ((Unit × Unit) × List ByteArray × Unit)
  | 0, _, _, _, _ => none
  | j + 1, t26, t27, t28, b0 =>
    if Decidable.decide (t28 < t27) = Bool.true then
      if (0 : Int) ≤ t28 ∧ t28 < (↑(List.length t26) : Int) then
        Go.Am.room
          ((List.length b0 +
              List.length [Go.Am.Tryd.S42.f0 (List.getD t26 (Int.toNat t28) (Go.Am.Tryd.S42.mk ByteArray.empty (0 : Int) (0 : Int) (0 : Int) (0 : Int)))]) *
            (16 : Nat))
          (check_things.l1 k j t26 t27 (Go.IntKind.wrap Go.IntKind.i64 (t28 + (1 : Int)))
            (b0 ++ [Go.Am.Tryd.S42.f0 (List.getD t26 (Int.toNat t28) (Go.Am.Tryd.S42.mk ByteArray.empty (0 : Int) (0 : Int) (0 : Int) (0 : Int)))]))
      else Option.none
    else Option.some (((), ()), b0, ())
def check_things.w1 : List Nat := [29, 30, 31, 5, 32, 33, 34, 35, 36, 3, 37, 28]
noncomputable def check_things.e1 (k j : Nat) : check_things.s1.den → Option (OutT check_things.o1) := fun d => check_things.l1 k j d.1.2.1 d.1.2.2.1 d.1.2.2.2.1 d.2.1
noncomputable def check_things.m1 (k : Nat) : LamS κ := ⟨lamK 84 check_things.w1 check_things.s1 check_things.o1 (check_things.e1 k k)⟩
def check_things.s2 : Sh κ := ⟨0, [3, 41, 42, 43], [.own .T9 0, .ro .T110, .int .i64, .int .i64], [.rows .T9]⟩
def check_things.o2 : List (Ex × Sh κ) := [(.exit 2, ⟨1, [3], [.own .T9 0], [.rows .T9]⟩)]
noncomputable def check_things.l2 (k : Nat) : Nat → (List S110) → Int → Int → (List ByteArray) → Option ((Unit × Unit) × List ByteArray × Unit)
  | 0, _, _, _, _ => none
  | j + 1, t41, t42, t43, b0 =>
    if Decidable.decide (t43 < t42) = Bool.true then
      if (0 : Int) ≤ t43 ∧ t43 < (↑(List.length t41) : Int) then
        Go.Am.room
          ((List.length b0 + List.length [Go.Am.Tryd.S110.f0 (List.getD t41 (Int.toNat t43) (Go.Am.Tryd.S110.mk ByteArray.empty Bool.false (0 : Int) (0 : Int)))]) *
            (16 : Nat))
          (check_things.l2 k j t41 t42 (Go.IntKind.wrap Go.IntKind.i64 (t43 + (1 : Int)))
            (b0 ++ [Go.Am.Tryd.S110.f0 (List.getD t41 (Int.toNat t43) (Go.Am.Tryd.S110.mk ByteArray.empty Bool.false (0 : Int) (0 : Int)))]))
      else Option.none
    else Option.some (((), ()), b0, ())
def check_things.w2 : List Nat := [44, 45, 46, 7, 47, 48, 49, 50, 51, 3, 52, 43]
noncomputable def check_things.e2 (k j : Nat) : check_things.s2.den → Option (OutT check_things.o2) := fun d => check_things.l2 k j d.1.2.1 d.1.2.2.1 d.1.2.2.2.1 d.2.1
noncomputable def check_things.m2 (k : Nat) : LamS κ := ⟨lamK 84 check_things.w2 check_things.s2 check_things.o2 (check_things.e2 k k)⟩
def check_things.s3 : Sh κ := ⟨0, [3, 56, 57, 58], [.own .T9 0, .ro .T112, .int .i64, .int .i64], [.rows .T9]⟩
def check_things.o3 : List (Ex × Sh κ) := [(.exit 4, ⟨1, [3], [.own .T9 0], [.rows .T9]⟩)]
noncomputable def check_things.l3 (k : Nat) : Nat → (List S112) → Int → Int → (List ByteArray) → Option ((Unit × Unit) × List ByteArray × Unit)
  | 0, _, _, _, _ => none
  | j + 1, t56, t57, t58, b0 =>
    if Decidable.decide (t58 < t57) = Bool.true then
      if (0 : Int) ≤ t58 ∧ t58 < (↑(List.length t56) : Int) then
        Go.Am.room ((List.length b0 + List.length [Go.Am.Tryd.S112.f0 (List.getD t56 (Int.toNat t58) (Go.Am.Tryd.S112.mk ByteArray.empty (0 : Int)))]) * (16 : Nat))
          (check_things.l3 k j t56 t57 (Go.IntKind.wrap Go.IntKind.i64 (t58 + (1 : Int)))
            (b0 ++ [Go.Am.Tryd.S112.f0 (List.getD t56 (Int.toNat t58) (Go.Am.Tryd.S112.mk ByteArray.empty (0 : Int)))]))
      else Option.none
    else Option.some (((), ()), b0, ())
def check_things.w3 : List Nat := [59, 60, 61, 9, 62, 63, 64, 65, 66, 3, 67, 58]
noncomputable def check_things.e3 (k j : Nat) : check_things.s3.den → Option (OutT check_things.o3) := fun d => check_things.l3 k j d.1.2.1 d.1.2.2.1 d.1.2.2.2.1 d.2.1
noncomputable def check_things.m3 (k : Nat) : LamS κ := ⟨lamK 84 check_things.w3 check_things.s3 check_things.o3 (check_things.e3 k k)⟩
def check_things.s4 : Sh κ := ⟨0, [3, 71, 72, 73], [.own .T9 0, .ro .T98, .int .i64, .int .i64], [.rows .T9]⟩
def check_things.o4 : List (Ex × Sh κ) := [(.exit 6, ⟨1, [3], [.own .T9 0], [.rows .T9]⟩)]
noncomputable def check_things.l4 (k : Nat) : Nat → (List S98) → Int → Int → (List ByteArray) → Option ((Unit × Unit) × List ByteArray × Unit)
  | 0, _, _, _, _ => none
  | j + 1, t71, t72, t73, b0 =>
    if Decidable.decide (t73 < t72) = Bool.true then
      if (0 : Int) ≤ t73 ∧ t73 < (↑(List.length t71) : Int) then
        Go.Am.room
          ((List.length b0 + List.length [Go.Am.Tryd.S98.f0 (List.getD t71 (Int.toNat t73) (Go.Am.Tryd.S98.mk ByteArray.empty (0 : Int) (0 : Int) [] [] [] []))]) *
            (16 : Nat))
          (check_things.l4 k j t71 t72 (Go.IntKind.wrap Go.IntKind.i64 (t73 + (1 : Int)))
            (b0 ++ [Go.Am.Tryd.S98.f0 (List.getD t71 (Int.toNat t73) (Go.Am.Tryd.S98.mk ByteArray.empty (0 : Int) (0 : Int) [] [] [] []))]))
      else Option.none
    else Option.some (((), ()), b0, ())
def check_things.w4 : List Nat := [74, 75, 76, 11, 77, 78, 79, 80, 81, 3, 82, 73]
noncomputable def check_things.e4 (k j : Nat) : check_things.s4.den → Option (OutT check_things.o4) := fun d => check_things.l4 k j d.1.2.1 d.1.2.2.1 d.1.2.2.2.1 d.2.1
noncomputable def check_things.m4 (k : Nat) : LamS κ := ⟨lamK 84 check_things.w4 check_things.s4 check_things.o4 (check_things.e4 k k)⟩
def check_things.p : Pat κ := .ro .T9
def check_things.b : List (BPat κ) := []
noncomputable def check_things (k : Nat) (t0 : ByteArray) (t0_1 : List S42) (t0_2 : List S47) (t0_3 : List S110) (t0_4 : List ByteArray) (t0_5 : List ByteArray) (t0_6 : List S112) (t0_7 : List S98) (t0_8 : Int) : Option (List ByteArray × Unit) :=
    Option.bind (Go.Am.Tryd.check_things.l0 k t0 t0_1 t0_2 t0_3 t0_4 t0_5 t0_6 t0_7 t0_8) fun r0 =>
      Option.bind (Go.Am.Tryd.check_things.l1 k k t0_1 (↑(List.length t0_1) : Int) (0 : Int) (Prod.fst (Prod.snd r0))) fun r1 =>
        Option.bind (Go.Am.Tryd.check_things.l2 k k t0_3 (↑(List.length t0_3) : Int) (0 : Int) (Prod.fst (Prod.snd r1))) fun r2 =>
          Option.bind (Go.Am.Tryd.check_things.l3 k k t0_6 (↑(List.length t0_6) : Int) (0 : Int) (Prod.fst (Prod.snd r2))) fun r3 =>
            Option.bind (Go.Am.Tryd.check_things.l4 k k t0_7 (↑(List.length t0_7) : Int) (0 : Int) (Prod.fst (Prod.snd r3))) fun r4 =>
              Option.some (Prod.fst (Prod.snd r4), ())
noncomputable def check_things.f (k : Nat) : dens check_things.i → Option (check_things.p.den × densB check_things.b) := fun d => check_things k d.1.1 d.1.2.1 d.1.2.2.1 d.1.2.2.2.1 d.1.2.2.2.2.1 d.1.2.2.2.2.2.1 d.1.2.2.2.2.2.2.1 d.1.2.2.2.2.2.2.2.1 d.1.2.2.2.2.2.2.2.2.1
noncomputable def check_things.ctx (k : Nat) : Ctx κ := check_things.x k [check_things.m0 k, check_things.m1 k, check_things.m2 k, check_things.m3 k, check_things.m4 k]
theorem check_things.xOk (k : Nat) : (check_things.ctx k).Ok := ctxOk trivial trivial
theorem check_things.k0 (k : Nat) : LamOk (check_things.ctx k) ((check_things.ctx k).Λ 0) (sub [1, 0] check_things.c) :=
  tree_ok (kindOf := kindOf) (C := check_things.ctx k) (L := check_things.e0 k) (tr := check_things.t0) (check_things.xOk k) (by kernel_rfl) (by kernel_rfl) (by kernel_rfl) (by kernel_rfl) fun d o h => (show runs (check_things.ctx k) kindOf _ check_things.t0 _ _ = check_things.p0 k d.1.1.1 d.1.1.2.1 d.1.1.2.2.1 d.1.1.2.2.2.1 d.1.1.2.2.2.2.1 d.1.1.2.2.2.2.2.1 d.1.1.2.2.2.2.2.2.1 d.1.1.2.2.2.2.2.2.2.1 d.1.1.2.2.2.2.2.2.2.2.1 o by kernel_rfl).mpr (check_things.q0 k d.1.1.1 d.1.1.2.1 d.1.1.2.2.1 d.1.1.2.2.2.1 d.1.1.2.2.2.2.1 d.1.1.2.2.2.2.2.1 d.1.1.2.2.2.2.2.2.1 d.1.1.2.2.2.2.2.2.2.1 d.1.1.2.2.2.2.2.2.2.2.1 o (by unfold check_things.e0 at h; exact h))
theorem check_things.k1 (k : Nat) : LamOk (check_things.ctx k) ((check_things.ctx k).Λ 1) (.loop (sub [1, 1, 0, 1, 0, 0] check_things.c)) :=
  loop_ok (kindOf := kindOf) (C := check_things.ctx k) (n := .none) (L := check_things.e1 k) (check_things.xOk k) (by kernel_rfl) (by kernel_rfl) (fits_of (l := []) (by kernel_rfl) trivial) (fun _ => by kernel_rfl) (fun _ _ => by kernel_rfl) k
theorem check_things.k2 (k : Nat) : LamOk (check_things.ctx k) ((check_things.ctx k).Λ 2) (.loop (sub [1, 1, 1, 0, 1, 0, 0] check_things.c)) :=
  loop_ok (kindOf := kindOf) (C := check_things.ctx k) (n := .none) (L := check_things.e2 k) (check_things.xOk k) (by kernel_rfl) (by kernel_rfl) (fits_of (l := []) (by kernel_rfl) trivial) (fun _ => by kernel_rfl) (fun _ _ => by kernel_rfl) k
theorem check_things.k3 (k : Nat) : LamOk (check_things.ctx k) ((check_things.ctx k).Λ 3) (.loop (sub [1, 1, 1, 1, 0, 1, 0, 0] check_things.c)) :=
  loop_ok (kindOf := kindOf) (C := check_things.ctx k) (n := .none) (L := check_things.e3 k) (check_things.xOk k) (by kernel_rfl) (by kernel_rfl) (fits_of (l := []) (by kernel_rfl) trivial) (fun _ => by kernel_rfl) (fun _ _ => by kernel_rfl) k
theorem check_things.k4 (k : Nat) : LamOk (check_things.ctx k) ((check_things.ctx k).Λ 4) (.loop (sub [1, 1, 1, 1, 1, 0, 1, 0, 0] check_things.c)) :=
  loop_ok (kindOf := kindOf) (C := check_things.ctx k) (n := .none) (L := check_things.e4 k) (check_things.xOk k) (by kernel_rfl) (by kernel_rfl) (fits_of (l := []) (by kernel_rfl) trivial) (fun _ => by kernel_rfl) (fun _ _ => by kernel_rfl) k
theorem check_things.call (k : Nat) : CallV Tryd.prog E glob 98 check_things.i check_things.p check_things.b (check_things.f k) :=
  fn_okZ (kindOf := kindOf) (C := check_things.ctx k) (n := (.pair .none (.pair (.cut 0) (.pair (.pair .none (.pair (.cut 1) .none)) (.pair (.pair .none (.pair (.cut 2) .none)) (.pair (.pair .none (.pair (.cut 3) .none)) (.pair (.pair .none (.pair (.cut 4) .none)) .none))))))) (check_things.xOk k) Tryd.func98 check_things.hb (fits_of (l := [(0, (sub [1, 0] check_things.c)), (1, .loop (sub [1, 1, 0, 1, 0, 0] check_things.c)), (2, .loop (sub [1, 1, 1, 0, 1, 0, 0] check_things.c)), (3, .loop (sub [1, 1, 1, 1, 0, 1, 0, 0] check_things.c)), (4, .loop (sub [1, 1, 1, 1, 1, 0, 1, 0, 0] check_things.c))]) (by kernel_rfl) ⟨check_things.k0 k, check_things.k1 k, check_things.k2 k, check_things.k3 k, check_things.k4 k, trivial⟩) (fun _ => by kernel_rfl)
noncomputable def check_things.ent (k : Nat) : EntS κ := ⟨98, [], entOf check_things.i check_things.p check_things.b false (check_things.f k) E⟩
theorem check_things.entOk (k : Nat) : EntOk Tryd.prog E glob 98 (check_things.ent k).run := ent_bound encOk (callable_of Tryd.func98 (by kernel_rfl) (by kernel_rfl)) (check_things.call k)
noncomputable def lex_kind.c : Go.Code := match Tryd.f108.body with | some c => c | none => .skip
theorem lex_kind.hb : Tryd.f108.body = some lex_kind.c := by kernel_rfl
noncomputable def lex_kind.x (k : Nat) (ls : List (LamS κ)) : Ctx κ := mkCtx [] [] ls
def lex_kind.i : List (Pat κ) := [.str]
def lex_kind.s0 : Sh κ := ⟨0, [0, 7, 8], [.str, .arr .T9, .int .i64], []⟩
def lex_kind.o0 : List (Ex × Sh κ) := [(.ret, ⟨0, [2], [.int .i64], []⟩), (.exit 0, ⟨0, [], [], []⟩)]
noncomputable def lex_kind.l0 (k : Nat) : Nat → ByteArray → (List ByteArray) → Int → Option ((Int × Unit) × Unit ⊕ Unit × Unit)
  | 0, _, _, _ => none
  | j + 1, t0, t7, t8 =>
    if Decidable.decide (t8 < (41 : Int)) = Bool.true then
      if Go.Am.sizeOf? (Go.Am.Ctx.P (Go.Am.Tryd.lex_kind.x k [])) (9 : Nat) = (1 : Nat) ∧ List.length t7 = (41 : Nat) then
        if (0 : Int) ≤ t8 ∧ t8 < (↑(41 : Nat) : Int) then
          if (ByteArray.toList (List.getD t7 (Int.toNat t8) ByteArray.empty) == ByteArray.toList t0) = Bool.true then
            Option.some (Sum.inl ((Go.IntKind.wrap Go.IntKind.i64 ((10 : Int) + t8), ()), ()))
          else lex_kind.l0 k j t0 t7 (Go.IntKind.wrap Go.IntKind.i64 (t8 + (1 : Int)))
        else Option.none
      else Option.none
    else Option.some (Sum.inr ((), ()))
def lex_kind.w0 : List Nat := [9, 10, 11, 3, 4, 12, 13, 14, 15, 16, 2, 17, 8]
noncomputable def lex_kind.e0 (k j : Nat) : lex_kind.s0.den → Option (OutT lex_kind.o0) := fun d => lex_kind.l0 k j d.1.1 d.1.2.1 d.1.2.2.1
noncomputable def lex_kind.m0 (k : Nat) : LamS κ := ⟨lamK 29 lex_kind.w0 lex_kind.s0 lex_kind.o0 (lex_kind.e0 k k)⟩
def lex_kind.s1 : Sh κ := ⟨0, [0, 18, 19], [.str, .arr .T9, .int .i64], []⟩
def lex_kind.o1 : List (Ex × Sh κ) := [(.ret, ⟨0, [2], [.int .i64], []⟩), (.exit 2, ⟨0, [], [], []⟩)]
noncomputable def lex_kind.l1 (k : Nat) : Nat → ByteArray → (List ByteArray) → Int → Option ((Int × Unit) × Unit ⊕ Unit × Unit)
  | 0, _, _, _ => none
  | j + 1, t0, t18, t19 =>
    if Decidable.decide (t19 < (18 : Int)) = Bool.true then
      if Go.Am.sizeOf? (Go.Am.Ctx.P (Go.Am.Tryd.lex_kind.x k [])) (9 : Nat) = (1 : Nat) ∧ List.length t18 = (18 : Nat) then
        if (0 : Int) ≤ t19 ∧ t19 < (↑(18 : Nat) : Int) then
          if (ByteArray.toList (List.getD t18 (Int.toNat t19) ByteArray.empty) == ByteArray.toList t0) = Bool.true then
            Option.some (Sum.inl ((Go.IntKind.wrap Go.IntKind.i64 ((60 : Int) + t19), ()), ()))
          else lex_kind.l1 k j t0 t18 (Go.IntKind.wrap Go.IntKind.i64 (t19 + (1 : Int)))
        else Option.none
      else Option.none
    else Option.some (Sum.inr ((), ()))
def lex_kind.w1 : List Nat := [20, 21, 22, 5, 6, 23, 24, 25, 26, 27, 2, 28, 19]
noncomputable def lex_kind.e1 (k j : Nat) : lex_kind.s1.den → Option (OutT lex_kind.o1) := fun d => lex_kind.l1 k j d.1.1 d.1.2.1 d.1.2.2.1
noncomputable def lex_kind.m1 (k : Nat) : LamS κ := ⟨lamK 29 lex_kind.w1 lex_kind.s1 lex_kind.o1 (lex_kind.e1 k k)⟩
def lex_kind.p : Pat κ := .int .i64
def lex_kind.b : List (BPat κ) := []
noncomputable def lex_kind (k : Nat) (t0 : ByteArray) : Option (Int × Unit) :=
    Option.bind (Go.Am.Tryd.lex_kind.l0 k k t0 Go.Am.Tryd.tab4 (0 : Int)) fun r0 =>
      Go.Am.onSum r0 (fun r1 => Option.some (Prod.fst (Prod.fst r1), ())) fun r1 =>
        Option.bind (Go.Am.Tryd.lex_kind.l1 k k t0 Go.Am.Tryd.tab5 (0 : Int)) fun r2 =>
          Go.Am.onSum r2 (fun r3 => Option.some (Prod.fst (Prod.fst r3), ())) fun r3 => Option.some ((0 : Int), ())
noncomputable def lex_kind.f (k : Nat) : dens lex_kind.i → Option (lex_kind.p.den × densB lex_kind.b) := fun d => lex_kind k d.1
noncomputable def lex_kind.ctx (k : Nat) : Ctx κ := lex_kind.x k [lex_kind.m0 k, lex_kind.m1 k]
theorem lex_kind.xOk (k : Nat) : (lex_kind.ctx k).Ok := ctxOk trivial trivial
theorem lex_kind.k0 (k : Nat) : LamOk (lex_kind.ctx k) ((lex_kind.ctx k).Λ 0) (.loop (sub [1, 0, 1, 0, 0] lex_kind.c)) :=
  loop_ok (kindOf := kindOf) (C := lex_kind.ctx k) (n := .none) (L := lex_kind.e0 k) (lex_kind.xOk k) (by kernel_rfl) (by kernel_rfl) (fits_of (l := []) (by kernel_rfl) trivial) (fun _ => by kernel_rfl) (fun _ _ => by kernel_rfl) k
theorem lex_kind.k1 (k : Nat) : LamOk (lex_kind.ctx k) ((lex_kind.ctx k).Λ 1) (.loop (sub [1, 1, 0, 1, 0, 0] lex_kind.c)) :=
  loop_ok (kindOf := kindOf) (C := lex_kind.ctx k) (n := .none) (L := lex_kind.e1 k) (lex_kind.xOk k) (by kernel_rfl) (by kernel_rfl) (fits_of (l := []) (by kernel_rfl) trivial) (fun _ => by kernel_rfl) (fun _ _ => by kernel_rfl) k
theorem lex_kind.call (k : Nat) : CallV Tryd.prog E glob 108 lex_kind.i lex_kind.p lex_kind.b (lex_kind.f k) :=
  fn_okZ (kindOf := kindOf) (C := lex_kind.ctx k) (n := (.pair .none (.pair (.pair .none (.pair (.cut 0) .none)) (.pair (.pair .none (.pair (.cut 1) .none)) .none)))) (lex_kind.xOk k) Tryd.func108 lex_kind.hb (fits_of (l := [(0, .loop (sub [1, 0, 1, 0, 0] lex_kind.c)), (1, .loop (sub [1, 1, 0, 1, 0, 0] lex_kind.c))]) (by kernel_rfl) ⟨lex_kind.k0 k, lex_kind.k1 k, trivial⟩) (fun _ => by kernel_rfl)
noncomputable def lex_kind.ent (k : Nat) : EntS κ := ⟨108, [], entOf lex_kind.i lex_kind.p lex_kind.b true (lex_kind.f k) E⟩
theorem lex_kind.entOk (k : Nat) : EntOk Tryd.prog E glob 108 (lex_kind.ent k).run := ent_free encOk (callable_of Tryd.func108 (by kernel_rfl) (by kernel_rfl)) (by rfl) trivial (lex_kind.call k)
noncomputable def lex_kind.qent (k : Nat) : QEntS κ := ⟨108, qentOf lex_kind.i lex_kind.p (lex_kind.f k) E⟩
theorem lex_kind.qentOk (k : Nat) : QEntOk Tryd.prog E glob 108 (lex_kind.qent k).run := qent_ok encOk (callable_of Tryd.func108 (by kernel_rfl) (by kernel_rfl)) (lex_kind.call k)
noncomputable def lex_letter.c : Go.Code := match Tryd.f109.body with | some c => c | none => .skip
theorem lex_letter.hb : Tryd.f109.body = some lex_letter.c := by kernel_rfl
noncomputable def lex_letter.x (k : Nat) (ls : List (LamS κ)) : Ctx κ := mkCtx [] [] ls
def lex_letter.i : List (Pat κ) := [.int .u8]
def lex_letter.p : Pat κ := .bool
def lex_letter.b : List (BPat κ) := []
noncomputable def lex_letter (k : Nat) (t0 : Int) : Option (Bool × Unit) :=
    if Decidable.decide (t0 ≥ (97 : Int)) = Bool.true then
      if Decidable.decide (t0 ≤ (122 : Int)) = Bool.false then
        if Decidable.decide (t0 ≥ (65 : Int)) = Bool.true then Option.some (Decidable.decide (t0 ≤ (90 : Int)), ()) else Option.some (Bool.false, ())
      else Option.some (Bool.true, ())
    else if Decidable.decide (t0 ≥ (65 : Int)) = Bool.true then Option.some (Decidable.decide (t0 ≤ (90 : Int)), ()) else Option.some (Bool.false, ())
noncomputable def lex_letter.f (k : Nat) : dens lex_letter.i → Option (lex_letter.p.den × densB lex_letter.b) := fun d => lex_letter k d.1
noncomputable def lex_letter.ctx (k : Nat) : Ctx κ := lex_letter.x k []
theorem lex_letter.xOk (k : Nat) : (lex_letter.ctx k).Ok := ctxOk trivial trivial
theorem lex_letter.call (k : Nat) : CallV Tryd.prog E glob 109 lex_letter.i lex_letter.p lex_letter.b (lex_letter.f k) :=
  fn_okZ (kindOf := kindOf) (C := lex_letter.ctx k) (n := .none) (lex_letter.xOk k) Tryd.func109 lex_letter.hb (fits_of (l := []) (by kernel_rfl) trivial) (fun _ => by kernel_rfl)
noncomputable def lex_letter.ent (k : Nat) : EntS κ := ⟨109, [], entOf lex_letter.i lex_letter.p lex_letter.b true (lex_letter.f k) E⟩
theorem lex_letter.entOk (k : Nat) : EntOk Tryd.prog E glob 109 (lex_letter.ent k).run := ent_free encOk (callable_of Tryd.func109 (by kernel_rfl) (by kernel_rfl)) (by rfl) trivial (lex_letter.call k)
noncomputable def lex_letter.qent (k : Nat) : QEntS κ := ⟨109, qentOf lex_letter.i lex_letter.p (lex_letter.f k) E⟩
theorem lex_letter.qentOk (k : Nat) : QEntOk Tryd.prog E glob 109 (lex_letter.qent k).run := qent_ok encOk (callable_of Tryd.func109 (by kernel_rfl) (by kernel_rfl)) (lex_letter.call k)
noncomputable def lex_digit.c : Go.Code := match Tryd.f139.body with | some c => c | none => .skip
theorem lex_digit.hb : Tryd.f139.body = some lex_digit.c := by kernel_rfl
noncomputable def lex_digit.x (k : Nat) (ls : List (LamS κ)) : Ctx κ := mkCtx [] [] ls
def lex_digit.i : List (Pat κ) := [.int .u8]
def lex_digit.p : Pat κ := .bool
def lex_digit.b : List (BPat κ) := []
noncomputable def lex_digit (k : Nat) (t0 : Int) : Option (Bool × Unit) :=
    if Decidable.decide (t0 ≥ (48 : Int)) = Bool.true then Option.some (Decidable.decide (t0 ≤ (57 : Int)), ()) else Option.some (Bool.false, ())
noncomputable def lex_digit.f (k : Nat) : dens lex_digit.i → Option (lex_digit.p.den × densB lex_digit.b) := fun d => lex_digit k d.1
noncomputable def lex_digit.ctx (k : Nat) : Ctx κ := lex_digit.x k []
theorem lex_digit.xOk (k : Nat) : (lex_digit.ctx k).Ok := ctxOk trivial trivial
theorem lex_digit.call (k : Nat) : CallV Tryd.prog E glob 139 lex_digit.i lex_digit.p lex_digit.b (lex_digit.f k) :=
  fn_okZ (kindOf := kindOf) (C := lex_digit.ctx k) (n := .none) (lex_digit.xOk k) Tryd.func139 lex_digit.hb (fits_of (l := []) (by kernel_rfl) trivial) (fun _ => by kernel_rfl)
noncomputable def lex_digit.ent (k : Nat) : EntS κ := ⟨139, [], entOf lex_digit.i lex_digit.p lex_digit.b true (lex_digit.f k) E⟩
theorem lex_digit.entOk (k : Nat) : EntOk Tryd.prog E glob 139 (lex_digit.ent k).run := ent_free encOk (callable_of Tryd.func139 (by kernel_rfl) (by kernel_rfl)) (by rfl) trivial (lex_digit.call k)
noncomputable def lex_digit.qent (k : Nat) : QEntS κ := ⟨139, qentOf lex_digit.i lex_digit.p (lex_digit.f k) E⟩
theorem lex_digit.qentOk (k : Nat) : QEntOk Tryd.prog E glob 139 (lex_digit.qent k).run := qent_ok encOk (callable_of Tryd.func139 (by kernel_rfl) (by kernel_rfl)) (lex_digit.call k)
noncomputable def lex_inner.c : Go.Code := match Tryd.f127.body with | some c => c | none => .skip
theorem lex_inner.hb : Tryd.f127.body = some lex_inner.c := by kernel_rfl
noncomputable def lex_inner.x (k : Nat) (ls : List (LamS κ)) : Ctx κ := mkCtx [lex_letter.ent k, lex_digit.ent k] [lex_letter.qent k, lex_digit.qent k] ls
def lex_inner.i : List (Pat κ) := [.int .u8]
def lex_inner.p : Pat κ := .bool
def lex_inner.b : List (BPat κ) := []
noncomputable def lex_inner (k : Nat) (t0 : Int) : Option (Bool × Unit) :=
    Option.bind (Go.Am.Tryd.lex_letter k t0) fun r0 =>
      if Prod.fst r0 = Bool.false then
        Option.bind (Go.Am.Tryd.lex_digit k t0) fun r1 => if Prod.fst r1 = Bool.false then Option.some (t0 == (95 : Int), ()) else Option.some (Bool.true, ())
      else Option.some (Bool.true, ())
noncomputable def lex_inner.f (k : Nat) : dens lex_inner.i → Option (lex_inner.p.den × densB lex_inner.b) := fun d => lex_inner k d.1
noncomputable def lex_inner.ctx (k : Nat) : Ctx κ := lex_inner.x k []
theorem lex_inner.xOk (k : Nat) : (lex_inner.ctx k).Ok := ctxOk ⟨lex_letter.entOk k, lex_digit.entOk k, trivial⟩ ⟨lex_letter.qentOk k, lex_digit.qentOk k, trivial⟩
theorem lex_inner.call (k : Nat) : CallV Tryd.prog E glob 127 lex_inner.i lex_inner.p lex_inner.b (lex_inner.f k) :=
  fn_okZ (kindOf := kindOf) (C := lex_inner.ctx k) (n := .none) (lex_inner.xOk k) Tryd.func127 lex_inner.hb (fits_of (l := []) (by kernel_rfl) trivial) (fun _ => by kernel_rfl)
noncomputable def lex_inner.ent (k : Nat) : EntS κ := ⟨127, [], entOf lex_inner.i lex_inner.p lex_inner.b true (lex_inner.f k) E⟩
theorem lex_inner.entOk (k : Nat) : EntOk Tryd.prog E glob 127 (lex_inner.ent k).run := ent_free encOk (callable_of Tryd.func127 (by kernel_rfl) (by kernel_rfl)) (by rfl) trivial (lex_inner.call k)
noncomputable def lex_inner.qent (k : Nat) : QEntS κ := ⟨127, qentOf lex_inner.i lex_inner.p (lex_inner.f k) E⟩
theorem lex_inner.qentOk (k : Nat) : QEntOk Tryd.prog E glob 127 (lex_inner.qent k).run := qent_ok encOk (callable_of Tryd.func127 (by kernel_rfl) (by kernel_rfl)) (lex_inner.call k)
noncomputable def lex_run.c : Go.Code := match Tryd.f110.body with | some c => c | none => .skip
theorem lex_run.hb : Tryd.f110.body = some lex_run.c := by kernel_rfl
noncomputable def lex_run.x (k : Nat) (ls : List (LamS κ)) : Ctx κ := mkCtx [lex_inner.ent k] [lex_inner.qent k] ls
def lex_run.i : List (Pat κ) := [.str]
def lex_run.s1 : Sh κ := ⟨0, [0, 3], [.str, .int .i64], []⟩
def lex_run.s0 : Sh κ := ⟨0, [0, 3], [.str, .int .i64], []⟩
def lex_run.o0 : List (Ex × Sh κ) := [(.exit 0, ⟨0, [], [], []⟩), (.normal, ⟨0, [], [], []⟩)]
noncomputable def lex_run.l0 (k : Nat) (t0 : ByteArray) (t3 : Int) : Option (Unit × Unit ⊕ Unit × Unit) :=
    if Decidable.decide (t3 < (↑(ByteArray.size t0) : Int)) = Bool.true then
      if (0 : Int) ≤ t3 ∧ t3 < (↑(ByteArray.size t0) : Int) then
        Option.bind (Go.Am.Tryd.lex_inner k (Go.Am.bt t0 t3)) fun r0 =>
          if Prod.fst r0 = Bool.true then Option.some (Sum.inr ((), ())) else Option.some (Sum.inl ((), ()))
      else Option.none
    else Option.some (Sum.inl ((), ()))
def lex_run.w0 : List Nat := [4, 5, 6, 7, 8, 9, 10, 11, 12, 13]
noncomputable def lex_run.e0 (k : Nat) : lex_run.s0.den → Option (OutT lex_run.o0) := fun d => lex_run.l0 k d.1.1 d.1.2.1
noncomputable def lex_run.m0 (k : Nat) : LamS κ := ⟨lamK 17 lex_run.w0 lex_run.s0 lex_run.o0 (lex_run.e0 k)⟩
def lex_run.o1 : List (Ex × Sh κ) := [(.exit 0, ⟨0, [3], [.int .i64], []⟩)]
noncomputable def lex_run.l1 (k : Nat) : Nat → ByteArray → Int → Option ((Int × Unit) × Unit)
  | 0, _, _ => none
  | j + 1, t0, t3 =>
    Option.bind (Go.Am.Tryd.lex_run.l0 k t0 t3) fun r0 =>
      Go.Am.onSum r0 (fun r1 => Option.some ((t3, ()), ())) fun r1 => lex_run.l1 k j t0 (Go.IntKind.wrap Go.IntKind.i64 (t3 + (1 : Int)))
def lex_run.w1 : List Nat := [4, 5, 6, 7, 8, 9, 10, 11, 12, 13, 14, 15, 3]
noncomputable def lex_run.e1 (k j : Nat) : lex_run.s1.den → Option (OutT lex_run.o1) := fun d => lex_run.l1 k j d.1.1 d.1.2.1
noncomputable def lex_run.m1 (k : Nat) : LamS κ := ⟨lamK 17 lex_run.w1 lex_run.s1 lex_run.o1 (lex_run.e1 k k)⟩
def lex_run.p : Pat κ := .int .i64
def lex_run.b : List (BPat κ) := []
noncomputable def lex_run (k : Nat) (t0 : ByteArray) : Option (Int × Unit) :=
    Option.bind (Go.Am.Tryd.lex_run.l1 k k t0 (0 : Int)) fun r0 => Option.some (Prod.fst (Prod.fst r0), ())
noncomputable def lex_run.f (k : Nat) : dens lex_run.i → Option (lex_run.p.den × densB lex_run.b) := fun d => lex_run k d.1
noncomputable def lex_run.ctx (k : Nat) : Ctx κ := lex_run.x k [lex_run.m0 k, lex_run.m1 k]
theorem lex_run.xOk (k : Nat) : (lex_run.ctx k).Ok := ctxOk ⟨lex_inner.entOk k, trivial⟩ ⟨lex_inner.qentOk k, trivial⟩
theorem lex_run.k0 (k : Nat) : LamOk (lex_run.ctx k) ((lex_run.ctx k).Λ 0) (sub [1, 1, 0, 0, 0, 0] lex_run.c) :=
  cut_ok (kindOf := kindOf) (C := lex_run.ctx k) (n := .none) (L := lex_run.e0 k) (lex_run.xOk k) (by kernel_rfl) (by kernel_rfl) (fits_of (l := []) (by kernel_rfl) trivial) (fun _ => by kernel_rfl)
theorem lex_run.k1 (k : Nat) : LamOk (lex_run.ctx k) ((lex_run.ctx k).Λ 1) (.loop (sub [1, 1, 0, 0, 0] lex_run.c)) :=
  loop_ok (kindOf := kindOf) (C := lex_run.ctx k) (n := (.pair (.cut 0) .none)) (L := lex_run.e1 k) (lex_run.xOk k) (by kernel_rfl) (by kernel_rfl) (fits_of (l := [(0, (sub [1, 1, 0, 0, 0, 0] lex_run.c))]) (by kernel_rfl) ⟨lex_run.k0 k, trivial⟩) (fun _ => by kernel_rfl) (fun _ _ => by kernel_rfl) k
theorem lex_run.call (k : Nat) : CallV Tryd.prog E glob 110 lex_run.i lex_run.p lex_run.b (lex_run.f k) :=
  fn_okZ (kindOf := kindOf) (C := lex_run.ctx k) (n := (.pair .none (.pair .none (.pair (.pair (.cut 1) .none) .none)))) (lex_run.xOk k) Tryd.func110 lex_run.hb (fits_of (l := [(1, .loop (sub [1, 1, 0, 0, 0] lex_run.c))]) (by kernel_rfl) ⟨lex_run.k1 k, trivial⟩) (fun _ => by kernel_rfl)
noncomputable def lex_run.ent (k : Nat) : EntS κ := ⟨110, [], entOf lex_run.i lex_run.p lex_run.b true (lex_run.f k) E⟩
theorem lex_run.entOk (k : Nat) : EntOk Tryd.prog E glob 110 (lex_run.ent k).run := ent_free encOk (callable_of Tryd.func110 (by kernel_rfl) (by kernel_rfl)) (by rfl) trivial (lex_run.call k)
noncomputable def lex_run.qent (k : Nat) : QEntS κ := ⟨110, qentOf lex_run.i lex_run.p (lex_run.f k) E⟩
theorem lex_run.qentOk (k : Nat) : QEntOk Tryd.prog E glob 110 (lex_run.qent k).run := qent_ok encOk (callable_of Tryd.func110 (by kernel_rfl) (by kernel_rfl)) (lex_run.call k)
noncomputable def lex_digits.c : Go.Code := match Tryd.f128.body with | some c => c | none => .skip
theorem lex_digits.hb : Tryd.f128.body = some lex_digits.c := by kernel_rfl
noncomputable def lex_digits.x (k : Nat) (ls : List (LamS κ)) : Ctx κ := mkCtx [lex_digit.ent k] [lex_digit.qent k] ls
def lex_digits.i : List (Pat κ) := [.str, .int .i64, .bool]
def lex_digits.s4 : Sh κ := ⟨0, [0, 1, 2, 8, 9], [.str, .int .i64, .bool, .int .i64, .int .i64], []⟩
def lex_digits.s3 : Sh κ := ⟨0, [0, 1, 2, 8, 9], [.str, .int .i64, .bool, .int .i64, .int .i64], []⟩
def lex_digits.s2 : Sh κ := ⟨0, [0, 2, 9, 10], [.str, .bool, .int .i64, .int .i64], []⟩
def lex_digits.s0 : Sh κ := ⟨0, [11], [.int .u8], []⟩
def lex_digits.o0 : List (Ex × Sh κ) := [(.normal, ⟨0, [27], [.bool], []⟩)]
noncomputable def lex_digits.l0 (k : Nat) (t11 : Int) : Option ((Bool × Unit) × Unit) :=
    if Decidable.decide (t11 ≥ (97 : Int)) = Bool.true then Option.some ((Decidable.decide (t11 ≤ (102 : Int)), ()), ()) else Option.some ((Bool.false, ()), ())
def lex_digits.w0 : List Nat := [28, 29, 30, 31, 32, 33, 27]
noncomputable def lex_digits.e0 (k : Nat) : lex_digits.s0.den → Option (OutT lex_digits.o0) := fun d => lex_digits.l0 k d.1.1
noncomputable def lex_digits.m0 (k : Nat) : LamS κ := ⟨lamK 85 lex_digits.w0 lex_digits.s0 lex_digits.o0 (lex_digits.e0 k)⟩
def lex_digits.s1 : Sh κ := ⟨0, [11], [.int .u8], []⟩
def lex_digits.o1 : List (Ex × Sh κ) := [(.normal, ⟨0, [38], [.bool], []⟩)]
noncomputable def lex_digits.l1 (k : Nat) (t11 : Int) : Option ((Bool × Unit) × Unit) :=
    if Decidable.decide (t11 ≥ (65 : Int)) = Bool.true then Option.some ((Decidable.decide (t11 ≤ (70 : Int)), ()), ()) else Option.some ((Bool.false, ()), ())
def lex_digits.w1 : List Nat := [39, 40, 41, 42, 43, 44, 38]
noncomputable def lex_digits.e1 (k : Nat) : lex_digits.s1.den → Option (OutT lex_digits.o1) := fun d => lex_digits.l1 k d.1.1
noncomputable def lex_digits.m1 (k : Nat) : LamS κ := ⟨lamK 85 lex_digits.w1 lex_digits.s1 lex_digits.o1 (lex_digits.e1 k)⟩
def lex_digits.o2 : List (Ex × Sh κ) := [(.normal, ⟨0, [10], [.int .i64], []⟩), (.exit 1, ⟨0, [], [], []⟩)]
noncomputable def lex_digits.l2 (k : Nat) (t0 : ByteArray) (t2 : Bool) (t9 : Int) (t10 : Int) : Option ((Int × Unit) × Unit ⊕ Unit × Unit) :=
    if (0 : Int) ≤ t9 ∧ t9 < (↑(ByteArray.size t0) : Int) then
      Option.bind (Go.Am.Tryd.lex_digit k (Go.Am.bt t0 t9)) fun r0 =>
        if Prod.fst r0 = Bool.true then
          Option.some (Sum.inl ((Go.IntKind.wrap Go.IntKind.i64 (Go.IntKind.wrap Go.IntKind.u8 (Go.Am.bt t0 t9 - (48 : Int))), ()), ()))
        else
          Option.bind (Go.Am.Tryd.lex_digits.l0 k (Go.Am.bt t0 t9)) fun r1 =>
            if Prod.fst (Prod.fst r1) = Bool.true then
              Option.some
                (Sum.inl
                  ((Go.IntKind.wrap Go.IntKind.i64 (Go.IntKind.wrap Go.IntKind.i64 (Go.IntKind.wrap Go.IntKind.u8 (Go.Am.bt t0 t9 - (97 : Int))) + (10 : Int)), ()),
                    ()))
            else
              Option.bind (Go.Am.Tryd.lex_digits.l1 k (Go.Am.bt t0 t9)) fun r2 =>
                if Prod.fst (Prod.fst r2) = Bool.true then
                  Option.some
                    (Sum.inl
                      ((Go.IntKind.wrap Go.IntKind.i64 (Go.IntKind.wrap Go.IntKind.i64 (Go.IntKind.wrap Go.IntKind.u8 (Go.Am.bt t0 t9 - (65 : Int))) + (10 : Int)),
                          ()),
                        ()))
                else
                  if (Go.Am.bt t0 t9 == (95 : Int)) = Bool.true then
                    if t2 = Bool.true then
                      if Decidable.decide (t9 > (0 : Int)) = Bool.true then
                        if Decidable.decide (Go.IntKind.wrap Go.IntKind.i64 (t9 + (1 : Int)) < (↑(ByteArray.size t0) : Int)) = Bool.true then
                          if
                              (0 : Int) ≤ Go.IntKind.wrap Go.IntKind.i64 (t9 - (1 : Int)) ∧
                                Go.IntKind.wrap Go.IntKind.i64 (t9 - (1 : Int)) < (↑(ByteArray.size t0) : Int) then
                            if (Go.Am.bt t0 (Go.IntKind.wrap Go.IntKind.i64 (t9 - (1 : Int))) != (95 : Int)) = Bool.true then Option.some (Sum.inr ((), ()))
                            else Option.some (Sum.inl ((t10, ()), ()))
                          else Option.none
                        else Option.some (Sum.inl ((t10, ()), ()))
                      else Option.some (Sum.inl ((t10, ()), ()))
                    else Option.some (Sum.inl ((t10, ()), ()))
                  else Option.some (Sum.inl ((t10, ()), ()))
    else Option.none
def lex_digits.w2 : List Nat := [18, 19, 20, 11, 22, 23, 21, 24, 25, 26, 10, 28, 29, 30, 31, 32, 33, 27, 34, 35, 36, 37, 39, 40, 41, 42, 43, 44, 38, 45, 46, 47, 48, 50, 51, 52, 53, 54, 55, 56, 57, 58, 59, 60, 61, 62, 63, 64, 65, 66, 67, 68, 69, 70, 71, 72, 49]
noncomputable def lex_digits.e2 (k : Nat) : lex_digits.s2.den → Option (OutT lex_digits.o2) := fun d => lex_digits.l2 k d.1.1 d.1.2.1 d.1.2.2.1 d.1.2.2.2.1
noncomputable def lex_digits.m2 (k : Nat) : LamS κ := ⟨lamK 85 lex_digits.w2 lex_digits.s2 lex_digits.o2 (lex_digits.e2 k)⟩
def lex_digits.o3 : List (Ex × Sh κ) := [(.ret, ⟨0, [6, 7], [.int .i64, .bool], []⟩), (.normal, ⟨0, [8], [.int .i64], []⟩)]
noncomputable def lex_digits.l3 (k : Nat) (t0 : ByteArray) (t1 : Int) (t2 : Bool) (t8 : Int) (t9 : Int) : Option ((Int × Bool × Unit) × Unit ⊕ (Int × Unit) × Unit) :=
    Option.bind (Go.Am.Tryd.lex_digits.l2 k t0 t2 t9 (99 : Int)) fun r0 =>
      Go.Am.onSum r0
        (fun r1 =>
          if Decidable.decide (Prod.fst (Prod.fst r1) ≥ t1) = Bool.true then Option.some (Sum.inl (((0 : Int), Bool.false, ()), ()))
          else
            Option.some
              (Sum.inr
                ((Min.min (Go.IntKind.wrap Go.IntKind.i64 (Go.IntKind.wrap Go.IntKind.i64 (t8 * t1) + Prod.fst (Prod.fst r1))) (1099511627776 : Int), ()), ())))
        fun r1 => Option.some (Sum.inr ((t8, ()), ()))
def lex_digits.w3 : List Nat := [10, 18, 19, 20, 11, 22, 23, 21, 24, 25, 26, 28, 29, 30, 31, 32, 33, 27, 34, 35, 36, 37, 39, 40, 41, 42, 43, 44, 38, 45, 46, 47, 48, 50, 51, 52, 53, 54, 55, 56, 57, 58, 59, 60, 61, 62, 63, 64, 65, 66, 67, 68, 69, 70, 71, 72, 49, 73, 74, 75, 6, 7, 76, 77, 78, 79, 80, 81, 8]
noncomputable def lex_digits.e3 (k : Nat) : lex_digits.s3.den → Option (OutT lex_digits.o3) := fun d => lex_digits.l3 k d.1.1 d.1.2.1 d.1.2.2.1 d.1.2.2.2.1 d.1.2.2.2.2.1
noncomputable def lex_digits.m3 (k : Nat) : LamS κ := ⟨lamK 85 lex_digits.w3 lex_digits.s3 lex_digits.o3 (lex_digits.e3 k)⟩
def lex_digits.o4 : List (Ex × Sh κ) := [(.ret, ⟨0, [6, 7], [.int .i64, .bool], []⟩), (.exit 0, ⟨0, [8], [.int .i64], []⟩)]
noncomputable def lex_digits.l4 (k : Nat) : Nat → ByteArray → Int → Bool → Int → Int → Option ((Int × Bool × Unit) × Unit ⊕ (Int × Unit) × Unit)
  | 0, _, _, _, _, _ => none
  | j + 1, t0, t1, t2, t8, t9 =>
    if Decidable.decide (t9 < (↑(ByteArray.size t0) : Int)) = Bool.true then
      Option.bind (Go.Am.Tryd.lex_digits.l3 k t0 t1 t2 t8 t9) fun r0 =>
        Go.Am.onSum r0 (fun r1 => Option.some (Sum.inl ((Prod.fst (Prod.fst r1), Prod.fst (Prod.snd (Prod.fst r1)), ()), ()))) fun r1 =>
          lex_digits.l4 k j t0 t1 t2 (Prod.fst (Prod.fst r1)) (Go.IntKind.wrap Go.IntKind.i64 (t9 + (1 : Int)))
    else Option.some (Sum.inr ((t8, ()), ()))
def lex_digits.w4 : List Nat := [12, 13, 14, 15, 10, 18, 19, 20, 11, 22, 23, 21, 24, 25, 26, 28, 29, 30, 31, 32, 33, 27, 34, 35, 36, 37, 39, 40, 41, 42, 43, 44, 38, 45, 46, 47, 48, 50, 51, 52, 53, 54, 55, 56, 57, 58, 59, 60, 61, 62, 63, 64, 65, 66, 67, 68, 69, 70, 71, 72, 49, 73, 74, 75, 6, 7, 76, 77, 78, 79, 80, 81, 8, 16, 17, 9]
noncomputable def lex_digits.e4 (k j : Nat) : lex_digits.s4.den → Option (OutT lex_digits.o4) := fun d => lex_digits.l4 k j d.1.1 d.1.2.1 d.1.2.2.1 d.1.2.2.2.1 d.1.2.2.2.2.1
noncomputable def lex_digits.m4 (k : Nat) : LamS κ := ⟨lamK 85 lex_digits.w4 lex_digits.s4 lex_digits.o4 (lex_digits.e4 k k)⟩
def lex_digits.p : Pat κ := .tup [.int .i64, .bool]
def lex_digits.b : List (BPat κ) := []
noncomputable def lex_digits (k : Nat) (t0 : ByteArray) (t1 : Int) (t2 : Bool) : Option ((Int × Bool × Unit) × Unit) :=
    Option.bind (Go.Am.Tryd.lex_digits.l4 k k t0 t1 t2 (0 : Int) (0 : Int)) fun r0 =>
      Go.Am.onSum r0 (fun r1 => Option.some ((Prod.fst (Prod.fst r1), Prod.fst (Prod.snd (Prod.fst r1)), ()), ())) fun r1 =>
        Option.some ((Prod.fst (Prod.fst r1), !ByteArray.toList t0 == ByteArray.toList (ByteArray.mk #[]), ()), ())
noncomputable def lex_digits.f (k : Nat) : dens lex_digits.i → Option (lex_digits.p.den × densB lex_digits.b) := fun d => lex_digits k d.1 d.2.1 d.2.2.1
noncomputable def lex_digits.ctx (k : Nat) : Ctx κ := lex_digits.x k [lex_digits.m0 k, lex_digits.m1 k, lex_digits.m2 k, lex_digits.m3 k, lex_digits.m4 k]
theorem lex_digits.xOk (k : Nat) : (lex_digits.ctx k).Ok := ctxOk ⟨lex_digit.entOk k, trivial⟩ ⟨lex_digit.qentOk k, trivial⟩
theorem lex_digits.k0 (k : Nat) : LamOk (lex_digits.ctx k) ((lex_digits.ctx k).Λ 0) (sub [1, 1, 0, 1, 0, 0, 1, 0, 0, 1, 0, 1, 0, 1, 1, 0] lex_digits.c) :=
  cut_ok (kindOf := kindOf) (C := lex_digits.ctx k) (n := .none) (L := lex_digits.e0 k) (lex_digits.xOk k) (by kernel_rfl) (by kernel_rfl) (fits_of (l := []) (by kernel_rfl) trivial) (fun _ => by kernel_rfl)
theorem lex_digits.k1 (k : Nat) : LamOk (lex_digits.ctx k) ((lex_digits.ctx k).Λ 1) (sub [1, 1, 0, 1, 0, 0, 1, 0, 0, 1, 0, 1, 0, 1, 1, 1, 1, 0] lex_digits.c) :=
  cut_ok (kindOf := kindOf) (C := lex_digits.ctx k) (n := .none) (L := lex_digits.e1 k) (lex_digits.xOk k) (by kernel_rfl) (by kernel_rfl) (fits_of (l := []) (by kernel_rfl) trivial) (fun _ => by kernel_rfl)
theorem lex_digits.k2 (k : Nat) : LamOk (lex_digits.ctx k) ((lex_digits.ctx k).Λ 2) (sub [1, 1, 0, 1, 0, 0, 1, 0, 0, 1, 0] lex_digits.c) :=
  cut_ok (kindOf := kindOf) (C := lex_digits.ctx k) (n := (.pair .none (.pair (.pair .none (.pair .none (.pair (.cut 0) (.pair .none (.pair (.cut 1) .none))))) .none))) (L := lex_digits.e2 k) (lex_digits.xOk k) (by kernel_rfl) (by kernel_rfl) (fits_of (l := [(0, (sub [1, 1, 0, 1, 0, 0, 1, 0, 0, 1, 0, 1, 0, 1, 1, 0] lex_digits.c)), (1, (sub [1, 1, 0, 1, 0, 0, 1, 0, 0, 1, 0, 1, 0, 1, 1, 1, 1, 0] lex_digits.c))]) (by kernel_rfl) ⟨lex_digits.k0 k, lex_digits.k1 k, trivial⟩) (fun _ => by kernel_rfl)
theorem lex_digits.k3 (k : Nat) : LamOk (lex_digits.ctx k) ((lex_digits.ctx k).Λ 3) (sub [1, 1, 0, 1, 0, 0, 1, 0] lex_digits.c) :=
  cut_ok (kindOf := kindOf) (C := lex_digits.ctx k) (n := (.pair (.pair .none (.pair (.cut 2) .none)) .none)) (L := lex_digits.e3 k) (lex_digits.xOk k) (by kernel_rfl) (by kernel_rfl) (fits_of (l := [(2, (sub [1, 1, 0, 1, 0, 0, 1, 0, 0, 1, 0] lex_digits.c))]) (by kernel_rfl) ⟨lex_digits.k2 k, trivial⟩) (fun _ => by kernel_rfl)
theorem lex_digits.k4 (k : Nat) : LamOk (lex_digits.ctx k) ((lex_digits.ctx k).Λ 4) (.loop (sub [1, 1, 0, 1, 0, 0] lex_digits.c)) :=
  loop_ok (kindOf := kindOf) (C := lex_digits.ctx k) (n := (.pair .none (.pair (.cut 3) .none))) (L := lex_digits.e4 k) (lex_digits.xOk k) (by kernel_rfl) (by kernel_rfl) (fits_of (l := [(3, (sub [1, 1, 0, 1, 0, 0, 1, 0] lex_digits.c))]) (by kernel_rfl) ⟨lex_digits.k3 k, trivial⟩) (fun _ => by kernel_rfl) (fun _ _ => by kernel_rfl) k
theorem lex_digits.call (k : Nat) : CallV Tryd.prog E glob 128 lex_digits.i lex_digits.p lex_digits.b (lex_digits.f k) :=
  fn_okZ (kindOf := kindOf) (C := lex_digits.ctx k) (n := (.pair .none (.pair .none (.pair (.pair .none (.pair (.cut 4) .none)) .none)))) (lex_digits.xOk k) Tryd.func128 lex_digits.hb (fits_of (l := [(4, .loop (sub [1, 1, 0, 1, 0, 0] lex_digits.c))]) (by kernel_rfl) ⟨lex_digits.k4 k, trivial⟩) (fun _ => by kernel_rfl)
noncomputable def lex_digits.ent (k : Nat) : EntS κ := ⟨128, [], entOf lex_digits.i lex_digits.p lex_digits.b true (lex_digits.f k) E⟩
theorem lex_digits.entOk (k : Nat) : EntOk Tryd.prog E glob 128 (lex_digits.ent k).run := ent_free encOk (callable_of Tryd.func128 (by kernel_rfl) (by kernel_rfl)) (by rfl) trivial (lex_digits.call k)
noncomputable def stringslite_HasPrefix.c : Go.Code := match Tryd.f142.body with | some c => c | none => .skip
theorem stringslite_HasPrefix.hb : Tryd.f142.body = some stringslite_HasPrefix.c := by kernel_rfl
noncomputable def stringslite_HasPrefix.x (k : Nat) (ls : List (LamS κ)) : Ctx κ := mkCtx [] [] ls
def stringslite_HasPrefix.i : List (Pat κ) := [.str, .str]
def stringslite_HasPrefix.p : Pat κ := .bool
def stringslite_HasPrefix.b : List (BPat κ) := []
noncomputable def stringslite_HasPrefix (k : Nat) (t0 : ByteArray) (t1 : ByteArray) : Option (Bool × Unit) :=
    if Decidable.decide ((↑(ByteArray.size t0) : Int) ≥ (↑(ByteArray.size t1) : Int)) = Bool.true then
      if (0 : Int) ≤ (↑(ByteArray.size t1) : Int) ∧ (↑(ByteArray.size t1) : Int) ≤ (↑(ByteArray.size t0) : Int) then
        Option.some (ByteArray.toList (ByteArray.extract t0 (0 : Nat) (Int.toNat (↑(ByteArray.size t1) : Int))) == ByteArray.toList t1, ())
      else Option.none
    else Option.some (Bool.false, ())
noncomputable def stringslite_HasPrefix.f (k : Nat) : dens stringslite_HasPrefix.i → Option (stringslite_HasPrefix.p.den × densB stringslite_HasPrefix.b) := fun d => stringslite_HasPrefix k d.1 d.2.1
noncomputable def stringslite_HasPrefix.ctx (k : Nat) : Ctx κ := stringslite_HasPrefix.x k []
theorem stringslite_HasPrefix.xOk (k : Nat) : (stringslite_HasPrefix.ctx k).Ok := ctxOk trivial trivial
theorem stringslite_HasPrefix.call (k : Nat) : CallV Tryd.prog E glob 142 stringslite_HasPrefix.i stringslite_HasPrefix.p stringslite_HasPrefix.b (stringslite_HasPrefix.f k) :=
  fn_okZ (kindOf := kindOf) (C := stringslite_HasPrefix.ctx k) (n := .none) (stringslite_HasPrefix.xOk k) Tryd.func142 stringslite_HasPrefix.hb (fits_of (l := []) (by kernel_rfl) trivial) (fun _ => by kernel_rfl)
noncomputable def stringslite_HasPrefix.ent (k : Nat) : EntS κ := ⟨142, [], entOf stringslite_HasPrefix.i stringslite_HasPrefix.p stringslite_HasPrefix.b true (stringslite_HasPrefix.f k) E⟩
theorem stringslite_HasPrefix.entOk (k : Nat) : EntOk Tryd.prog E glob 142 (stringslite_HasPrefix.ent k).run := ent_free encOk (callable_of Tryd.func142 (by kernel_rfl) (by kernel_rfl)) (by rfl) trivial (stringslite_HasPrefix.call k)
noncomputable def stringslite_HasPrefix.qent (k : Nat) : QEntS κ := ⟨142, qentOf stringslite_HasPrefix.i stringslite_HasPrefix.p (stringslite_HasPrefix.f k) E⟩
theorem stringslite_HasPrefix.qentOk (k : Nat) : QEntOk Tryd.prog E glob 142 (stringslite_HasPrefix.qent k).run := qent_ok encOk (callable_of Tryd.func142 (by kernel_rfl) (by kernel_rfl)) (stringslite_HasPrefix.call k)
noncomputable def stringslite_CutPrefix.c : Go.Code := match Tryd.f140.body with | some c => c | none => .skip
theorem stringslite_CutPrefix.hb : Tryd.f140.body = some stringslite_CutPrefix.c := by kernel_rfl
noncomputable def stringslite_CutPrefix.x (k : Nat) (ls : List (LamS κ)) : Ctx κ := mkCtx [stringslite_HasPrefix.ent k] [stringslite_HasPrefix.qent k] ls
def stringslite_CutPrefix.i : List (Pat κ) := [.str, .str]
def stringslite_CutPrefix.p : Pat κ := .tup [.str, .bool]
def stringslite_CutPrefix.b : List (BPat κ) := []
noncomputable def stringslite_CutPrefix (k : Nat) (t0 : ByteArray) (t1 : ByteArray) : Option ((ByteArray × Bool × Unit) × Unit) :=
    Option.bind (Go.Am.Tryd.stringslite_HasPrefix k t0 t1) fun r0 =>
      if (!Prod.fst r0) = Bool.true then Option.some ((t0, Bool.false, ()), ())
      else
        if (0 : Int) ≤ (↑(ByteArray.size t1) : Int) ∧ (↑(ByteArray.size t1) : Int) ≤ (↑(ByteArray.size t0) : Int) then
          Option.some ((ByteArray.extract t0 (Int.toNat (↑(ByteArray.size t1) : Int)) (ByteArray.size t0), Bool.true, ()), ())
        else Option.none
noncomputable def stringslite_CutPrefix.f (k : Nat) : dens stringslite_CutPrefix.i → Option (stringslite_CutPrefix.p.den × densB stringslite_CutPrefix.b) := fun d => stringslite_CutPrefix k d.1 d.2.1
noncomputable def stringslite_CutPrefix.ctx (k : Nat) : Ctx κ := stringslite_CutPrefix.x k []
theorem stringslite_CutPrefix.xOk (k : Nat) : (stringslite_CutPrefix.ctx k).Ok := ctxOk ⟨stringslite_HasPrefix.entOk k, trivial⟩ ⟨stringslite_HasPrefix.qentOk k, trivial⟩
theorem stringslite_CutPrefix.call (k : Nat) : CallV Tryd.prog E glob 140 stringslite_CutPrefix.i stringslite_CutPrefix.p stringslite_CutPrefix.b (stringslite_CutPrefix.f k) :=
  fn_okZ (kindOf := kindOf) (C := stringslite_CutPrefix.ctx k) (n := .none) (stringslite_CutPrefix.xOk k) Tryd.func140 stringslite_CutPrefix.hb (fits_of (l := []) (by kernel_rfl) trivial) (fun _ => by kernel_rfl)
noncomputable def stringslite_CutPrefix.ent (k : Nat) : EntS κ := ⟨140, [], entOf stringslite_CutPrefix.i stringslite_CutPrefix.p stringslite_CutPrefix.b true (stringslite_CutPrefix.f k) E⟩
theorem stringslite_CutPrefix.entOk (k : Nat) : EntOk Tryd.prog E glob 140 (stringslite_CutPrefix.ent k).run := ent_free encOk (callable_of Tryd.func140 (by kernel_rfl) (by kernel_rfl)) (by rfl) trivial (stringslite_CutPrefix.call k)
noncomputable def strings_CutPrefix.c : Go.Code := match Tryd.f129.body with | some c => c | none => .skip
theorem strings_CutPrefix.hb : Tryd.f129.body = some strings_CutPrefix.c := by kernel_rfl
noncomputable def strings_CutPrefix.x (k : Nat) (ls : List (LamS κ)) : Ctx κ := mkCtx [stringslite_CutPrefix.ent k] [] ls
def strings_CutPrefix.i : List (Pat κ) := [.str, .str]
def strings_CutPrefix.p : Pat κ := .tup [.str, .bool]
def strings_CutPrefix.b : List (BPat κ) := []
noncomputable def strings_CutPrefix (k : Nat) (t0 : ByteArray) (t1 : ByteArray) : Option ((ByteArray × Bool × Unit) × Unit) :=
    Option.bind (Go.Am.Tryd.stringslite_CutPrefix k t0 t1) fun r0 => Option.some ((Prod.fst (Prod.fst r0), Prod.fst (Prod.snd (Prod.fst r0)), ()), ())
noncomputable def strings_CutPrefix.f (k : Nat) : dens strings_CutPrefix.i → Option (strings_CutPrefix.p.den × densB strings_CutPrefix.b) := fun d => strings_CutPrefix k d.1 d.2.1
noncomputable def strings_CutPrefix.ctx (k : Nat) : Ctx κ := strings_CutPrefix.x k []
theorem strings_CutPrefix.xOk (k : Nat) : (strings_CutPrefix.ctx k).Ok := ctxOk ⟨stringslite_CutPrefix.entOk k, trivial⟩ trivial
theorem strings_CutPrefix.call (k : Nat) : CallV Tryd.prog E glob 129 strings_CutPrefix.i strings_CutPrefix.p strings_CutPrefix.b (strings_CutPrefix.f k) :=
  fn_okZ (kindOf := kindOf) (C := strings_CutPrefix.ctx k) (n := .none) (strings_CutPrefix.xOk k) Tryd.func129 strings_CutPrefix.hb (fits_of (l := []) (by kernel_rfl) trivial) (fun _ => by kernel_rfl)
noncomputable def strings_CutPrefix.ent (k : Nat) : EntS κ := ⟨129, [], entOf strings_CutPrefix.i strings_CutPrefix.p strings_CutPrefix.b true (strings_CutPrefix.f k) E⟩
theorem strings_CutPrefix.entOk (k : Nat) : EntOk Tryd.prog E glob 129 (strings_CutPrefix.ent k).run := ent_free encOk (callable_of Tryd.func129 (by kernel_rfl) (by kernel_rfl)) (by rfl) trivial (strings_CutPrefix.call k)
noncomputable def stringslite_Cut.c : Go.Code := match Tryd.f143.body with | some c => c | none => .skip
theorem stringslite_Cut.hb : Tryd.f143.body = some stringslite_Cut.c := by kernel_rfl
noncomputable def stringslite_Cut.x (k : Nat) (ls : List (LamS κ)) : Ctx κ := mkCtx [stringslite_Index.ent k] [stringslite_Index.qent k] ls
def stringslite_Cut.i : List (Pat κ) := [.str, .str]
def stringslite_Cut.p : Pat κ := .tup [.str, .str, .bool]
def stringslite_Cut.b : List (BPat κ) := []
noncomputable def stringslite_Cut (k : Nat) (t0 : ByteArray) (t1 : ByteArray) : Option ((ByteArray × ByteArray × Bool × Unit) × Unit) :=
    Option.bind (Go.Am.Tryd.stringslite_Index k t0 t1) fun r0 =>
      if Decidable.decide (Prod.fst r0 ≥ (0 : Int)) = Bool.true then
        if (0 : Int) ≤ Prod.fst r0 ∧ Prod.fst r0 ≤ (↑(ByteArray.size t0) : Int) then
          if
              (0 : Int) ≤ Go.IntKind.wrap Go.IntKind.i64 (Prod.fst r0 + (↑(ByteArray.size t1) : Int)) ∧
                Go.IntKind.wrap Go.IntKind.i64 (Prod.fst r0 + (↑(ByteArray.size t1) : Int)) ≤ (↑(ByteArray.size t0) : Int) then
            Option.some
              ((ByteArray.extract t0 (0 : Nat) (Int.toNat (Prod.fst r0)),
                  ByteArray.extract t0 (Int.toNat (Go.IntKind.wrap Go.IntKind.i64 (Prod.fst r0 + (↑(ByteArray.size t1) : Int)))) (ByteArray.size t0), Bool.true,
                  ()),
                ())
          else Option.none
        else Option.none
      else Option.some ((t0, ByteArray.mk #[], Bool.false, ()), ())
noncomputable def stringslite_Cut.f (k : Nat) : dens stringslite_Cut.i → Option (stringslite_Cut.p.den × densB stringslite_Cut.b) := fun d => stringslite_Cut k d.1 d.2.1
noncomputable def stringslite_Cut.ctx (k : Nat) : Ctx κ := stringslite_Cut.x k []
theorem stringslite_Cut.xOk (k : Nat) : (stringslite_Cut.ctx k).Ok := ctxOk ⟨stringslite_Index.entOk k, trivial⟩ ⟨stringslite_Index.qentOk k, trivial⟩
theorem stringslite_Cut.call (k : Nat) : CallV Tryd.prog E glob 143 stringslite_Cut.i stringslite_Cut.p stringslite_Cut.b (stringslite_Cut.f k) :=
  fn_okZ (kindOf := kindOf) (C := stringslite_Cut.ctx k) (n := (.pair .none (.pair (.pair .none (.pair .none (.pair (.pair (.ops [] 12) .none) .none))) .none))) (stringslite_Cut.xOk k) Tryd.func143 stringslite_Cut.hb (fits_of (l := []) (by kernel_rfl) trivial) (fun _ => by kernel_rfl)
noncomputable def stringslite_Cut.ent (k : Nat) : EntS κ := ⟨143, [], entOf stringslite_Cut.i stringslite_Cut.p stringslite_Cut.b true (stringslite_Cut.f k) E⟩
theorem stringslite_Cut.entOk (k : Nat) : EntOk Tryd.prog E glob 143 (stringslite_Cut.ent k).run := ent_free encOk (callable_of Tryd.func143 (by kernel_rfl) (by kernel_rfl)) (by rfl) trivial (stringslite_Cut.call k)
noncomputable def strings_Cut.c : Go.Code := match Tryd.f141.body with | some c => c | none => .skip
theorem strings_Cut.hb : Tryd.f141.body = some strings_Cut.c := by kernel_rfl
noncomputable def strings_Cut.x (k : Nat) (ls : List (LamS κ)) : Ctx κ := mkCtx [stringslite_Cut.ent k] [] ls
def strings_Cut.i : List (Pat κ) := [.str, .str]
def strings_Cut.p : Pat κ := .tup [.str, .str, .bool]
def strings_Cut.b : List (BPat κ) := []
noncomputable def strings_Cut (k : Nat) (t0 : ByteArray) (t1 : ByteArray) : Option ((ByteArray × ByteArray × Bool × Unit) × Unit) :=
    Option.bind (Go.Am.Tryd.stringslite_Cut k t0 t1) fun r0 =>
      Option.some ((Prod.fst (Prod.fst r0), Prod.fst (Prod.snd (Prod.fst r0)), Prod.fst (Prod.snd (Prod.snd (Prod.fst r0))), ()), ())
noncomputable def strings_Cut.f (k : Nat) : dens strings_Cut.i → Option (strings_Cut.p.den × densB strings_Cut.b) := fun d => strings_Cut k d.1 d.2.1
noncomputable def strings_Cut.ctx (k : Nat) : Ctx κ := strings_Cut.x k []
theorem strings_Cut.xOk (k : Nat) : (strings_Cut.ctx k).Ok := ctxOk ⟨stringslite_Cut.entOk k, trivial⟩ trivial
theorem strings_Cut.call (k : Nat) : CallV Tryd.prog E glob 141 strings_Cut.i strings_Cut.p strings_Cut.b (strings_Cut.f k) :=
  fn_okZ (kindOf := kindOf) (C := strings_Cut.ctx k) (n := .none) (strings_Cut.xOk k) Tryd.func141 strings_Cut.hb (fits_of (l := []) (by kernel_rfl) trivial) (fun _ => by kernel_rfl)
noncomputable def strings_Cut.ent (k : Nat) : EntS κ := ⟨141, [], entOf strings_Cut.i strings_Cut.p strings_Cut.b true (strings_Cut.f k) E⟩
theorem strings_Cut.entOk (k : Nat) : EntOk Tryd.prog E glob 141 (strings_Cut.ent k).run := ent_free encOk (callable_of Tryd.func141 (by kernel_rfl) (by kernel_rfl)) (by rfl) trivial (strings_Cut.call k)
noncomputable def lex_duration.c : Go.Code := match Tryd.f130.body with | some c => c | none => .skip
theorem lex_duration.hb : Tryd.f130.body = some lex_duration.c := by kernel_rfl
noncomputable def lex_duration.x (k : Nat) (ls : List (LamS κ)) : Ctx κ := mkCtx [lex_digits.ent k, strings_Cut.ent k] [] ls
def lex_duration.i : List (Pat κ) := [.str]
def lex_duration.s0 : Sh κ := ⟨0, [0, 4, 5, 15, 16], [.str, .int .i64, .bool, .agg [.str, .int .i64, .str, .int .i64, .str, .int .i64], .int .i64], []⟩
def lex_duration.o0 : List (Ex × Sh κ) := [(.ret, ⟨0, [2, 3], [.int .i64, .bool], []⟩), (.exit 0, ⟨0, [0, 5, 4], [.str, .bool, .int .i64], []⟩)]
noncomputable def lex_duration.l0 (k : Nat) : Nat → ByteArray → Int → Bool → ByteArray → Int → ByteArray → Int → ByteArray → Int → Int → Option ((Int × Bool × Unit) × Unit ⊕ (ByteArray × Bool × Int × Unit) × Unit)
  | 0, _, _, _, _, _, _, _, _, _, _ => none
  | j + 1, t0, t4, t5, t15, t15_1, t15_2, t15_3, t15_4, t15_5, t16 =>
    if Decidable.decide (t16 < (3 : Int)) = Bool.true then
      if t16 = (↑(0 : Nat) : Int) then
        Option.bind (Go.Am.Tryd.strings_Cut k t0 t15) fun r4 =>
          if (!Prod.fst (Prod.snd (Prod.snd (Prod.fst r4)))) = Bool.true then
            lex_duration.l0 k j t0 t4 t5 t15 t15_1 t15_2 t15_3 t15_4 t15_5 (Go.IntKind.wrap Go.IntKind.i64 (t16 + (1 : Int)))
          else
            Option.bind (Go.Am.Tryd.lex_digits k (Prod.fst (Prod.fst r4)) (10 : Int) Bool.false) fun r5 =>
              if (!Prod.fst (Prod.snd (Prod.fst r5))) = Bool.true then Option.some (Sum.inl (((0 : Int), Bool.false, ()), ()))
              else
                lex_duration.l0 k j (Prod.fst (Prod.snd (Prod.fst r4))) (Go.IntKind.wrap Go.IntKind.i64 (t4 + Go.IntKind.wrap Go.IntKind.i64 (Prod.fst (Prod.fst r5) * t15_1)))
                  Bool.true t15 t15_1 t15_2 t15_3 t15_4 t15_5 (Go.IntKind.wrap Go.IntKind.i64 (t16 + (1 : Int)))
      else
        if t16 = (↑((0 : Nat) + (1 : Nat)) : Int) then
          Option.bind (Go.Am.Tryd.strings_Cut k t0 t15_2) fun r2 =>
            if (!Prod.fst (Prod.snd (Prod.snd (Prod.fst r2)))) = Bool.true then
              lex_duration.l0 k j t0 t4 t5 t15 t15_1 t15_2 t15_3 t15_4 t15_5 (Go.IntKind.wrap Go.IntKind.i64 (t16 + (1 : Int)))
            else
              Option.bind (Go.Am.Tryd.lex_digits k (Prod.fst (Prod.fst r2)) (10 : Int) Bool.false) fun r3 =>
                if (!Prod.fst (Prod.snd (Prod.fst r3))) = Bool.true then Option.some (Sum.inl (((0 : Int), Bool.false, ()), ()))
                else
                  lex_duration.l0 k j (Prod.fst (Prod.snd (Prod.fst r2))) (Go.IntKind.wrap Go.IntKind.i64 (t4 + Go.IntKind.wrap Go.IntKind.i64 (Prod.fst (Prod.fst r3) * t15_3)))
                    Bool.true t15 t15_1 t15_2 t15_3 t15_4 t15_5 (Go.IntKind.wrap Go.IntKind.i64 (t16 + (1 : Int)))
        else
          if t16 = (↑((0 : Nat) + (1 : Nat) + (1 : Nat)) : Int) then
            Option.bind (Go.Am.Tryd.strings_Cut k t0 t15_4) fun r0 =>
              if (!Prod.fst (Prod.snd (Prod.snd (Prod.fst r0)))) = Bool.true then
                lex_duration.l0 k j t0 t4 t5 t15 t15_1 t15_2 t15_3 t15_4 t15_5 (Go.IntKind.wrap Go.IntKind.i64 (t16 + (1 : Int)))
              else
                Option.bind (Go.Am.Tryd.lex_digits k (Prod.fst (Prod.fst r0)) (10 : Int) Bool.false) fun r1 =>
                  if (!Prod.fst (Prod.snd (Prod.fst r1))) = Bool.true then Option.some (Sum.inl (((0 : Int), Bool.false, ()), ()))
                  else
                    lex_duration.l0 k j (Prod.fst (Prod.snd (Prod.fst r0))) (Go.IntKind.wrap Go.IntKind.i64 (t4 + Go.IntKind.wrap Go.IntKind.i64 (Prod.fst (Prod.fst r1) * t15_5)))
                      Bool.true t15 t15_1 t15_2 t15_3 t15_4 t15_5 (Go.IntKind.wrap Go.IntKind.i64 (t16 + (1 : Int)))
          else Option.none
    else Option.some (Sum.inr ((t0, t5, t4, ()), ()))
def lex_duration.w0 : List Nat := [17, 18, 7, 20, 21, 22, 23, 19, 24, 25, 26, 8, 9, 10, 27, 28, 30, 31, 29, 32, 33, 11, 34, 35, 2, 3, 36, 37, 38, 39, 40, 41, 42, 4, 0, 5, 43, 16]
noncomputable def lex_duration.e0 (k j : Nat) : lex_duration.s0.den → Option (OutT lex_duration.o0) := fun d => lex_duration.l0 k j d.1.1 d.1.2.1 d.1.2.2.1 d.1.2.2.2.1.1 d.1.2.2.2.1.2.1 d.1.2.2.2.1.2.2.1 d.1.2.2.2.1.2.2.2.1 d.1.2.2.2.1.2.2.2.2.1 d.1.2.2.2.1.2.2.2.2.2.1 d.1.2.2.2.2.1
noncomputable def lex_duration.m0 (k : Nat) : LamS κ := ⟨lamK 50 lex_duration.w0 lex_duration.s0 lex_duration.o0 (lex_duration.e0 k k)⟩
def lex_duration.p : Pat κ := .tup [.int .i64, .bool]
def lex_duration.b : List (BPat κ) := []
noncomputable def lex_duration (k : Nat) (t0 : ByteArray) : Option ((Int × Bool × Unit) × Unit) :=
    Option.bind
      (Go.Am.Tryd.lex_duration.l0 k k t0 (0 : Int) Bool.false (ByteArray.mk #[(104 : UInt8)]) (3600 : Int) (ByteArray.mk #[(109 : UInt8)]) (60 : Int)
        (ByteArray.mk #[(115 : UInt8)]) (1 : Int) (0 : Int))
      fun r0 =>
      Go.Am.onSum r0 (fun r1 => Option.some ((Prod.fst (Prod.fst r1), Prod.fst (Prod.snd (Prod.fst r1)), ()), ())) fun r1 =>
        if Prod.fst (Prod.snd (Prod.fst r1)) = Bool.true then
          Option.some ((Prod.fst (Prod.snd (Prod.snd (Prod.fst r1))), ByteArray.toList (Prod.fst (Prod.fst r1)) == ByteArray.toList (ByteArray.mk #[]), ()), ())
        else Option.some ((Prod.fst (Prod.snd (Prod.snd (Prod.fst r1))), Bool.false, ()), ())
noncomputable def lex_duration.f (k : Nat) : dens lex_duration.i → Option (lex_duration.p.den × densB lex_duration.b) := fun d => lex_duration k d.1
noncomputable def lex_duration.ctx (k : Nat) : Ctx κ := lex_duration.x k [lex_duration.m0 k]
theorem lex_duration.xOk (k : Nat) : (lex_duration.ctx k).Ok := ctxOk ⟨lex_digits.entOk k, strings_Cut.entOk k, trivial⟩ trivial
theorem lex_duration.k0 (k : Nat) : LamOk (lex_duration.ctx k) ((lex_duration.ctx k).Λ 0) (.loop (sub [1, 1, 0, 1, 0, 0] lex_duration.c)) :=
  loop_ok (kindOf := kindOf) (C := lex_duration.ctx k) (n := .none) (L := lex_duration.e0 k) (lex_duration.xOk k) (by kernel_rfl) (by kernel_rfl) (fits_of (l := []) (by kernel_rfl) trivial) (fun _ => by kernel_rfl) (fun _ _ => by kernel_rfl) k
theorem lex_duration.call (k : Nat) : CallV Tryd.prog E glob 130 lex_duration.i lex_duration.p lex_duration.b (lex_duration.f k) :=
  fn_okZ (kindOf := kindOf) (C := lex_duration.ctx k) (n := (.pair .none (.pair .none (.pair (.pair .none (.pair (.cut 0) .none)) .none)))) (lex_duration.xOk k) Tryd.func130 lex_duration.hb (fits_of (l := [(0, .loop (sub [1, 1, 0, 1, 0, 0] lex_duration.c))]) (by kernel_rfl) ⟨lex_duration.k0 k, trivial⟩) (fun _ => by kernel_rfl)
noncomputable def lex_duration.ent (k : Nat) : EntS κ := ⟨130, [], entOf lex_duration.i lex_duration.p lex_duration.b true (lex_duration.f k) E⟩
theorem lex_duration.entOk (k : Nat) : EntOk Tryd.prog E glob 130 (lex_duration.ent k).run := ent_free encOk (callable_of Tryd.func130 (by kernel_rfl) (by kernel_rfl)) (by rfl) trivial (lex_duration.call k)
noncomputable def lex_Number.c : Go.Code := match Tryd.f111.body with | some c => c | none => .skip
theorem lex_Number.hb : Tryd.f111.body = some lex_Number.c := by kernel_rfl
noncomputable def lex_Number.x (k : Nat) (ls : List (LamS κ)) : Ctx κ := mkCtx [lex_digits.ent k, strings_CutPrefix.ent k, lex_duration.ent k] [] ls
def lex_Number.i : List (Pat κ) := [.str]
def lex_Number.s0 : Sh κ := ⟨0, [0, 4, 5], [.str, .int .i64, .bool], []⟩
def lex_Number.o0 : List (Ex × Sh κ) := [(.normal, ⟨0, [4, 5], [.int .i64, .bool], []⟩)]
noncomputable def lex_Number.l0 (k : Nat) (t0 : ByteArray) (t4 : Int) (t5 : Bool) : Option ((Int × Bool × Unit) × Unit) :=
    if (!t5) = Bool.true then
      Option.bind (Go.Am.Tryd.strings_CutPrefix k t0 (ByteArray.mk #[(48 : UInt8), (120 : UInt8)])) fun r0 =>
        if Prod.fst (Prod.snd (Prod.fst r0)) = Bool.true then
          Option.bind (Go.Am.Tryd.lex_digits k (Prod.fst (Prod.fst r0)) (16 : Int) Bool.true) fun r1 =>
            Option.some ((Prod.fst (Prod.fst r1), Prod.fst (Prod.snd (Prod.fst r1)), ()), ())
        else Option.bind (Go.Am.Tryd.lex_duration k t0) fun r2 => Option.some ((Prod.fst (Prod.fst r2), Prod.fst (Prod.snd (Prod.fst r2)), ()), ())
    else Option.some ((t4, t5, ()), ())
def lex_Number.w0 : List Nat := [13, 14, 16, 17, 15, 18, 19, 6, 7, 20, 22, 23, 21, 24, 25, 4, 5, 27, 28, 26, 29, 30]
noncomputable def lex_Number.e0 (k : Nat) : lex_Number.s0.den → Option (OutT lex_Number.o0) := fun d => lex_Number.l0 k d.1.1 d.1.2.1 d.1.2.2.1
noncomputable def lex_Number.m0 (k : Nat) : LamS κ := ⟨lamK 39 lex_Number.w0 lex_Number.s0 lex_Number.o0 (lex_Number.e0 k)⟩
def lex_Number.p : Pat κ := .tup [.int .i32, .int .i64]
def lex_Number.b : List (BPat κ) := []
noncomputable def lex_Number (k : Nat) (t0 : ByteArray) : Option ((Int × Int × Unit) × Unit) :=
    Option.bind (Go.Am.Tryd.lex_digits k t0 (10 : Int) Bool.true) fun r0 =>
      Option.bind (Go.Am.Tryd.lex_Number.l0 k t0 (Prod.fst (Prod.fst r0)) (Prod.fst (Prod.snd (Prod.fst r0)))) fun r1 =>
        if (!Prod.fst (Prod.snd (Prod.fst r1))) = Bool.true then Option.some (((0 : Int), (22 : Int), ()), ())
        else
          if Decidable.decide (Prod.fst (Prod.fst r1) > (2147483647 : Int)) = Bool.true then Option.some (((0 : Int), (23 : Int), ()), ())
          else Option.some ((Go.IntKind.wrap Go.IntKind.i32 (Prod.fst (Prod.fst r1)), (0 : Int), ()), ())
noncomputable def lex_Number.f (k : Nat) : dens lex_Number.i → Option (lex_Number.p.den × densB lex_Number.b) := fun d => lex_Number k d.1
noncomputable def lex_Number.ctx (k : Nat) : Ctx κ := lex_Number.x k [lex_Number.m0 k]
theorem lex_Number.xOk (k : Nat) : (lex_Number.ctx k).Ok := ctxOk ⟨lex_digits.entOk k, strings_CutPrefix.entOk k, lex_duration.entOk k, trivial⟩ trivial
theorem lex_Number.k0 (k : Nat) : LamOk (lex_Number.ctx k) ((lex_Number.ctx k).Λ 0) (sub [1, 1, 0] lex_Number.c) :=
  cut_ok (kindOf := kindOf) (C := lex_Number.ctx k) (n := .none) (L := lex_Number.e0 k) (lex_Number.xOk k) (by kernel_rfl) (by kernel_rfl) (fits_of (l := []) (by kernel_rfl) trivial) (fun _ => by kernel_rfl)
theorem lex_Number.call (k : Nat) : CallV Tryd.prog E glob 111 lex_Number.i lex_Number.p lex_Number.b (lex_Number.f k) :=
  fn_okZ (kindOf := kindOf) (C := lex_Number.ctx k) (n := (.pair .none (.pair .none (.pair (.cut 0) .none)))) (lex_Number.xOk k) Tryd.func111 lex_Number.hb (fits_of (l := [(0, (sub [1, 1, 0] lex_Number.c))]) (by kernel_rfl) ⟨lex_Number.k0 k, trivial⟩) (fun _ => by kernel_rfl)
noncomputable def lex_Number.ent (k : Nat) : EntS κ := ⟨111, [], entOf lex_Number.i lex_Number.p lex_Number.b true (lex_Number.f k) E⟩
theorem lex_Number.entOk (k : Nat) : EntOk Tryd.prog E glob 111 (lex_Number.ent k).run := ent_free encOk (callable_of Tryd.func111 (by kernel_rfl) (by kernel_rfl)) (by rfl) trivial (lex_Number.call k)
noncomputable def lex_KindOf.c : Go.Code := match Tryd.f99.body with | some c => c | none => .skip
theorem lex_KindOf.hb : Tryd.f99.body = some lex_KindOf.c := by kernel_rfl
noncomputable def lex_KindOf.x (k : Nat) (ls : List (LamS κ)) : Ctx κ := mkCtx [lex_kind.ent k, lex_letter.ent k, lex_run.ent k, lex_Number.ent k] [lex_kind.qent k, lex_letter.qent k, lex_run.qent k] ls
def lex_KindOf.i : List (Pat κ) := [.str]
def lex_KindOf.s0 : Sh κ := ⟨0, [0], [.str], []⟩
def lex_KindOf.o0 : List (Ex × Sh κ) := [(.normal, ⟨0, [], [], []⟩), (.ret, ⟨0, [2], [.int .i64], []⟩)]
noncomputable def lex_KindOf.l0 (k : Nat) (t0 : ByteArray) : Option (Unit × Unit ⊕ (Int × Unit) × Unit) :=
    if (0 : Int) ≤ (0 : Int) ∧ (0 : Int) < (↑(ByteArray.size t0) : Int) then
      Option.bind (Go.Am.Tryd.lex_letter k (Go.Am.bt t0 (0 : Int))) fun r0 =>
        if Prod.fst r0 = Bool.true then
          if Decidable.decide ((↑(ByteArray.size t0) : Int) ≤ (32 : Int)) = Bool.true then
            Option.bind (Go.Am.Tryd.lex_run k t0) fun r1 =>
              if (Prod.fst r1 == (↑(ByteArray.size t0) : Int)) = Bool.true then Option.some (Sum.inr (((1 : Int), ()), ())) else Option.some (Sum.inl ((), ()))
          else Option.some (Sum.inl ((), ()))
        else Option.some (Sum.inl ((), ()))
    else Option.none
def lex_KindOf.w0 : List Nat := [13, 14, 15, 16, 17, 18, 19, 20, 21, 22, 23, 24, 25, 26, 27, 2]
noncomputable def lex_KindOf.e0 (k : Nat) : lex_KindOf.s0.den → Option (OutT lex_KindOf.o0) := fun d => lex_KindOf.l0 k d.1.1
noncomputable def lex_KindOf.m0 (k : Nat) : LamS κ := ⟨lamK 35 lex_KindOf.w0 lex_KindOf.s0 lex_KindOf.o0 (lex_KindOf.e0 k)⟩
def lex_KindOf.p : Pat κ := .int .i64
def lex_KindOf.b : List (BPat κ) := []
noncomputable def lex_KindOf (k : Nat) (t0 : ByteArray) : Option (Int × Unit) :=
    Option.bind (Go.Am.Tryd.lex_kind k t0) fun r0 =>
      if (Prod.fst r0 != (0 : Int)) = Bool.true then Option.some (Prod.fst r0, ())
      else
        if (ByteArray.toList t0 == ByteArray.toList (ByteArray.mk #[])) = Bool.true then Option.some ((-1 : Int), ())
        else
          Option.bind (Go.Am.Tryd.lex_KindOf.l0 k t0) fun r1 =>
            Go.Am.onSum r1
              (fun r2 =>
                Option.bind (Go.Am.Tryd.lex_Number k t0) fun r3 =>
                  if (Prod.fst (Prod.snd (Prod.fst r3)) == (0 : Int)) = Bool.true then Option.some ((2 : Int), ()) else Option.some ((-1 : Int), ()))
              fun r2 => Option.some (Prod.fst (Prod.fst r2), ())
noncomputable def lex_KindOf.f (k : Nat) : dens lex_KindOf.i → Option (lex_KindOf.p.den × densB lex_KindOf.b) := fun d => lex_KindOf k d.1
noncomputable def lex_KindOf.ctx (k : Nat) : Ctx κ := lex_KindOf.x k [lex_KindOf.m0 k]
theorem lex_KindOf.xOk (k : Nat) : (lex_KindOf.ctx k).Ok := ctxOk ⟨lex_kind.entOk k, lex_letter.entOk k, lex_run.entOk k, lex_Number.entOk k, trivial⟩ ⟨lex_kind.qentOk k, lex_letter.qentOk k, lex_run.qentOk k, trivial⟩
theorem lex_KindOf.k0 (k : Nat) : LamOk (lex_KindOf.ctx k) ((lex_KindOf.ctx k).Λ 0) (sub [1, 1, 1, 0] lex_KindOf.c) :=
  cut_ok (kindOf := kindOf) (C := lex_KindOf.ctx k) (n := .none) (L := lex_KindOf.e0 k) (lex_KindOf.xOk k) (by kernel_rfl) (by kernel_rfl) (fits_of (l := []) (by kernel_rfl) trivial) (fun _ => by kernel_rfl)
theorem lex_KindOf.call (k : Nat) : CallV Tryd.prog E glob 99 lex_KindOf.i lex_KindOf.p lex_KindOf.b (lex_KindOf.f k) :=
  fn_okZ (kindOf := kindOf) (C := lex_KindOf.ctx k) (n := (.pair .none (.pair .none (.pair .none (.pair (.cut 0) .none))))) (lex_KindOf.xOk k) Tryd.func99 lex_KindOf.hb (fits_of (l := [(0, (sub [1, 1, 1, 0] lex_KindOf.c))]) (by kernel_rfl) ⟨lex_KindOf.k0 k, trivial⟩) (fun _ => by kernel_rfl)
noncomputable def lex_KindOf.ent (k : Nat) : EntS κ := ⟨99, [], entOf lex_KindOf.i lex_KindOf.p lex_KindOf.b true (lex_KindOf.f k) E⟩
theorem lex_KindOf.entOk (k : Nat) : EntOk Tryd.prog E glob 99 (lex_KindOf.ent k).run := ent_free encOk (callable_of Tryd.func99 (by kernel_rfl) (by kernel_rfl)) (by rfl) trivial (lex_KindOf.call k)
noncomputable def lex_KindOf.qent (k : Nat) : QEntS κ := ⟨99, qentOf lex_KindOf.i lex_KindOf.p (lex_KindOf.f k) E⟩
theorem lex_KindOf.qentOk (k : Nat) : QEntOk Tryd.prog E glob 99 (lex_KindOf.qent k).run := qent_ok encOk (callable_of Tryd.func99 (by kernel_rfl) (by kernel_rfl)) (lex_KindOf.call k)
noncomputable def check_named.c : Go.Code := match Tryd.f82.body with | some c => c | none => .skip
theorem check_named.hb : Tryd.f82.body = some check_named.c := by kernel_rfl
noncomputable def check_named.x (k : Nat) (ls : List (LamS κ)) : Ctx κ := mkCtx [check_things.ent k, lex_KindOf.ent k] [lex_KindOf.qent k] ls
def check_named.i : List (Pat κ) := [.rop [.str, .ro .T42, .ro .T47, .ro .T110, .ro .T9, .ro .T9, .ro .T112, .ro .T98, .int .i64]]
def check_named.s1 : Sh κ := ⟨0, [3, 10, 11, 12], [.mp 0, .ro .T9, .int .i64, .int .i64], [.mp .T166]⟩
def check_named.s0 : Sh κ := ⟨0, [3, 5], [.mp 0, .str], [.mp .T166]⟩
def check_named.o0 : List (Ex × Sh κ) := [(.ret, ⟨1, [2], [.bool], [.mp .T166]⟩), (.normal, ⟨1, [3], [.mp 0], [.mp .T166]⟩)]
noncomputable def check_named.l0 (k : Nat) (t5 : ByteArray) (b0 : List S166) : Option ((Bool × Unit) × List Go.Am.Tryd.S166 × Unit ⊕ (Unit × Unit) × List Go.Am.Tryd.S166 × Unit) :=
    if Go.Am.mhas (fun x => Go.Am.MKey.s (Go.Am.Tryd.S166.f0 x)) b0 (Go.Am.MKey.s t5) = Bool.true then Option.some (Sum.inl ((Bool.false, ()), b0, ()))
    else
      Option.bind (Go.Am.Tryd.lex_KindOf k t5) fun r0 =>
        if (Prod.fst r0 != (1 : Int)) = Bool.true then Option.some (Sum.inl ((Bool.false, ()), b0, ())) else Option.some (Sum.inr (((), ()), b0, ()))
def check_named.w0 : List Nat := [18, 19, 20, 17, 21, 22, 6, 7, 23, 24, 25, 26, 27, 28, 2]
noncomputable def check_named.e0 (k : Nat) : check_named.s0.den → Option (OutT check_named.o0) := fun d => check_named.l0 k d.1.2.1 d.2.1
noncomputable def check_named.m0 (k : Nat) : LamS κ := ⟨lamK 39 check_named.w0 check_named.s0 check_named.o0 (check_named.e0 k)⟩
def check_named.o1 : List (Ex × Sh κ) := [(.ret, ⟨1, [2], [.bool], [.mp .T166]⟩), (.exit 0, ⟨1, [], [], [.mp .T166]⟩)]
noncomputable def check_named.l1 (k : Nat) : Nat → (List ByteArray) → Int → Int → (List S166) → Option ((Bool × Unit) × List Go.Am.Tryd.S166 × Unit ⊕ Unit × List Go.Am.Tryd.S166 × Unit)
  | 0, _, _, _, _ => none
  | j + 1, t10, t11, t12, b0 =>
    if Decidable.decide (t12 < t11) = Bool.true then
      if (0 : Int) ≤ t12 ∧ t12 < (↑(List.length t10) : Int) then
        Option.bind (Go.Am.Tryd.check_named.l0 k (List.getD t10 (Int.toNat t12) ByteArray.empty) b0) fun r0 =>
          Go.Am.onSum r0 (fun r1 => Option.some (Sum.inl ((Prod.fst (Prod.fst r1), ()), Prod.fst (Prod.snd r1), ()))) fun r1 =>
            check_named.l1 k j t10 t11 (Go.IntKind.wrap Go.IntKind.i64 (t12 + (1 : Int)))
              (Go.Am.mput (fun x => Go.Am.MKey.s (Go.Am.Tryd.S166.f0 x)) (Prod.fst (Prod.snd r1))
                (Go.Am.Tryd.S166.mk (List.getD t10 (Int.toNat t12) ByteArray.empty) t12))
      else Option.none
    else Option.some (Sum.inr ((), b0, ()))
def check_named.w1 : List Nat := [13, 14, 15, 16, 4, 5, 18, 19, 20, 17, 21, 22, 6, 7, 23, 24, 25, 26, 27, 28, 2, 29, 30, 31, 32, 12]
noncomputable def check_named.e1 (k j : Nat) : check_named.s1.den → Option (OutT check_named.o1) := fun d => check_named.l1 k j d.1.2.1 d.1.2.2.1 d.1.2.2.2.1 d.2.1
noncomputable def check_named.m1 (k : Nat) : LamS κ := ⟨lamK 39 check_named.w1 check_named.s1 check_named.o1 (check_named.e1 k k)⟩
def check_named.p : Pat κ := .bool
def check_named.b : List (BPat κ) := []
noncomputable def check_named (k : Nat) (t0 : ByteArray) (t0_1 : List S42) (t0_2 : List S47) (t0_3 : List S110) (t0_4 : List ByteArray) (t0_5 : List ByteArray) (t0_6 : List S112) (t0_7 : List S98) (t0_8 : Int) : Option (Bool × Unit) :=
    Option.bind (Go.Am.Tryd.check_things k t0 t0_1 t0_2 t0_3 t0_4 t0_5 t0_6 t0_7 t0_8) fun r0 =>
      Option.bind (Go.Am.Tryd.check_named.l1 k k (Prod.fst r0) (↑(List.length (Prod.fst r0)) : Int) (0 : Int) []) fun r1 =>
        Go.Am.onSum r1 (fun r2 => Option.some (Prod.fst (Prod.fst r2), ())) fun r2 =>
          Option.bind (Go.Am.Tryd.lex_KindOf k t0) fun r3 => Option.some (Prod.fst r3 == (1 : Int), ())
noncomputable def check_named.f (k : Nat) : dens check_named.i → Option (check_named.p.den × densB check_named.b) := fun d => check_named k d.1.1 d.1.2.1 d.1.2.2.1 d.1.2.2.2.1 d.1.2.2.2.2.1 d.1.2.2.2.2.2.1 d.1.2.2.2.2.2.2.1 d.1.2.2.2.2.2.2.2.1 d.1.2.2.2.2.2.2.2.2.1
noncomputable def check_named.ctx (k : Nat) : Ctx κ := check_named.x k [check_named.m0 k, check_named.m1 k]
theorem check_named.xOk (k : Nat) : (check_named.ctx k).Ok := ctxOk ⟨check_things.entOk k, lex_KindOf.entOk k, trivial⟩ ⟨lex_KindOf.qentOk k, trivial⟩
theorem check_named.k0 (k : Nat) : LamOk (check_named.ctx k) ((check_named.ctx k).Λ 0) (sub [1, 1, 0, 1, 0, 0, 1, 1, 0, 0, 1, 0] check_named.c) :=
  cut_ok (kindOf := kindOf) (C := check_named.ctx k) (n := .none) (L := check_named.e0 k) (check_named.xOk k) (by kernel_rfl) (by kernel_rfl) (fits_of (l := []) (by kernel_rfl) trivial) (fun _ => by kernel_rfl)
theorem check_named.k1 (k : Nat) : LamOk (check_named.ctx k) ((check_named.ctx k).Λ 1) (.loop (sub [1, 1, 0, 1, 0, 0] check_named.c)) :=
  loop_ok (kindOf := kindOf) (C := check_named.ctx k) (n := (.pair .none (.pair .none (.pair (.pair (.pair .none (.pair (.cut 0) .none)) .none) .none)))) (L := check_named.e1 k) (check_named.xOk k) (by kernel_rfl) (by kernel_rfl) (fits_of (l := [(0, (sub [1, 1, 0, 1, 0, 0, 1, 1, 0, 0, 1, 0] check_named.c))]) (by kernel_rfl) ⟨check_named.k0 k, trivial⟩) (fun _ => by kernel_rfl) (fun _ _ => by kernel_rfl) k
theorem check_named.call (k : Nat) : CallV Tryd.prog E glob 82 check_named.i check_named.p check_named.b (check_named.f k) :=
  fn_okZ (kindOf := kindOf) (C := check_named.ctx k) (n := (.pair .none (.pair .none (.pair (.pair .none (.pair (.cut 1) .none)) .none)))) (check_named.xOk k) Tryd.func82 check_named.hb (fits_of (l := [(1, .loop (sub [1, 1, 0, 1, 0, 0] check_named.c))]) (by kernel_rfl) ⟨check_named.k1 k, trivial⟩) (fun _ => by kernel_rfl)
noncomputable def check_named.ent (k : Nat) : EntS κ := ⟨82, [], entOf check_named.i check_named.p check_named.b true (check_named.f k) E⟩
theorem check_named.entOk (k : Nat) : EntOk Tryd.prog E glob 82 (check_named.ent k).run := ent_free encOk (callable_of Tryd.func82 (by kernel_rfl) (by kernel_rfl)) (by rfl) trivial (check_named.call k)
noncomputable def check_named.qent (k : Nat) : QEntS κ := ⟨82, qentOf check_named.i check_named.p (check_named.f k) E⟩
theorem check_named.qentOk (k : Nat) : QEntOk Tryd.prog E glob 82 (check_named.qent k).run := qent_ok encOk (callable_of Tryd.func82 (by kernel_rfl) (by kernel_rfl)) (check_named.call k)
noncomputable def check_nodes.c : Go.Code := match Tryd.f83.body with | some c => c | none => .skip
theorem check_nodes.hb : Tryd.f83.body = some check_nodes.c := by kernel_rfl
noncomputable def check_nodes.x (k : Nat) (ls : List (LamS κ)) : Ctx κ := mkCtx [] [] ls
def check_nodes.i : List (Pat κ) := [.agg [.str, .int .i64, .int .u64, .ro .T165, .ro .T165, .ro .T165, .ro .T95]]
def check_nodes.s1 : Sh κ := ⟨0, [3, 16, 17], [.int .i64, .agg [.ro .T165, .ro .T165, .ro .T165], .int .i64], []⟩
def check_nodes.s0 : Sh κ := ⟨0, [3, 20, 21, 22], [.int .i64, .ro .T165, .int .i64, .int .i64], []⟩
def check_nodes.o0 : List (Ex × Sh κ) := [(.exit 2, ⟨0, [3], [.int .i64], []⟩)]
noncomputable def check_nodes.l0 (k : Nat) : Nat → Int → (List S165) → Int → Int → Option ((Int × Unit) × Unit)
  | 0, _, _, _, _ => none
  | j + 1, t3, t20, t21, t22 =>
    if Decidable.decide (t22 < t21) = Bool.true then
      if (0 : Int) ≤ t22 ∧ t22 < (↑(List.length t20) : Int) then
        check_nodes.l0 k j
          (Go.IntKind.wrap Go.IntKind.i64
            (t3 +
              (↑(List.length (Go.Am.Tryd.S165.f3 (List.getD t20 (Int.toNat t22) (Go.Am.Tryd.S165.mk (0 : Int) ByteArray.empty (0 : Int) [] (0 : Int) (0 : Int))))) :
                Int)))
          t20 t21 (Go.IntKind.wrap Go.IntKind.i64 (t22 + (1 : Int)))
      else Option.none
    else Option.some ((t3, ()), ())
def check_nodes.w0 : List Nat := [23, 24, 25, 7, 26, 27, 28, 29, 30, 3, 31, 22]
noncomputable def check_nodes.e0 (k j : Nat) : check_nodes.s0.den → Option (OutT check_nodes.o0) := fun d => check_nodes.l0 k j d.1.1 d.1.2.1 d.1.2.2.1 d.1.2.2.2.1
noncomputable def check_nodes.m0 (k : Nat) : LamS κ := ⟨lamK 47 check_nodes.w0 check_nodes.s0 check_nodes.o0 (check_nodes.e0 k k)⟩
def check_nodes.o1 : List (Ex × Sh κ) := [(.exit 0, ⟨0, [3], [.int .i64], []⟩)]
noncomputable def check_nodes.l1 (k : Nat) : Nat → Int → (List S165) → (List S165) → (List S165) → Int → Option ((Int × Unit) × Unit)
  | 0, _, _, _, _, _ => none
  | j + 1, t3, t16, t16_1, t16_2, t17 =>
    if Decidable.decide (t17 < (3 : Int)) = Bool.true then
      if t17 = (↑(0 : Nat) : Int) then
        Option.bind (Go.Am.Tryd.check_nodes.l0 k k t3 t16 (↑(List.length t16) : Int) (0 : Int)) fun r2 =>
          check_nodes.l1 k j (Prod.fst (Prod.fst r2)) t16 t16_1 t16_2 (Go.IntKind.wrap Go.IntKind.i64 (t17 + (1 : Int)))
      else
        if t17 = (↑((0 : Nat) + (1 : Nat)) : Int) then
          Option.bind (Go.Am.Tryd.check_nodes.l0 k k t3 t16_1 (↑(List.length t16_1) : Int) (0 : Int)) fun r1 =>
            check_nodes.l1 k j (Prod.fst (Prod.fst r1)) t16 t16_1 t16_2 (Go.IntKind.wrap Go.IntKind.i64 (t17 + (1 : Int)))
        else
          if t17 = (↑((0 : Nat) + (1 : Nat) + (1 : Nat)) : Int) then
            Option.bind (Go.Am.Tryd.check_nodes.l0 k k t3 t16_2 (↑(List.length t16_2) : Int) (0 : Int)) fun r0 =>
              check_nodes.l1 k j (Prod.fst (Prod.fst r0)) t16 t16_1 t16_2 (Go.IntKind.wrap Go.IntKind.i64 (t17 + (1 : Int)))
          else Option.none
    else Option.some ((t3, ()), ())
def check_nodes.w1 : List Nat := [18, 19, 5, 20, 21, 22, 23, 24, 25, 7, 26, 27, 28, 29, 30, 3, 31, 32, 17]
noncomputable def check_nodes.e1 (k j : Nat) : check_nodes.s1.den → Option (OutT check_nodes.o1) := fun d => check_nodes.l1 k j d.1.1 d.1.2.1.1 d.1.2.1.2.1 d.1.2.1.2.2.1 d.1.2.2.1
noncomputable def check_nodes.m1 (k : Nat) : LamS κ := ⟨lamK 47 check_nodes.w1 check_nodes.s1 check_nodes.o1 (check_nodes.e1 k k)⟩
def check_nodes.s2 : Sh κ := ⟨0, [3, 34, 35, 36], [.int .i64, .ro .T95, .int .i64, .int .i64], []⟩
def check_nodes.o2 : List (Ex × Sh κ) := [(.exit 4, ⟨0, [3], [.int .i64], []⟩)]
noncomputable def check_nodes.l2 (k : Nat) : Nat → Int → (List S95) → Int → Int → Option ((Int × Unit) × Unit)
  | 0, _, _, _, _ => none
  | j + 1, t3, t34, t35, t36 =>
    if Decidable.decide (t36 < t35) = Bool.true then
      if (0 : Int) ≤ t36 ∧ t36 < (↑(List.length t34) : Int) then
        check_nodes.l2 k j (Go.IntKind.wrap Go.IntKind.i64 (t3 + (↑(List.length (Go.Am.Tryd.S95.f1 (List.getD t34 (Int.toNat t36) (Go.Am.Tryd.S95.mk (0 : Int) [])))) : Int))) t34
          t35 (Go.IntKind.wrap Go.IntKind.i64 (t36 + (1 : Int)))
      else Option.none
    else Option.some ((t3, ()), ())
def check_nodes.w2 : List Nat := [37, 38, 39, 9, 40, 41, 42, 43, 44, 3, 45, 36]
noncomputable def check_nodes.e2 (k j : Nat) : check_nodes.s2.den → Option (OutT check_nodes.o2) := fun d => check_nodes.l2 k j d.1.1 d.1.2.1 d.1.2.2.1 d.1.2.2.2.1
noncomputable def check_nodes.m2 (k : Nat) : LamS κ := ⟨lamK 47 check_nodes.w2 check_nodes.s2 check_nodes.o2 (check_nodes.e2 k k)⟩
def check_nodes.p : Pat κ := .int .i64
def check_nodes.b : List (BPat κ) := []
noncomputable def check_nodes (k : Nat) (t0 : ByteArray) (t0_1 : Int) (t0_2 : Int) (t0_3 : List S165) (t0_4 : List S165) (t0_5 : List S165) (t0_6 : List S95) : Option (Int × Unit) :=
    Option.bind (Go.Am.Tryd.check_nodes.l1 k k (0 : Int) t0_3 t0_4 t0_5 (0 : Int)) fun r0 =>
      Option.bind (Go.Am.Tryd.check_nodes.l2 k k (Prod.fst (Prod.fst r0)) t0_6 (↑(List.length t0_6) : Int) (0 : Int)) fun r1 =>
        Option.some (Prod.fst (Prod.fst r1), ())
noncomputable def check_nodes.f (k : Nat) : dens check_nodes.i → Option (check_nodes.p.den × densB check_nodes.b) := fun d => check_nodes k d.1.1 d.1.2.1 d.1.2.2.1 d.1.2.2.2.1 d.1.2.2.2.2.1 d.1.2.2.2.2.2.1 d.1.2.2.2.2.2.2.1
noncomputable def check_nodes.ctx (k : Nat) : Ctx κ := check_nodes.x k [check_nodes.m0 k, check_nodes.m1 k, check_nodes.m2 k]
theorem check_nodes.xOk (k : Nat) : (check_nodes.ctx k).Ok := ctxOk trivial trivial
theorem check_nodes.k0 (k : Nat) : LamOk (check_nodes.ctx k) ((check_nodes.ctx k).Λ 0) (.loop (sub [1, 1, 0, 1, 0, 0, 1, 1, 0, 0, 1, 1, 0, 0] check_nodes.c)) :=
  loop_ok (kindOf := kindOf) (C := check_nodes.ctx k) (n := .none) (L := check_nodes.e0 k) (check_nodes.xOk k) (by kernel_rfl) (by kernel_rfl) (fits_of (l := []) (by kernel_rfl) trivial) (fun _ => by kernel_rfl) (fun _ _ => by kernel_rfl) k
theorem check_nodes.k1 (k : Nat) : LamOk (check_nodes.ctx k) ((check_nodes.ctx k).Λ 1) (.loop (sub [1, 1, 0, 1, 0, 0] check_nodes.c)) :=
  loop_ok (kindOf := kindOf) (C := check_nodes.ctx k) (n := (.pair .none (.pair .none (.pair (.pair (.pair .none (.pair .none (.pair (.cut 0) .none))) .none) .none)))) (L := check_nodes.e1 k) (check_nodes.xOk k) (by kernel_rfl) (by kernel_rfl) (fits_of (l := [(0, .loop (sub [1, 1, 0, 1, 0, 0, 1, 1, 0, 0, 1, 1, 0, 0] check_nodes.c))]) (by kernel_rfl) ⟨check_nodes.k0 k, trivial⟩) (fun _ => by kernel_rfl) (fun _ _ => by kernel_rfl) k
theorem check_nodes.k2 (k : Nat) : LamOk (check_nodes.ctx k) ((check_nodes.ctx k).Λ 2) (.loop (sub [1, 1, 1, 0, 1, 0, 0] check_nodes.c)) :=
  loop_ok (kindOf := kindOf) (C := check_nodes.ctx k) (n := .none) (L := check_nodes.e2 k) (check_nodes.xOk k) (by kernel_rfl) (by kernel_rfl) (fits_of (l := []) (by kernel_rfl) trivial) (fun _ => by kernel_rfl) (fun _ _ => by kernel_rfl) k
theorem check_nodes.call (k : Nat) : CallV Tryd.prog E glob 83 check_nodes.i check_nodes.p check_nodes.b (check_nodes.f k) :=
  fn_okZ (kindOf := kindOf) (C := check_nodes.ctx k) (n := (.pair (.ops [0] 0) (.pair .none (.pair (.pair .none (.pair (.cut 1) .none)) (.pair (.pair .none (.pair (.cut 2) .none)) .none))))) (check_nodes.xOk k) Tryd.func83 check_nodes.hb (fits_of (l := [(1, .loop (sub [1, 1, 0, 1, 0, 0] check_nodes.c)), (2, .loop (sub [1, 1, 1, 0, 1, 0, 0] check_nodes.c))]) (by kernel_rfl) ⟨check_nodes.k1 k, check_nodes.k2 k, trivial⟩) (fun _ => by kernel_rfl)
noncomputable def check_nodes.ent (k : Nat) : EntS κ := ⟨83, [], entOf check_nodes.i check_nodes.p check_nodes.b true (check_nodes.f k) E⟩
theorem check_nodes.entOk (k : Nat) : EntOk Tryd.prog E glob 83 (check_nodes.ent k).run := ent_free encOk (callable_of Tryd.func83 (by kernel_rfl) (by kernel_rfl)) (by rfl) trivial (check_nodes.call k)
noncomputable def check_nodes.qent (k : Nat) : QEntS κ := ⟨83, qentOf check_nodes.i check_nodes.p (check_nodes.f k) E⟩
theorem check_nodes.qentOk (k : Nat) : QEntOk Tryd.prog E glob 83 (check_nodes.qent k).run := qent_ok encOk (callable_of Tryd.func83 (by kernel_rfl) (by kernel_rfl)) (check_nodes.call k)
noncomputable def arith_Arity.c : Go.Code := match Tryd.f131.body with | some c => c | none => .skip
theorem arith_Arity.hb : Tryd.f131.body = some arith_Arity.c := by kernel_rfl
noncomputable def arith_Arity.x (k : Nat) (ls : List (LamS κ)) : Ctx κ := mkCtx [] [] ls
def arith_Arity.i : List (Pat κ) := [.int .i64]
def arith_Arity.s0 : Sh κ := ⟨0, [0], [.int .i64], []⟩
def arith_Arity.o0 : List (Ex × Sh κ) := [(.normal, ⟨0, [3], [.bool], []⟩)]
noncomputable def arith_Arity.l0 (k : Nat) (t0 : Int) : Option ((Bool × Unit) × Unit) :=
    if Decidable.decide (t0 ≥ (1 : Int)) = Bool.true then Option.some ((Decidable.decide (t0 ≤ (10 : Int)), ()), ()) else Option.some ((Bool.false, ()), ())
def arith_Arity.w0 : List Nat := [4, 5, 6, 7, 8, 9, 3]
noncomputable def arith_Arity.e0 (k : Nat) : arith_Arity.s0.den → Option (OutT arith_Arity.o0) := fun d => arith_Arity.l0 k d.1.1
noncomputable def arith_Arity.m0 (k : Nat) : LamS κ := ⟨lamK 26 arith_Arity.w0 arith_Arity.s0 arith_Arity.o0 (arith_Arity.e0 k)⟩
def arith_Arity.s1 : Sh κ := ⟨0, [0], [.int .i64], []⟩
def arith_Arity.o1 : List (Ex × Sh κ) := [(.normal, ⟨0, [10], [.bool], []⟩)]
noncomputable def arith_Arity.l1 (k : Nat) (t0 : Int) : Option ((Bool × Unit) × Unit) :=
    if Decidable.decide (t0 ≥ (0 : Int)) = Bool.true then
      if Decidable.decide (t0 < (52 : Int)) = Bool.true then
        if (0 : Int) ≤ t0 ∧ t0 < (↑(52 : Nat) : Int) then Option.some ((Decidable.decide (List.getD Go.Am.Tryd.tab6 (Int.toNat t0) (0 : Int) > (0 : Int)), ()), ())
        else Option.none
      else Option.some ((Bool.false, ()), ())
    else Option.some ((Bool.false, ()), ())
def arith_Arity.w1 : List Nat := [11, 12, 13, 14, 15, 16, 17, 18, 19, 20, 21, 22, 10]
noncomputable def arith_Arity.e1 (k : Nat) : arith_Arity.s1.den → Option (OutT arith_Arity.o1) := fun d => arith_Arity.l1 k d.1.1
noncomputable def arith_Arity.m1 (k : Nat) : LamS κ := ⟨lamK 26 arith_Arity.w1 arith_Arity.s1 arith_Arity.o1 (arith_Arity.e1 k)⟩
def arith_Arity.p : Pat κ := .int .i64
def arith_Arity.b : List (BPat κ) := []
noncomputable def arith_Arity (k : Nat) (t0 : Int) : Option (Int × Unit) :=
    Option.bind (Go.Am.Tryd.arith_Arity.l0 k t0) fun r0 =>
      if Prod.fst (Prod.fst r0) = Bool.true then Option.some ((0 : Int), ())
      else
        Option.bind (Go.Am.Tryd.arith_Arity.l1 k t0) fun r1 =>
          if Prod.fst (Prod.fst r1) = Bool.true then
            if (0 : Int) ≤ t0 ∧ t0 < (↑(52 : Nat) : Int) then Option.some (List.getD Go.Am.Tryd.tab6 (Int.toNat t0) (0 : Int), ()) else Option.none
          else Option.some ((-1 : Int), ())
noncomputable def arith_Arity.f (k : Nat) : dens arith_Arity.i → Option (arith_Arity.p.den × densB arith_Arity.b) := fun d => arith_Arity k d.1
noncomputable def arith_Arity.ctx (k : Nat) : Ctx κ := arith_Arity.x k [arith_Arity.m0 k, arith_Arity.m1 k]
theorem arith_Arity.xOk (k : Nat) : (arith_Arity.ctx k).Ok := ctxOk trivial trivial
theorem arith_Arity.k0 (k : Nat) : LamOk (arith_Arity.ctx k) ((arith_Arity.ctx k).Λ 0) (sub [1, 0, 0, 0] arith_Arity.c) :=
  cut_ok (kindOf := kindOf) (C := arith_Arity.ctx k) (n := .none) (L := arith_Arity.e0 k) (arith_Arity.xOk k) (by kernel_rfl) (by kernel_rfl) (fits_of (l := []) (by kernel_rfl) trivial) (fun _ => by kernel_rfl)
theorem arith_Arity.k1 (k : Nat) : LamOk (arith_Arity.ctx k) ((arith_Arity.ctx k).Λ 1) (sub [1, 0, 0, 1, 1, 0] arith_Arity.c) :=
  cut_ok (kindOf := kindOf) (C := arith_Arity.ctx k) (n := .none) (L := arith_Arity.e1 k) (arith_Arity.xOk k) (by kernel_rfl) (by kernel_rfl) (fits_of (l := []) (by kernel_rfl) trivial) (fun _ => by kernel_rfl)
theorem arith_Arity.call (k : Nat) : CallV Tryd.prog E glob 131 arith_Arity.i arith_Arity.p arith_Arity.b (arith_Arity.f k) :=
  fn_okZ (kindOf := kindOf) (C := arith_Arity.ctx k) (n := (.pair .none (.pair (.pair (.pair (.cut 0) (.pair .none (.pair (.cut 1) .none))) .none) .none))) (arith_Arity.xOk k) Tryd.func131 arith_Arity.hb (fits_of (l := [(0, (sub [1, 0, 0, 0] arith_Arity.c)), (1, (sub [1, 0, 0, 1, 1, 0] arith_Arity.c))]) (by kernel_rfl) ⟨arith_Arity.k0 k, arith_Arity.k1 k, trivial⟩) (fun _ => by kernel_rfl)
noncomputable def arith_Arity.ent (k : Nat) : EntS κ := ⟨131, [], entOf arith_Arity.i arith_Arity.p arith_Arity.b true (arith_Arity.f k) E⟩
theorem arith_Arity.entOk (k : Nat) : EntOk Tryd.prog E glob 131 (arith_Arity.ent k).run := ent_free encOk (callable_of Tryd.func131 (by kernel_rfl) (by kernel_rfl)) (by rfl) trivial (arith_Arity.call k)
noncomputable def arith_Arity.qent (k : Nat) : QEntS κ := ⟨131, qentOf arith_Arity.i arith_Arity.p (arith_Arity.f k) E⟩
theorem arith_Arity.qentOk (k : Nat) : QEntOk Tryd.prog E glob 131 (arith_Arity.qent k).run := qent_ok encOk (callable_of Tryd.func131 (by kernel_rfl) (by kernel_rfl)) (arith_Arity.call k)
noncomputable def tree_Span.c : Go.Code := match Tryd.f113.body with | some c => c | none => .skip
theorem tree_Span.hb : Tryd.f113.body = some tree_Span.c := by kernel_rfl
noncomputable def tree_Span.x (k : Nat) (ls : List (LamS κ)) : Ctx κ := mkCtx [arith_Arity.ent k] [arith_Arity.qent k] ls
def tree_Span.i : List (Pat κ) := [.ro .T120, .int .i64]
def tree_Span.s0 : Sh κ := ⟨0, [0, 1], [.ro .T120, .int .i64], []⟩
def tree_Span.o0 : List (Ex × Sh κ) := [(.ret, ⟨0, [4], [.int .i64], []⟩), (.normal, ⟨0, [], [], []⟩)]
noncomputable def tree_Span.l0 (k : Nat) (t0 : List S120) (t1 : Int) : Option ((Int × Unit) × Unit ⊕ Unit × Unit) :=
    if Decidable.decide (t1 < (0 : Int)) = Bool.false then
      if Decidable.decide (t1 ≥ (↑(List.length t0) : Int)) = Bool.true then Option.some (Sum.inl (((-1 : Int), ()), ())) else Option.some (Sum.inr ((), ()))
    else Option.some (Sum.inl (((-1 : Int), ()), ()))
def tree_Span.w0 : List Nat := [8, 9, 10, 11, 12, 13, 14, 15, 4]
noncomputable def tree_Span.e0 (k : Nat) : tree_Span.s0.den → Option (OutT tree_Span.o0) := fun d => tree_Span.l0 k d.1.1 d.1.2.1
noncomputable def tree_Span.m0 (k : Nat) : LamS κ := ⟨lamK 36 tree_Span.w0 tree_Span.s0 tree_Span.o0 (tree_Span.e0 k)⟩
def tree_Span.s1 : Sh κ := ⟨0, [0, 5, 6], [.ro .T120, .int .i64, .int .i64], []⟩
def tree_Span.o1 : List (Ex × Sh κ) := [(.ret, ⟨0, [4], [.int .i64], []⟩), (.exit 0, ⟨0, [], [], []⟩)]
noncomputable def tree_Span.l1 (k : Nat) : Nat → (List S120) → Int → Int → Option ((Int × Unit) × Unit ⊕ Unit × Unit)
  | 0, _, _, _ => none
  | j + 1, t0, t5, t6 =>
    if Decidable.decide (t6 ≥ (0 : Int)) = Bool.true then
      if (0 : Int) ≤ t6 ∧ t6 < (↑(List.length t0) : Int) then
        Option.bind
          (Go.Am.Tryd.arith_Arity k (Go.Am.Tryd.S120.f0 (List.getD t0 (Int.toNat t6) (Go.Am.Tryd.S120.mk (0 : Int) (0 : Int) ByteArray.empty (0 : Int) (0 : Int)))))
          fun r0 =>
          if Decidable.decide (Prod.fst r0 < (0 : Int)) = Bool.true then Option.some (Sum.inl (((-1 : Int), ()), ()))
          else
            if (Go.IntKind.wrap Go.IntKind.i64 (t5 + Go.IntKind.wrap Go.IntKind.i64 (Prod.fst r0 - (1 : Int))) == (0 : Int)) = Bool.true then
              Option.some (Sum.inl ((t6, ()), ()))
            else
              tree_Span.l1 k j t0 (Go.IntKind.wrap Go.IntKind.i64 (t5 + Go.IntKind.wrap Go.IntKind.i64 (Prod.fst r0 - (1 : Int))))
                (Go.IntKind.wrap Go.IntKind.i64 (t6 - (1 : Int)))
      else Option.none
    else Option.some (Sum.inr ((), ()))
def tree_Span.w1 : List Nat := [17, 18, 21, 22, 23, 24, 25, 26, 7, 27, 28, 4, 29, 30, 31, 32, 5, 33, 34, 35, 19, 20, 6]
noncomputable def tree_Span.e1 (k j : Nat) : tree_Span.s1.den → Option (OutT tree_Span.o1) := fun d => tree_Span.l1 k j d.1.1 d.1.2.1 d.1.2.2.1
noncomputable def tree_Span.m1 (k : Nat) : LamS κ := ⟨lamK 36 tree_Span.w1 tree_Span.s1 tree_Span.o1 (tree_Span.e1 k k)⟩
def tree_Span.p : Pat κ := .int .i64
def tree_Span.b : List (BPat κ) := []
noncomputable def tree_Span (k : Nat) (t0 : List S120) (t1 : Int) : Option (Int × Unit) :=
    Option.bind (Go.Am.Tryd.tree_Span.l0 k t0 t1) fun r0 =>
      Go.Am.onSum r0 (fun r1 => Option.some (Prod.fst (Prod.fst r1), ())) fun r1 =>
        Option.bind (Go.Am.Tryd.tree_Span.l1 k k t0 (1 : Int) t1) fun r2 =>
          Go.Am.onSum r2 (fun r3 => Option.some (Prod.fst (Prod.fst r3), ())) fun r3 => Option.some ((-1 : Int), ())
noncomputable def tree_Span.f (k : Nat) : dens tree_Span.i → Option (tree_Span.p.den × densB tree_Span.b) := fun d => tree_Span k d.1 d.2.1
noncomputable def tree_Span.ctx (k : Nat) : Ctx κ := tree_Span.x k [tree_Span.m0 k, tree_Span.m1 k]
theorem tree_Span.xOk (k : Nat) : (tree_Span.ctx k).Ok := ctxOk ⟨arith_Arity.entOk k, trivial⟩ ⟨arith_Arity.qentOk k, trivial⟩
theorem tree_Span.k0 (k : Nat) : LamOk (tree_Span.ctx k) ((tree_Span.ctx k).Λ 0) (sub [1, 0] tree_Span.c) :=
  cut_ok (kindOf := kindOf) (C := tree_Span.ctx k) (n := .none) (L := tree_Span.e0 k) (tree_Span.xOk k) (by kernel_rfl) (by kernel_rfl) (fits_of (l := []) (by kernel_rfl) trivial) (fun _ => by kernel_rfl)
theorem tree_Span.k1 (k : Nat) : LamOk (tree_Span.ctx k) ((tree_Span.ctx k).Λ 1) (.loop (sub [1, 1, 1, 0, 1, 0, 0] tree_Span.c)) :=
  loop_ok (kindOf := kindOf) (C := tree_Span.ctx k) (n := .none) (L := tree_Span.e1 k) (tree_Span.xOk k) (by kernel_rfl) (by kernel_rfl) (fits_of (l := []) (by kernel_rfl) trivial) (fun _ => by kernel_rfl) (fun _ _ => by kernel_rfl) k
theorem tree_Span.call (k : Nat) : CallV Tryd.prog E glob 113 tree_Span.i tree_Span.p tree_Span.b (tree_Span.f k) :=
  fn_okZ (kindOf := kindOf) (C := tree_Span.ctx k) (n := (.pair .none (.pair (.cut 0) (.pair .none (.pair (.pair .none (.pair (.cut 1) .none)) .none))))) (tree_Span.xOk k) Tryd.func113 tree_Span.hb (fits_of (l := [(0, (sub [1, 0] tree_Span.c)), (1, .loop (sub [1, 1, 1, 0, 1, 0, 0] tree_Span.c))]) (by kernel_rfl) ⟨tree_Span.k0 k, tree_Span.k1 k, trivial⟩) (fun _ => by kernel_rfl)
noncomputable def tree_Span.ent (k : Nat) : EntS κ := ⟨113, [], entOf tree_Span.i tree_Span.p tree_Span.b true (tree_Span.f k) E⟩
theorem tree_Span.entOk (k : Nat) : EntOk Tryd.prog E glob 113 (tree_Span.ent k).run := ent_free encOk (callable_of Tryd.func113 (by kernel_rfl) (by kernel_rfl)) (by rfl) trivial (tree_Span.call k)
noncomputable def tree_Span.qent (k : Nat) : QEntS κ := ⟨113, qentOf tree_Span.i tree_Span.p (tree_Span.f k) E⟩
theorem tree_Span.qentOk (k : Nat) : QEntOk Tryd.prog E glob 113 (tree_Span.qent k).run := qent_ok encOk (callable_of Tryd.func113 (by kernel_rfl) (by kernel_rfl)) (tree_Span.call k)
noncomputable def tree_level.c : Go.Code := match Tryd.f133.body with | some c => c | none => .skip
theorem tree_level.hb : Tryd.f133.body = some tree_level.c := by kernel_rfl
noncomputable def tree_level.x (k : Nat) (ls : List (LamS κ)) : Ctx κ := mkCtx [] [] ls
def tree_level.i : List (Pat κ) := [.int .i64]
def tree_level.s0 : Sh κ := ⟨0, [0], [.int .i64], []⟩
def tree_level.o0 : List (Ex × Sh κ) := [(.normal, ⟨0, [12], [.bool], []⟩)]
noncomputable def tree_level.l0 (k : Nat) (t0 : Int) : Option ((Bool × Unit) × Unit) :=
    if Decidable.decide (t0 ≥ (40 : Int)) = Bool.true then Option.some ((Decidable.decide (t0 ≤ (45 : Int)), ()), ()) else Option.some ((Bool.false, ()), ())
def tree_level.w0 : List Nat := [13, 14, 15, 16, 17, 18, 12]
noncomputable def tree_level.e0 (k : Nat) : tree_level.s0.den → Option (OutT tree_level.o0) := fun d => tree_level.l0 k d.1.1
noncomputable def tree_level.m0 (k : Nat) : LamS κ := ⟨lamK 40 tree_level.w0 tree_level.s0 tree_level.o0 (tree_level.e0 k)⟩
def tree_level.s1 : Sh κ := ⟨0, [0], [.int .i64], []⟩
def tree_level.o1 : List (Ex × Sh κ) := [(.normal, ⟨0, [19], [.bool], []⟩)]
noncomputable def tree_level.l1 (k : Nat) (t0 : Int) : Option ((Bool × Unit) × Unit) :=
    if (t0 == (30 : Int)) = Bool.false then Option.some ((t0 == (31 : Int), ()), ()) else Option.some ((Bool.true, ()), ())
def tree_level.w1 : List Nat := [20, 21, 22, 23, 24, 25, 19]
noncomputable def tree_level.e1 (k : Nat) : tree_level.s1.den → Option (OutT tree_level.o1) := fun d => tree_level.l1 k d.1.1
noncomputable def tree_level.m1 (k : Nat) : LamS κ := ⟨lamK 40 tree_level.w1 tree_level.s1 tree_level.o1 (tree_level.e1 k)⟩
def tree_level.s2 : Sh κ := ⟨0, [0], [.int .i64], []⟩
def tree_level.o2 : List (Ex × Sh κ) := [(.normal, ⟨0, [26], [.bool], []⟩)]
noncomputable def tree_level.l2 (k : Nat) (t0 : Int) : Option ((Bool × Unit) × Unit) :=
    if (t0 == (32 : Int)) = Bool.false then if (t0 == (33 : Int)) = Bool.false then Option.some ((t0 == (34 : Int), ()), ()) else Option.some ((Bool.true, ()), ())
    else Option.some ((Bool.true, ()), ())
def tree_level.w2 : List Nat := [27, 28, 29, 30, 31, 32, 33, 34, 35, 36, 26]
noncomputable def tree_level.e2 (k : Nat) : tree_level.s2.den → Option (OutT tree_level.o2) := fun d => tree_level.l2 k d.1.1
noncomputable def tree_level.m2 (k : Nat) : LamS κ := ⟨lamK 40 tree_level.w2 tree_level.s2 tree_level.o2 (tree_level.e2 k)⟩
def tree_level.p : Pat κ := .int .i64
def tree_level.b : List (BPat κ) := []
noncomputable def tree_level (k : Nat) (t0 : Int) : Option (Int × Unit) :=
    if (t0 == (51 : Int)) = Bool.true then Option.some ((1 : Int), ())
    else
      if (t0 == (50 : Int)) = Bool.true then Option.some ((2 : Int), ())
      else
        if (t0 == (21 : Int)) = Bool.true then Option.some ((3 : Int), ())
        else
          Option.bind (Go.Am.Tryd.tree_level.l0 k t0) fun r0 =>
            if Prod.fst (Prod.fst r0) = Bool.true then Option.some ((4 : Int), ())
            else
              Option.bind (Go.Am.Tryd.tree_level.l1 k t0) fun r1 =>
                if Prod.fst (Prod.fst r1) = Bool.true then Option.some ((5 : Int), ())
                else
                  Option.bind (Go.Am.Tryd.tree_level.l2 k t0) fun r2 =>
                    if Prod.fst (Prod.fst r2) = Bool.true then Option.some ((6 : Int), ())
                    else if (t0 == (20 : Int)) = Bool.true then Option.some ((7 : Int), ()) else Option.some ((8 : Int), ())
noncomputable def tree_level.f (k : Nat) : dens tree_level.i → Option (tree_level.p.den × densB tree_level.b) := fun d => tree_level k d.1
noncomputable def tree_level.ctx (k : Nat) : Ctx κ := tree_level.x k [tree_level.m0 k, tree_level.m1 k, tree_level.m2 k]
theorem tree_level.xOk (k : Nat) : (tree_level.ctx k).Ok := ctxOk trivial trivial
theorem tree_level.k0 (k : Nat) : LamOk (tree_level.ctx k) ((tree_level.ctx k).Λ 0) (sub [1, 0, 0, 1, 1, 1, 1, 1, 1, 0] tree_level.c) :=
  cut_ok (kindOf := kindOf) (C := tree_level.ctx k) (n := .none) (L := tree_level.e0 k) (tree_level.xOk k) (by kernel_rfl) (by kernel_rfl) (fits_of (l := []) (by kernel_rfl) trivial) (fun _ => by kernel_rfl)
theorem tree_level.k1 (k : Nat) : LamOk (tree_level.ctx k) ((tree_level.ctx k).Λ 1) (sub [1, 0, 0, 1, 1, 1, 1, 1, 1, 1, 1, 0] tree_level.c) :=
  cut_ok (kindOf := kindOf) (C := tree_level.ctx k) (n := .none) (L := tree_level.e1 k) (tree_level.xOk k) (by kernel_rfl) (by kernel_rfl) (fits_of (l := []) (by kernel_rfl) trivial) (fun _ => by kernel_rfl)
theorem tree_level.k2 (k : Nat) : LamOk (tree_level.ctx k) ((tree_level.ctx k).Λ 2) (sub [1, 0, 0, 1, 1, 1, 1, 1, 1, 1, 1, 1, 1, 0] tree_level.c) :=
  cut_ok (kindOf := kindOf) (C := tree_level.ctx k) (n := .none) (L := tree_level.e2 k) (tree_level.xOk k) (by kernel_rfl) (by kernel_rfl) (fits_of (l := []) (by kernel_rfl) trivial) (fun _ => by kernel_rfl)
theorem tree_level.call (k : Nat) : CallV Tryd.prog E glob 133 tree_level.i tree_level.p tree_level.b (tree_level.f k) :=
  fn_okZ (kindOf := kindOf) (C := tree_level.ctx k) (n := (.pair .none (.pair (.pair (.pair .none (.pair .none (.pair .none (.pair .none (.pair .none (.pair .none (.pair (.cut 0) (.pair .none (.pair (.cut 1) (.pair .none (.pair (.cut 2) .none))))))))))) .none) .none))) (tree_level.xOk k) Tryd.func133 tree_level.hb (fits_of (l := [(0, (sub [1, 0, 0, 1, 1, 1, 1, 1, 1, 0] tree_level.c)), (1, (sub [1, 0, 0, 1, 1, 1, 1, 1, 1, 1, 1, 0] tree_level.c)), (2, (sub [1, 0, 0, 1, 1, 1, 1, 1, 1, 1, 1, 1, 1, 0] tree_level.c))]) (by kernel_rfl) ⟨tree_level.k0 k, tree_level.k1 k, tree_level.k2 k, trivial⟩) (fun _ => by kernel_rfl)
noncomputable def tree_level.ent (k : Nat) : EntS κ := ⟨133, [], entOf tree_level.i tree_level.p tree_level.b true (tree_level.f k) E⟩
theorem tree_level.entOk (k : Nat) : EntOk Tryd.prog E glob 133 (tree_level.ent k).run := ent_free encOk (callable_of Tryd.func133 (by kernel_rfl) (by kernel_rfl)) (by rfl) trivial (tree_level.call k)
noncomputable def tree_level.qent (k : Nat) : QEntS κ := ⟨133, qentOf tree_level.i tree_level.p (tree_level.f k) E⟩
theorem tree_level.qentOk (k : Nat) : QEntOk Tryd.prog E glob 133 (tree_level.qent k).run := qent_ok encOk (callable_of Tryd.func133 (by kernel_rfl) (by kernel_rfl)) (tree_level.call k)
noncomputable def tree_asks.c : Go.Code := match Tryd.f132.body with | some c => c | none => .skip
theorem tree_asks.hb : Tryd.f132.body = some tree_asks.c := by kernel_rfl
noncomputable def tree_asks.x (k : Nat) (ls : List (LamS κ)) : Ctx κ := mkCtx [tree_level.ent k] [tree_level.qent k] ls
def tree_asks.i : List (Pat κ) := [.int .i64]
def tree_asks.s2 : Sh κ := ⟨0, [0, 2], [.int .i64, .ptr 0 0], [.raw 103 [.int .i64, .int .i64]]⟩
def tree_asks.s0 : Sh κ := ⟨0, [0], [.int .i64], []⟩
def tree_asks.o0 : List (Ex × Sh κ) := [(.normal, ⟨0, [3], [.bool], []⟩)]
noncomputable def tree_asks.l0 (k : Nat) (t0 : Int) : Option ((Bool × Unit) × Unit) :=
    if (t0 == (21 : Int)) = Bool.false then Option.some ((t0 == (20 : Int), ()), ()) else Option.some ((Bool.true, ()), ())
def tree_asks.w0 : List Nat := [4, 5, 6, 7, 8, 9, 3]
noncomputable def tree_asks.e0 (k : Nat) : tree_asks.s0.den → Option (OutT tree_asks.o0) := fun d => tree_asks.l0 k d.1.1
noncomputable def tree_asks.m0 (k : Nat) : LamS κ := ⟨lamK 39 tree_asks.w0 tree_asks.s0 tree_asks.o0 (tree_asks.e0 k)⟩
def tree_asks.s1 : Sh κ := ⟨0, [0], [.int .i64], []⟩
def tree_asks.o1 : List (Ex × Sh κ) := [(.normal, ⟨0, [13], [.bool], []⟩)]
noncomputable def tree_asks.l1 (k : Nat) (t0 : Int) : Option ((Bool × Unit) × Unit) :=
    if Decidable.decide (t0 ≥ (40 : Int)) = Bool.true then Option.some ((Decidable.decide (t0 ≤ (45 : Int)), ()), ()) else Option.some ((Bool.false, ()), ())
def tree_asks.w1 : List Nat := [14, 15, 16, 17, 18, 19, 13]
noncomputable def tree_asks.e1 (k : Nat) : tree_asks.s1.den → Option (OutT tree_asks.o1) := fun d => tree_asks.l1 k d.1.1
noncomputable def tree_asks.m1 (k : Nat) : LamS κ := ⟨lamK 39 tree_asks.w1 tree_asks.s1 tree_asks.o1 (tree_asks.e1 k)⟩
def tree_asks.o2 : List (Ex × Sh κ) := [(.ret, ⟨1, [2], [.ptr 0 0], [.raw 103 [.int .i64, .int .i64]]⟩), (.normal, ⟨1, [2], [.ptr 0 0], [.raw 103 [.int .i64, .int .i64]]⟩)]
noncomputable def tree_asks.l2 (k : Nat) (t0 : Int) (b0 : Int) (b0_1 : Int) : Option ((Unit × Unit) × (Int × Int × Unit) × Unit ⊕ (Unit × Unit) × (Int × Int × Unit) × Unit) :=
    Option.bind (Go.Am.Tryd.tree_asks.l0 k t0) fun r0 =>
      if Prod.fst (Prod.fst r0) = Bool.true then
        Option.bind (Go.Am.Tryd.tree_level k t0) fun r1 => Option.some (Sum.inl (((), ()), (Prod.fst r1, (0 : Int), ()), ()))
      else
        Option.bind (Go.Am.Tryd.tree_asks.l1 k t0) fun r2 =>
          if Prod.fst (Prod.fst r2) = Bool.true then Option.some (Sum.inl (((), ()), ((5 : Int), (5 : Int), ()), ()))
          else
            if (t0 == (22 : Int)) = Bool.false then
              if (t0 == (35 : Int)) = Bool.false then
                if (t0 == (36 : Int)) = Bool.true then Option.some (Sum.inl (((), ()), ((1 : Int), (1 : Int), ()), ()))
                else Option.some (Sum.inr (((), ()), (b0, b0_1, ()), ()))
              else Option.some (Sum.inl (((), ()), ((1 : Int), (1 : Int), ()), ()))
            else Option.some (Sum.inl (((), ()), ((1 : Int), (1 : Int), ()), ()))
def tree_asks.w2 : List Nat := [4, 5, 6, 7, 8, 9, 3, 10, 11, 12, 14, 15, 16, 17, 18, 19, 13, 20, 22, 23, 24, 25, 26, 27, 28, 29, 30, 31, 21, 32]
noncomputable def tree_asks.e2 (k : Nat) : tree_asks.s2.den → Option (OutT tree_asks.o2) := fun d => tree_asks.l2 k d.1.1 d.2.1.1 d.2.1.2.1
noncomputable def tree_asks.m2 (k : Nat) : LamS κ := ⟨lamK 39 tree_asks.w2 tree_asks.s2 tree_asks.o2 (tree_asks.e2 k)⟩
def tree_asks.p : Pat κ := .agg [.int .i64, .int .i64]
def tree_asks.b : List (BPat κ) := []
noncomputable def tree_asks (k : Nat) (t0 : Int) : Option ((Int × Int × Unit) × Unit) :=
    Option.bind (Go.Am.Tryd.tree_asks.l2 k t0 (0 : Int) (0 : Int)) fun r0 =>
      Go.Am.onSum r0 (fun r1 => Option.some ((Prod.fst (Prod.fst (Prod.snd r1)), Prod.fst (Prod.snd (Prod.fst (Prod.snd r1))), ()), ())) fun r1 =>
        Option.bind (Go.Am.Tryd.tree_level k t0) fun r2 =>
          Option.bind (Go.Am.Tryd.tree_level k t0) fun r3 => Option.some ((Prod.fst r2, Go.IntKind.wrap Go.IntKind.i64 (Prod.fst r3 + (1 : Int)), ()), ())
noncomputable def tree_asks.f (k : Nat) : dens tree_asks.i → Option (tree_asks.p.den × densB tree_asks.b) := fun d => tree_asks k d.1
noncomputable def tree_asks.ctx (k : Nat) : Ctx κ := tree_asks.x k [tree_asks.m0 k, tree_asks.m1 k, tree_asks.m2 k]
theorem tree_asks.xOk (k : Nat) : (tree_asks.ctx k).Ok := ctxOk ⟨tree_level.entOk k, trivial⟩ ⟨tree_level.qentOk k, trivial⟩
theorem tree_asks.k0 (k : Nat) : LamOk (tree_asks.ctx k) ((tree_asks.ctx k).Λ 0) (sub [1, 0, 0, 0] tree_asks.c) :=
  cut_ok (kindOf := kindOf) (C := tree_asks.ctx k) (n := .none) (L := tree_asks.e0 k) (tree_asks.xOk k) (by kernel_rfl) (by kernel_rfl) (fits_of (l := []) (by kernel_rfl) trivial) (fun _ => by kernel_rfl)
theorem tree_asks.k1 (k : Nat) : LamOk (tree_asks.ctx k) ((tree_asks.ctx k).Λ 1) (sub [1, 0, 0, 1, 1, 0] tree_asks.c) :=
  cut_ok (kindOf := kindOf) (C := tree_asks.ctx k) (n := .none) (L := tree_asks.e1 k) (tree_asks.xOk k) (by kernel_rfl) (by kernel_rfl) (fits_of (l := []) (by kernel_rfl) trivial) (fun _ => by kernel_rfl)
theorem tree_asks.k2 (k : Nat) : LamOk (tree_asks.ctx k) ((tree_asks.ctx k).Λ 2) (sub [1, 0] tree_asks.c) :=
  cut_ok (kindOf := kindOf) (C := tree_asks.ctx k) (n := (.pair (.pair (.cut 0) (.pair .none (.pair (.cut 1) .none))) .none)) (L := tree_asks.e2 k) (tree_asks.xOk k) (by kernel_rfl) (by kernel_rfl) (fits_of (l := [(0, (sub [1, 0, 0, 0] tree_asks.c)), (1, (sub [1, 0, 0, 1, 1, 0] tree_asks.c))]) (by kernel_rfl) ⟨tree_asks.k0 k, tree_asks.k1 k, trivial⟩) (fun _ => by kernel_rfl)
theorem tree_asks.call (k : Nat) : CallV Tryd.prog E glob 132 tree_asks.i tree_asks.p tree_asks.b (tree_asks.f k) :=
  fn_okZ (kindOf := kindOf) (C := tree_asks.ctx k) (n := (.pair .none (.pair (.cut 2) .none))) (tree_asks.xOk k) Tryd.func132 tree_asks.hb (fits_of (l := [(2, (sub [1, 0] tree_asks.c))]) (by kernel_rfl) ⟨tree_asks.k2 k, trivial⟩) (fun _ => by kernel_rfl)
noncomputable def tree_asks.ent (k : Nat) : EntS κ := ⟨132, [], entOf tree_asks.i tree_asks.p tree_asks.b true (tree_asks.f k) E⟩
theorem tree_asks.entOk (k : Nat) : EntOk Tryd.prog E glob 132 (tree_asks.ent k).run := ent_free encOk (callable_of Tryd.func132 (by kernel_rfl) (by kernel_rfl)) (by rfl) trivial (tree_asks.call k)
noncomputable def tree_Nest.c : Go.Code := match Tryd.f114.body with | some c => c | none => .skip
theorem tree_Nest.hb : Tryd.f114.body = some tree_Nest.c := by kernel_rfl
noncomputable def tree_Nest.x (k : Nat) (ls : List (LamS κ)) : Ctx κ := mkCtx [arith_Arity.ent k, tree_Span.ent k, tree_level.ent k, tree_asks.ent k] [arith_Arity.qent k, tree_Span.qent k, tree_level.qent k] ls
def tree_Nest.i : List (Pat κ) := [.ro .T120]
def tree_Nest.s4 : Sh κ := ⟨0, [3, 18, 19, 20], [.own .T195 0, .ro .T120, .int .i64, .int .i64], [.rows .T195]⟩
def tree_Nest.s1 : Sh κ := ⟨0, [3, 7, 8, 38, 39, 40], [.own .T195 0, .ptr 1 0, .ptr 2 0, .sub .T195 0, .int .i64, .int .i64], [.rows .T195, .raw 195 [.int .i64, .int .i64], .raw 103 [.int .i64, .int .i64]]⟩
def tree_Nest.s0 : Sh κ := ⟨0, [8, 9, 10, 11], [.ptr 0 0, .int .i64, .ptr 1 0, .int .i64], [.raw 103 [.int .i64, .int .i64], .raw 195 [.int .i64, .int .i64]]⟩
def tree_Nest.o0 : List (Ex × Sh κ) := [(.normal, ⟨2, [8, 11], [.ptr 0 0, .int .i64], [.raw 103 [.int .i64, .int .i64], .raw 195 [.int .i64, .int .i64]]⟩)]
noncomputable def tree_Nest.l0 (k : Nat) (t9 : Int) (t11 : Int) (b0 : Int) (b0_1 : Int) (b1 : Int) (b1_1 : Int) : Option ((Unit × Int × Unit) × (Int × Int × Unit) × (Int × Int × Unit) × Unit) :=
    Option.bind (Go.Am.Tryd.tree_level k b1) fun r0 =>
      if t9 = (↑(0 : Nat) : Int) then
        if Decidable.decide (Prod.fst r0 < b0) = Bool.true then
          Option.some (((), Go.IntKind.wrap Go.IntKind.i64 (t11 + (1 : Int)), ()), (b0, b0_1, ()), (b1, b1_1, ()), ())
        else Option.some (((), t11, ()), (b0, b0_1, ()), (b1, b1_1, ()), ())
      else
        if t9 = (↑((0 : Nat) + (1 : Nat)) : Int) then
          if Decidable.decide (Prod.fst r0 < b0_1) = Bool.true then
            Option.some (((), Go.IntKind.wrap Go.IntKind.i64 (t11 + (1 : Int)), ()), (b0, b0_1, ()), (b1, b1_1, ()), ())
          else Option.some (((), t11, ()), (b0, b0_1, ()), (b1, b1_1, ()), ())
        else Option.none
def tree_Nest.w0 : List Nat := [47, 48, 49, 50, 51, 52, 53, 54, 55, 11]
noncomputable def tree_Nest.e0 (k : Nat) : tree_Nest.s0.den → Option (OutT tree_Nest.o0) := fun d => tree_Nest.l0 k d.1.2.1 d.1.2.2.2.1 d.2.1.1 d.2.1.2.1 d.2.2.1.1 d.2.2.1.2.1
noncomputable def tree_Nest.m0 (k : Nat) : LamS κ := ⟨lamK 89 tree_Nest.w0 tree_Nest.s0 tree_Nest.o0 (tree_Nest.e0 k)⟩
def tree_Nest.o1 : List (Ex × Sh κ) := [(.exit 2, ⟨3, [7, 3], [.ptr 1 0, .own .T195 0], [.rows .T195, .raw 195 [.int .i64, .int .i64], .raw 103 [.int .i64, .int .i64]]⟩)]
noncomputable def tree_Nest.l1 (k : Nat) : Nat → Int → Int → Int → (List S195) → Int → Int → Int → Int → Option ((Unit × Unit × Unit) × List Go.Am.Tryd.S195 × (Int × Int × Unit) × (Int × Int × Unit) × Unit)
  | 0, _, _, _, _, _, _, _, _ => none
  | j + 1, t38, t39, t40, b0, b1, b1_1, b2, b2_1 =>
    if Decidable.decide (t40 < t39) = Bool.true then
      if (0 : Int) ≤ t40 ∧ t38 + t40 < (↑(List.length b0) : Int) then
        Option.bind
          (Go.Am.Tryd.tree_Nest.l0 k t40 (Go.Am.Tryd.S195.f1 (List.getD b0 (Int.toNat (t38 + t40)) (Go.Am.Tryd.S195.mk (0 : Int) (0 : Int)))) b2 b2_1
            (Go.Am.Tryd.S195.f0 (List.getD b0 (Int.toNat (t38 + t40)) (Go.Am.Tryd.S195.mk (0 : Int) (0 : Int))))
            (Go.Am.Tryd.S195.f1 (List.getD b0 (Int.toNat (t38 + t40)) (Go.Am.Tryd.S195.mk (0 : Int) (0 : Int)))))
          fun r0 =>
          tree_Nest.l1 k j t38 t39 (Go.IntKind.wrap Go.IntKind.i64 (t40 + (1 : Int))) b0 b1 (Max.max b1_1 (Prod.fst (Prod.snd (Prod.fst r0))))
            (Prod.fst (Prod.fst (Prod.snd r0))) (Prod.fst (Prod.snd (Prod.fst (Prod.snd r0))))
      else Option.none
    else Option.some (((), (), ()), b0, (b1, b1_1, ()), (b2, b2_1, ()), ())
def tree_Nest.w1 : List Nat := [41, 42, 43, 44, 10, 9, 45, 46, 11, 47, 48, 49, 50, 51, 52, 53, 54, 55, 56, 57, 58, 59, 60, 61, 40]
noncomputable def tree_Nest.e1 (k j : Nat) : tree_Nest.s1.den → Option (OutT tree_Nest.o1) := fun d => tree_Nest.l1 k j d.1.2.2.2.1 d.1.2.2.2.2.1 d.1.2.2.2.2.2.1 d.2.1 d.2.2.1.1 d.2.2.1.2.1 d.2.2.2.1.1 d.2.2.2.1.2.1
noncomputable def tree_Nest.m1 (k : Nat) : LamS κ := ⟨lamK 89 tree_Nest.w1 tree_Nest.s1 tree_Nest.o1 (tree_Nest.e1 k k)⟩
def tree_Nest.s3 : Sh κ := ⟨0, [5, 7], [.ptr 0 0, .ptr 1 0], [.raw 120 [.int .i64, .int .i32, .str, .int .i64, .int .i64], .raw 195 [.int .i64, .int .i64]]⟩
def tree_Nest.s2 : Sh κ := ⟨0, [69], [.int .i64], []⟩
def tree_Nest.o2 : List (Ex × Sh κ) := [(.normal, ⟨0, [70], [.bool], []⟩)]
noncomputable def tree_Nest.l2 (k : Nat) (t69 : Int) : Option ((Bool × Unit) × Unit) :=
    if (t69 == (20 : Int)) = Bool.true then Option.some ((Bool.true, ()), ())
    else
      if (t69 == (21 : Int)) = Bool.true then Option.some ((Bool.true, ()), ())
      else
        if (t69 == (22 : Int)) = Bool.true then Option.some ((Bool.true, ()), ())
        else if (t69 == (35 : Int)) = Bool.true then Option.some ((Bool.true, ()), ()) else Option.some ((t69 == (36 : Int), ()), ())
def tree_Nest.w2 : List Nat := [71, 70, 72, 73, 74, 75]
noncomputable def tree_Nest.e2 (k : Nat) : tree_Nest.s2.den → Option (OutT tree_Nest.o2) := fun d => tree_Nest.l2 k d.1.1
noncomputable def tree_Nest.m2 (k : Nat) : LamS κ := ⟨lamK 89 tree_Nest.w2 tree_Nest.s2 tree_Nest.o2 (tree_Nest.e2 k)⟩
def tree_Nest.o3 : List (Ex × Sh κ) := [(.normal, ⟨2, [7], [.ptr 1 0], [.raw 120 [.int .i64, .int .i32, .str, .int .i64, .int .i64], .raw 195 [.int .i64, .int .i64]]⟩)]
noncomputable def tree_Nest.l3 (k : Nat) (b0 : Int) (b0_1 : Int) (b0_2 : ByteArray) (b0_3 : Int) (b0_4 : Int) (b1 : Int) (b1_1 : Int) : Option ((Unit × Unit) × (Int × Int × ByteArray × Int × Int × Unit) × (Int × Int × Unit) × Unit) :=
    Option.bind (Go.Am.Tryd.tree_Nest.l2 k b0) fun r0 =>
      if Prod.fst (Prod.fst r0) = Bool.true then
        Option.some (((), ()), (b0, b0_1, b0_2, b0_3, b0_4, ()), (b1, Go.IntKind.wrap Go.IntKind.i64 (b1_1 + (1 : Int)), ()), ())
      else Option.some (((), ()), (b0, b0_1, b0_2, b0_3, b0_4, ()), (b1, b1_1, ()), ())
def tree_Nest.w3 : List Nat := [68, 69, 71, 70, 72, 73, 74, 75, 76, 77, 78, 79]
noncomputable def tree_Nest.e3 (k : Nat) : tree_Nest.s3.den → Option (OutT tree_Nest.o3) := fun d => tree_Nest.l3 k d.2.1.1 d.2.1.2.1 d.2.1.2.2.1 d.2.1.2.2.2.1 d.2.1.2.2.2.2.1 d.2.2.1.1 d.2.2.1.2.1
noncomputable def tree_Nest.m3 (k : Nat) : LamS κ := ⟨lamK 89 tree_Nest.w3 tree_Nest.s3 tree_Nest.o3 (tree_Nest.e3 k)⟩
def tree_Nest.o4 : List (Ex × Sh κ) := [(.exit 0, ⟨1, [3], [.own .T195 0], [.rows .T195]⟩)]
noncomputable def tree_Nest.l4 (k : Nat) : Nat → (List S120) → Int → Int → (List S195) → Option ((Unit × Unit) × List Go.Am.Tryd.S195 × Unit)
  | 0, _, _, _, _ => none
  | j + 1, t18, t19, t20, b0 =>
    if Decidable.decide (t20 < t19) = Bool.true then
      if (0 : Int) ≤ t20 ∧ t20 < (↑(List.length t18) : Int) then
        Option.bind
          (Go.Am.Tryd.arith_Arity k
            (Go.Am.Tryd.S120.f0 (List.getD t18 (Int.toNat t20) (Go.Am.Tryd.S120.mk (0 : Int) (0 : Int) ByteArray.empty (0 : Int) (0 : Int)))))
          fun r0 =>
          Option.bind
            (Go.Am.Tryd.tree_asks k
              (Go.Am.Tryd.S120.f0 (List.getD t18 (Int.toNat t20) (Go.Am.Tryd.S120.mk (0 : Int) (0 : Int) ByteArray.empty (0 : Int) (0 : Int)))))
            fun r1 =>
            if
                (0 : Int) ≤ Go.IntKind.wrap Go.IntKind.i64 ((↑(List.length b0) : Int) - Prod.fst r0) ∧
                  Go.IntKind.wrap Go.IntKind.i64 ((↑(List.length b0) : Int) - Prod.fst r0) ≤ (↑(List.length b0) : Int) then
              Option.bind
                (Go.Am.Tryd.tree_Nest.l1 k k (Go.IntKind.wrap Go.IntKind.i64 ((↑(List.length b0) : Int) - Prod.fst r0))
                  ((↑(List.length b0) : Int) - Go.IntKind.wrap Go.IntKind.i64 ((↑(List.length b0) : Int) - Prod.fst r0)) (0 : Int) b0
                  (Go.Am.Tryd.S120.f0 (List.getD t18 (Int.toNat t20) (Go.Am.Tryd.S120.mk (0 : Int) (0 : Int) ByteArray.empty (0 : Int) (0 : Int)))) (0 : Int)
                  (Prod.fst (Prod.fst r1)) (Prod.fst (Prod.snd (Prod.fst r1))))
                fun r2 =>
                if
                    (0 : Int) ≤ Go.IntKind.wrap Go.IntKind.i64 ((↑(List.length (Prod.fst (Prod.snd r2))) : Int) - Prod.fst r0) ∧
                      Go.IntKind.wrap Go.IntKind.i64 ((↑(List.length (Prod.fst (Prod.snd r2))) : Int) - Prod.fst r0) ≤
                        (↑(List.length (Prod.fst (Prod.snd r2))) : Int) then
                  Option.bind
                    (Go.Am.Tryd.tree_Nest.l3 k
                      (Go.Am.Tryd.S120.f0 (List.getD t18 (Int.toNat t20) (Go.Am.Tryd.S120.mk (0 : Int) (0 : Int) ByteArray.empty (0 : Int) (0 : Int))))
                      (Go.Am.Tryd.S120.f1 (List.getD t18 (Int.toNat t20) (Go.Am.Tryd.S120.mk (0 : Int) (0 : Int) ByteArray.empty (0 : Int) (0 : Int))))
                      (Go.Am.Tryd.S120.f2 (List.getD t18 (Int.toNat t20) (Go.Am.Tryd.S120.mk (0 : Int) (0 : Int) ByteArray.empty (0 : Int) (0 : Int))))
                      (Go.Am.Tryd.S120.f3 (List.getD t18 (Int.toNat t20) (Go.Am.Tryd.S120.mk (0 : Int) (0 : Int) ByteArray.empty (0 : Int) (0 : Int))))
                      (Go.Am.Tryd.S120.f4 (List.getD t18 (Int.toNat t20) (Go.Am.Tryd.S120.mk (0 : Int) (0 : Int) ByteArray.empty (0 : Int) (0 : Int))))
                      (Prod.fst (Prod.fst (Prod.snd (Prod.snd r2)))) (Prod.fst (Prod.snd (Prod.fst (Prod.snd (Prod.snd r2))))))
                    fun r3 =>
                    Go.Am.room
                      ((List.length
                            (List.take (Int.toNat (Go.IntKind.wrap Go.IntKind.i64 ((↑(List.length (Prod.fst (Prod.snd r2))) : Int) - Prod.fst r0)))
                              (Prod.fst (Prod.snd r2))) +
                          List.length
                            [Go.Am.Tryd.S195.mk (Prod.fst (Prod.fst (Prod.snd (Prod.snd r3)))) (Prod.fst (Prod.snd (Prod.fst (Prod.snd (Prod.snd r3)))))]) *
                        (16 : Nat))
                      (tree_Nest.l4 k j t18 t19 (Go.IntKind.wrap Go.IntKind.i64 (t20 + (1 : Int)))
                        (List.take (Int.toNat (Go.IntKind.wrap Go.IntKind.i64 ((↑(List.length (Prod.fst (Prod.snd r2))) : Int) - Prod.fst r0)))
                            (Prod.fst (Prod.snd r2)) ++
                          [Go.Am.Tryd.S195.mk (Prod.fst (Prod.fst (Prod.snd (Prod.snd r3)))) (Prod.fst (Prod.snd (Prod.fst (Prod.snd (Prod.snd r3)))))]))
                else Option.none
            else Option.none
      else Option.none
    else Option.some (((), ()), b0, ())
def tree_Nest.w4 : List Nat := [21, 22, 23, 5, 24, 25, 26, 6, 27, 28, 29, 7, 30, 31, 32, 8, 33, 34, 35, 36, 37, 38, 39, 40, 41, 42, 43, 44, 10, 9, 45, 46, 11, 47, 48, 49, 50, 51, 52, 53, 54, 55, 56, 57, 58, 59, 60, 61, 62, 63, 64, 65, 66, 67, 3, 68, 69, 71, 70, 72, 73, 74, 75, 76, 77, 78, 79, 80, 81, 82, 83, 84, 20]
noncomputable def tree_Nest.e4 (k j : Nat) : tree_Nest.s4.den → Option (OutT tree_Nest.o4) := fun d => tree_Nest.l4 k j d.1.2.1 d.1.2.2.1 d.1.2.2.2.1 d.2.1
noncomputable def tree_Nest.m4 (k : Nat) : LamS κ := ⟨lamK 89 tree_Nest.w4 tree_Nest.s4 tree_Nest.o4 (tree_Nest.e4 k k)⟩
def tree_Nest.p : Pat κ := .int .i64
def tree_Nest.b : List (BPat κ) := []
noncomputable def tree_Nest (k : Nat) (t0 : List S120) : Option (Int × Unit) :=
    Option.bind (Go.Am.Tryd.tree_Span k t0 (Go.IntKind.wrap Go.IntKind.i64 ((↑(List.length t0) : Int) - (1 : Int)))) fun r0 =>
      if (Prod.fst r0 != (0 : Int)) = Bool.true then Option.some ((-1 : Int), ())
      else
        Option.bind (Go.Am.Tryd.tree_Nest.l4 k k t0 (↑(List.length t0) : Int) (0 : Int) []) fun r1 =>
          if (0 : Int) ≤ (0 : Int) ∧ (0 : Int) < (↑(List.length (Prod.fst (Prod.snd r1))) : Int) then
            Option.some (Go.Am.Tryd.S195.f1 (List.getD (Prod.fst (Prod.snd r1)) (Int.toNat (0 : Int)) (Go.Am.Tryd.S195.mk (0 : Int) (0 : Int))), ())
          else Option.none
noncomputable def tree_Nest.f (k : Nat) : dens tree_Nest.i → Option (tree_Nest.p.den × densB tree_Nest.b) := fun d => tree_Nest k d.1
noncomputable def tree_Nest.ctx (k : Nat) : Ctx κ := tree_Nest.x k [tree_Nest.m0 k, tree_Nest.m1 k, tree_Nest.m2 k, tree_Nest.m3 k, tree_Nest.m4 k]
theorem tree_Nest.xOk (k : Nat) : (tree_Nest.ctx k).Ok := ctxOk ⟨arith_Arity.entOk k, tree_Span.entOk k, tree_level.entOk k, tree_asks.entOk k, trivial⟩ ⟨arith_Arity.qentOk k, tree_Span.qentOk k, tree_level.qentOk k, trivial⟩
theorem tree_Nest.k0 (k : Nat) : LamOk (tree_Nest.ctx k) ((tree_Nest.ctx k).Λ 0) (sub [1, 1, 1, 0, 1, 0, 0, 1, 1, 0, 0, 1, 1, 1, 1, 0, 1, 0, 0, 1, 1, 0, 0, 1, 1, 0] tree_Nest.c) :=
  cut_ok (kindOf := kindOf) (C := tree_Nest.ctx k) (n := (.pair (.ops [] 7) .none)) (L := tree_Nest.e0 k) (tree_Nest.xOk k) (by kernel_rfl) (by kernel_rfl) (fits_of (l := []) (by kernel_rfl) trivial) (fun _ => by kernel_rfl)
theorem tree_Nest.k1 (k : Nat) : LamOk (tree_Nest.ctx k) ((tree_Nest.ctx k).Λ 1) (.loop (sub [1, 1, 1, 0, 1, 0, 0, 1, 1, 0, 0, 1, 1, 1, 1, 0, 1, 0, 0] tree_Nest.c)) :=
  loop_ok (kindOf := kindOf) (C := tree_Nest.ctx k) (n := (.pair .none (.pair .none (.pair (.pair (.pair .none (.pair .none (.pair (.cut 0) .none))) .none) .none)))) (L := tree_Nest.e1 k) (tree_Nest.xOk k) (by kernel_rfl) (by kernel_rfl) (fits_of (l := [(0, (sub [1, 1, 1, 0, 1, 0, 0, 1, 1, 0, 0, 1, 1, 1, 1, 0, 1, 0, 0, 1, 1, 0, 0, 1, 1, 0] tree_Nest.c))]) (by kernel_rfl) ⟨tree_Nest.k0 k, trivial⟩) (fun _ => by kernel_rfl) (fun _ _ => by kernel_rfl) k
theorem tree_Nest.k2 (k : Nat) : LamOk (tree_Nest.ctx k) ((tree_Nest.ctx k).Λ 2) (sub [1, 1, 1, 0, 1, 0, 0, 1, 1, 0, 0, 1, 1, 1, 1, 1, 1, 0, 1, 0, 0] tree_Nest.c) :=
  cut_ok (kindOf := kindOf) (C := tree_Nest.ctx k) (n := .none) (L := tree_Nest.e2 k) (tree_Nest.xOk k) (by kernel_rfl) (by kernel_rfl) (fits_of (l := []) (by kernel_rfl) trivial) (fun _ => by kernel_rfl)
theorem tree_Nest.k3 (k : Nat) : LamOk (tree_Nest.ctx k) ((tree_Nest.ctx k).Λ 3) (sub [1, 1, 1, 0, 1, 0, 0, 1, 1, 0, 0, 1, 1, 1, 1, 1, 1, 0] tree_Nest.c) :=
  cut_ok (kindOf := kindOf) (C := tree_Nest.ctx k) (n := (.pair .none (.pair (.pair (.cut 2) .none) .none))) (L := tree_Nest.e3 k) (tree_Nest.xOk k) (by kernel_rfl) (by kernel_rfl) (fits_of (l := [(2, (sub [1, 1, 1, 0, 1, 0, 0, 1, 1, 0, 0, 1, 1, 1, 1, 1, 1, 0, 1, 0, 0] tree_Nest.c))]) (by kernel_rfl) ⟨tree_Nest.k2 k, trivial⟩) (fun _ => by kernel_rfl)
theorem tree_Nest.k4 (k : Nat) : LamOk (tree_Nest.ctx k) ((tree_Nest.ctx k).Λ 4) (.loop (sub [1, 1, 1, 0, 1, 0, 0] tree_Nest.c)) :=
  loop_ok (kindOf := kindOf) (C := tree_Nest.ctx k) (n := (.pair .none (.pair .none (.pair (.pair (.pair .none (.pair .none (.pair .none (.pair .none (.pair (.pair .none (.pair (.cut 1) .none)) (.pair .none (.pair (.cut 3) .none))))))) .none) .none)))) (L := tree_Nest.e4 k) (tree_Nest.xOk k) (by kernel_rfl) (by kernel_rfl) (fits_of (l := [(1, .loop (sub [1, 1, 1, 0, 1, 0, 0, 1, 1, 0, 0, 1, 1, 1, 1, 0, 1, 0, 0] tree_Nest.c)), (3, (sub [1, 1, 1, 0, 1, 0, 0, 1, 1, 0, 0, 1, 1, 1, 1, 1, 1, 0] tree_Nest.c))]) (by kernel_rfl) ⟨tree_Nest.k1 k, tree_Nest.k3 k, trivial⟩) (fun _ => by kernel_rfl) (fun _ _ => by kernel_rfl) k
theorem tree_Nest.call (k : Nat) : CallV Tryd.prog E glob 114 tree_Nest.i tree_Nest.p tree_Nest.b (tree_Nest.f k) :=
  fn_okZ (kindOf := kindOf) (C := tree_Nest.ctx k) (n := (.pair .none (.pair .none (.pair .none (.pair (.pair .none (.pair (.cut 4) .none)) .none))))) (tree_Nest.xOk k) Tryd.func114 tree_Nest.hb (fits_of (l := [(4, .loop (sub [1, 1, 1, 0, 1, 0, 0] tree_Nest.c))]) (by kernel_rfl) ⟨tree_Nest.k4 k, trivial⟩) (fun _ => by kernel_rfl)
noncomputable def tree_Nest.ent (k : Nat) : EntS κ := ⟨114, [], entOf tree_Nest.i tree_Nest.p tree_Nest.b true (tree_Nest.f k) E⟩
theorem tree_Nest.entOk (k : Nat) : EntOk Tryd.prog E glob 114 (tree_Nest.ent k).run := ent_free encOk (callable_of Tryd.func114 (by kernel_rfl) (by kernel_rfl)) (by rfl) trivial (tree_Nest.call k)
noncomputable def tree_Nest.qent (k : Nat) : QEntS κ := ⟨114, qentOf tree_Nest.i tree_Nest.p (tree_Nest.f k) E⟩
theorem tree_Nest.qentOk (k : Nat) : QEntOk Tryd.prog E glob 114 (tree_Nest.qent k).run := qent_ok encOk (callable_of Tryd.func114 (by kernel_rfl) (by kernel_rfl)) (tree_Nest.call k)
noncomputable def check_place.c : Go.Code := match Tryd.f134.body with | some c => c | none => .skip
theorem check_place.hb : Tryd.f134.body = some check_place.c := by kernel_rfl
noncomputable def check_place.x (k : Nat) (ls : List (LamS κ)) : Ctx κ := mkCtx [] [] ls
def check_place.i : List (Pat κ) := [.int .i32, .int .i64]
def check_place.p : Pat κ := .bool
def check_place.b : List (BPat κ) := []
noncomputable def check_place (k : Nat) (t0 : Int) (t1 : Int) : Option (Bool × Unit) :=
    if Decidable.decide (t0 ≥ (0 : Int)) = Bool.true then Option.some (Decidable.decide (Go.IntKind.wrap Go.IntKind.i64 t0 < t1), ())
    else Option.some (Bool.false, ())
noncomputable def check_place.f (k : Nat) : dens check_place.i → Option (check_place.p.den × densB check_place.b) := fun d => check_place k d.1 d.2.1
noncomputable def check_place.ctx (k : Nat) : Ctx κ := check_place.x k []
theorem check_place.xOk (k : Nat) : (check_place.ctx k).Ok := ctxOk trivial trivial
theorem check_place.call (k : Nat) : CallV Tryd.prog E glob 134 check_place.i check_place.p check_place.b (check_place.f k) :=
  fn_okZ (kindOf := kindOf) (C := check_place.ctx k) (n := .none) (check_place.xOk k) Tryd.func134 check_place.hb (fits_of (l := []) (by kernel_rfl) trivial) (fun _ => by kernel_rfl)
noncomputable def check_place.ent (k : Nat) : EntS κ := ⟨134, [], entOf check_place.i check_place.p check_place.b true (check_place.f k) E⟩
theorem check_place.entOk (k : Nat) : EntOk Tryd.prog E glob 134 (check_place.ent k).run := ent_free encOk (callable_of Tryd.func134 (by kernel_rfl) (by kernel_rfl)) (by rfl) trivial (check_place.call k)
noncomputable def check_place.qent (k : Nat) : QEntS κ := ⟨134, qentOf check_place.i check_place.p (check_place.f k) E⟩
theorem check_place.qentOk (k : Nat) : QEntOk Tryd.prog E glob 134 (check_place.qent k).run := qent_ok encOk (callable_of Tryd.func134 (by kernel_rfl) (by kernel_rfl)) (check_place.call k)
noncomputable def check_value.c : Go.Code := match Tryd.f115.body with | some c => c | none => .skip
theorem check_value.hb : Tryd.f115.body = some check_value.c := by kernel_rfl
noncomputable def check_value.x (k : Nat) (ls : List (LamS κ)) : Ctx κ := mkCtx [check_place.ent k] [check_place.qent k] ls
def check_value.i : List (Pat κ) := [.rop [.str, .ro .T42, .ro .T47, .ro .T110, .ro .T9, .ro .T9, .ro .T112, .ro .T98, .int .i64], .agg [.int .i64, .int .i32, .str, .int .i64, .int .i64]]
def check_value.s0 : Sh κ := ⟨0, [6], [.int .i64], []⟩
def check_value.o0 : List (Ex × Sh κ) := [(.normal, ⟨0, [14], [.bool], []⟩)]
noncomputable def check_value.l0 (k : Nat) (t6 : Int) : Option ((Bool × Unit) × Unit) :=
    if (t6 == (5 : Int)) = Bool.true then Option.some ((Bool.true, ()), ()) else Option.some ((t6 == (6 : Int), ()), ())
def check_value.w0 : List Nat := [15, 14, 16]
noncomputable def check_value.e0 (k : Nat) : check_value.s0.den → Option (OutT check_value.o0) := fun d => check_value.l0 k d.1.1
noncomputable def check_value.m0 (k : Nat) : LamS κ := ⟨lamK 71 check_value.w0 check_value.s0 check_value.o0 (check_value.e0 k)⟩
def check_value.p : Pat κ := .bool
def check_value.b : List (BPat κ) := []
noncomputable def check_value (k : Nat) (t0 : ByteArray) (t0_1 : List S42) (t0_2 : List S47) (t0_3 : List S110) (t0_4 : List ByteArray) (t0_5 : List ByteArray) (t0_6 : List S112) (t0_7 : List S98) (t0_8 : Int) (t1 : Int) (t1_1 : Int) (t1_2 : ByteArray) (t1_3 : Int) (t1_4 : Int) : Option (Bool × Unit) :=
    if (t1 == (1 : Int)) = Bool.true then Option.some (Bool.true, ())
    else
      if (t1 == (2 : Int)) = Bool.true then Option.bind (Go.Am.Tryd.check_place k t1_1 (2 : Int)) fun r0 => Option.some (Prod.fst r0, ())
      else
        Option.bind (Go.Am.Tryd.check_value.l0 k t1) fun r1 =>
          if Prod.fst (Prod.fst r1) = Bool.true then Option.bind (Go.Am.Tryd.check_place k t1_1 (↑(List.length t0_1) : Int)) fun r2 => Option.some (Prod.fst r2, ())
          else
            if (t1 == (7 : Int)) = Bool.true then Option.bind (Go.Am.Tryd.check_place k t1_1 (↑(List.length t0_6) : Int)) fun r3 => Option.some (Prod.fst r3, ())
            else
              if (t1 == (8 : Int)) = Bool.true then Option.bind (Go.Am.Tryd.check_place k t1_1 (↑(List.length t0_4) : Int)) fun r4 => Option.some (Prod.fst r4, ())
              else
                if (t1 == (9 : Int)) = Bool.true then
                  Option.bind (Go.Am.Tryd.check_place k t1_1 (↑(List.length t0_5) : Int)) fun r5 => Option.some (Prod.fst r5, ())
                else
                  if (t1 == (10 : Int)) = Bool.true then
                    Option.bind (Go.Am.Tryd.check_place k t1_1 (↑(List.length t0_3) : Int)) fun r6 => Option.some (Prod.fst r6, ())
                  else if (t1 == (3 : Int)) = Bool.true then Option.some (Bool.false, ()) else Option.some (t1_1 == (0 : Int), ())
noncomputable def check_value.f (k : Nat) : dens check_value.i → Option (check_value.p.den × densB check_value.b) := fun d => check_value k d.1.1 d.1.2.1 d.1.2.2.1 d.1.2.2.2.1 d.1.2.2.2.2.1 d.1.2.2.2.2.2.1 d.1.2.2.2.2.2.2.1 d.1.2.2.2.2.2.2.2.1 d.1.2.2.2.2.2.2.2.2.1 d.2.1.1 d.2.1.2.1 d.2.1.2.2.1 d.2.1.2.2.2.1 d.2.1.2.2.2.2.1
noncomputable def check_value.ctx (k : Nat) : Ctx κ := check_value.x k [check_value.m0 k]
theorem check_value.xOk (k : Nat) : (check_value.ctx k).Ok := ctxOk ⟨check_place.entOk k, trivial⟩ ⟨check_place.qentOk k, trivial⟩
theorem check_value.k0 (k : Nat) : LamOk (check_value.ctx k) ((check_value.ctx k).Λ 0) (sub [1, 0, 1, 0, 1, 1, 1, 1, 0] check_value.c) :=
  cut_ok (kindOf := kindOf) (C := check_value.ctx k) (n := .none) (L := check_value.e0 k) (check_value.xOk k) (by kernel_rfl) (by kernel_rfl) (fits_of (l := []) (by kernel_rfl) trivial) (fun _ => by kernel_rfl)
theorem check_value.call (k : Nat) : CallV Tryd.prog E glob 115 check_value.i check_value.p check_value.b (check_value.f k) :=
  fn_okZ (kindOf := kindOf) (C := check_value.ctx k) (n := (.pair (.ops [0] 0) (.pair (.pair .none (.pair (.pair .none (.pair .none (.pair .none (.pair .none (.pair (.cut 0) (.pair (.pair (.ops [] 10) .none) (.pair .none (.pair (.pair (.ops [] 9) .none) (.pair .none (.pair (.pair (.ops [] 9) .none) (.pair .none (.pair (.pair (.ops [] 9) .none) (.pair .none (.pair (.pair (.ops [] 9) .none) .none)))))))))))))) .none)) .none))) (check_value.xOk k) Tryd.func115 check_value.hb (fits_of (l := [(0, (sub [1, 0, 1, 0, 1, 1, 1, 1, 0] check_value.c))]) (by kernel_rfl) ⟨check_value.k0 k, trivial⟩) (fun _ => by kernel_rfl)
noncomputable def check_value.ent (k : Nat) : EntS κ := ⟨115, [], entOf check_value.i check_value.p check_value.b true (check_value.f k) E⟩
theorem check_value.entOk (k : Nat) : EntOk Tryd.prog E glob 115 (check_value.ent k).run := ent_free encOk (callable_of Tryd.func115 (by kernel_rfl) (by kernel_rfl)) (by rfl) trivial (check_value.call k)
noncomputable def check_value.qent (k : Nat) : QEntS κ := ⟨115, qentOf check_value.i check_value.p (check_value.f k) E⟩
theorem check_value.qentOk (k : Nat) : QEntOk Tryd.prog E glob 115 (check_value.qent k).run := qent_ok encOk (callable_of Tryd.func115 (by kernel_rfl) (by kernel_rfl)) (check_value.call k)
noncomputable def check_operated.c : Go.Code := match Tryd.f135.body with | some c => c | none => .skip
theorem check_operated.hb : Tryd.f135.body = some check_operated.c := by kernel_rfl
noncomputable def check_operated.x (k : Nat) (ls : List (LamS κ)) : Ctx κ := mkCtx [] [] ls
def check_operated.i : List (Pat κ) := [.int .i64, .int .i64, .int .i64]
def check_operated.s0 : Sh κ := ⟨0, [7], [.int .i64], []⟩
def check_operated.o0 : List (Ex × Sh κ) := [(.normal, ⟨0, [14], [.bool], []⟩)]
noncomputable def check_operated.l0 (k : Nat) (t7 : Int) : Option ((Bool × Unit) × Unit) :=
    if (t7 == (20 : Int)) = Bool.true then Option.some ((Bool.true, ()), ()) else Option.some ((t7 == (22 : Int), ()), ())
def check_operated.w0 : List Nat := [15, 14, 16]
noncomputable def check_operated.e0 (k : Nat) : check_operated.s0.den → Option (OutT check_operated.o0) := fun d => check_operated.l0 k d.1.1
noncomputable def check_operated.m0 (k : Nat) : LamS κ := ⟨lamK 49 check_operated.w0 check_operated.s0 check_operated.o0 (check_operated.e0 k)⟩
def check_operated.s1 : Sh κ := ⟨0, [7], [.int .i64], []⟩
def check_operated.o1 : List (Ex × Sh κ) := [(.normal, ⟨0, [23], [.bool], []⟩)]
noncomputable def check_operated.l1 (k : Nat) (t7 : Int) : Option ((Bool × Unit) × Unit) :=
    if (t7 == (40 : Int)) = Bool.true then Option.some ((Bool.true, ()), ()) else Option.some ((t7 == (41 : Int), ()), ())
def check_operated.w1 : List Nat := [24, 23, 25]
noncomputable def check_operated.e1 (k : Nat) : check_operated.s1.den → Option (OutT check_operated.o1) := fun d => check_operated.l1 k d.1.1
noncomputable def check_operated.m1 (k : Nat) : LamS κ := ⟨lamK 49 check_operated.w1 check_operated.s1 check_operated.o1 (check_operated.e1 k)⟩
def check_operated.s2 : Sh κ := ⟨0, [7], [.int .i64], []⟩
def check_operated.o2 : List (Ex × Sh κ) := [(.normal, ⟨0, [29], [.bool], []⟩)]
noncomputable def check_operated.l2 (k : Nat) (t7 : Int) : Option ((Bool × Unit) × Unit) :=
    if (t7 == (42 : Int)) = Bool.true then Option.some ((Bool.true, ()), ())
    else
      if (t7 == (43 : Int)) = Bool.true then Option.some ((Bool.true, ()), ())
      else if (t7 == (44 : Int)) = Bool.true then Option.some ((Bool.true, ()), ()) else Option.some ((t7 == (45 : Int), ()), ())
def check_operated.w2 : List Nat := [30, 29, 31, 32, 33]
noncomputable def check_operated.e2 (k : Nat) : check_operated.s2.den → Option (OutT check_operated.o2) := fun d => check_operated.l2 k d.1.1
noncomputable def check_operated.m2 (k : Nat) : LamS κ := ⟨lamK 49 check_operated.w2 check_operated.s2 check_operated.o2 (check_operated.e2 k)⟩
def check_operated.s3 : Sh κ := ⟨0, [7], [.int .i64], []⟩
def check_operated.o3 : List (Ex × Sh κ) := [(.normal, ⟨0, [40], [.bool], []⟩)]
noncomputable def check_operated.l3 (k : Nat) (t7 : Int) : Option ((Bool × Unit) × Unit) :=
    if (t7 == (50 : Int)) = Bool.true then Option.some ((Bool.true, ()), ()) else Option.some ((t7 == (51 : Int), ()), ())
def check_operated.w3 : List Nat := [41, 40, 42]
noncomputable def check_operated.e3 (k : Nat) : check_operated.s3.den → Option (OutT check_operated.o3) := fun d => check_operated.l3 k d.1.1
noncomputable def check_operated.m3 (k : Nat) : LamS κ := ⟨lamK 49 check_operated.w3 check_operated.s3 check_operated.o3 (check_operated.e3 k)⟩
def check_operated.p : Pat κ := .int .i64
def check_operated.b : List (BPat κ) := []
noncomputable def check_operated (k : Nat) (t0 : Int) (t1 : Int) (t2 : Int) : Option (Int × Unit) :=
    Option.bind (Go.Am.Tryd.check_operated.l0 k t0) fun r0 =>
      if Prod.fst (Prod.fst r0) = Bool.true then if (t1 == (1 : Int)) = Bool.true then Option.some ((1 : Int), ()) else Option.some ((0 : Int), ())
      else
        if (t0 == (21 : Int)) = Bool.true then if (t1 == (2 : Int)) = Bool.true then Option.some ((2 : Int), ()) else Option.some ((0 : Int), ())
        else
          Option.bind (Go.Am.Tryd.check_operated.l1 k t0) fun r1 =>
            if Prod.fst (Prod.fst r1) = Bool.true then if (t1 == t2) = Bool.true then Option.some ((2 : Int), ()) else Option.some ((0 : Int), ())
            else
              Option.bind (Go.Am.Tryd.check_operated.l2 k t0) fun r2 =>
                if Prod.fst (Prod.fst r2) = Bool.true then
                  if (t1 == (1 : Int)) = Bool.true then if (t2 == (1 : Int)) = Bool.true then Option.some ((2 : Int), ()) else Option.some ((0 : Int), ())
                  else Option.some ((0 : Int), ())
                else
                  Option.bind (Go.Am.Tryd.check_operated.l3 k t0) fun r3 =>
                    if Prod.fst (Prod.fst r3) = Bool.true then
                      if (t1 == (2 : Int)) = Bool.true then if (t2 == (2 : Int)) = Bool.true then Option.some ((2 : Int), ()) else Option.some ((0 : Int), ())
                      else Option.some ((0 : Int), ())
                    else
                      if (t1 == (1 : Int)) = Bool.true then if (t2 == (1 : Int)) = Bool.true then Option.some ((1 : Int), ()) else Option.some ((0 : Int), ())
                      else Option.some ((0 : Int), ())
noncomputable def check_operated.f (k : Nat) : dens check_operated.i → Option (check_operated.p.den × densB check_operated.b) := fun d => check_operated k d.1 d.2.1 d.2.2.1
noncomputable def check_operated.ctx (k : Nat) : Ctx κ := check_operated.x k [check_operated.m0 k, check_operated.m1 k, check_operated.m2 k, check_operated.m3 k]
theorem check_operated.xOk (k : Nat) : (check_operated.ctx k).Ok := ctxOk trivial trivial
theorem check_operated.k0 (k : Nat) : LamOk (check_operated.ctx k) ((check_operated.ctx k).Λ 0) (sub [1, 0, 1, 0, 0] check_operated.c) :=
  cut_ok (kindOf := kindOf) (C := check_operated.ctx k) (n := .none) (L := check_operated.e0 k) (check_operated.xOk k) (by kernel_rfl) (by kernel_rfl) (fits_of (l := []) (by kernel_rfl) trivial) (fun _ => by kernel_rfl)
theorem check_operated.k1 (k : Nat) : LamOk (check_operated.ctx k) ((check_operated.ctx k).Λ 1) (sub [1, 0, 1, 0, 1, 1, 1, 1, 0] check_operated.c) :=
  cut_ok (kindOf := kindOf) (C := check_operated.ctx k) (n := .none) (L := check_operated.e1 k) (check_operated.xOk k) (by kernel_rfl) (by kernel_rfl) (fits_of (l := []) (by kernel_rfl) trivial) (fun _ => by kernel_rfl)
theorem check_operated.k2 (k : Nat) : LamOk (check_operated.ctx k) ((check_operated.ctx k).Λ 2) (sub [1, 0, 1, 0, 1, 1, 1, 1, 1, 1, 0] check_operated.c) :=
  cut_ok (kindOf := kindOf) (C := check_operated.ctx k) (n := .none) (L := check_operated.e2 k) (check_operated.xOk k) (by kernel_rfl) (by kernel_rfl) (fits_of (l := []) (by kernel_rfl) trivial) (fun _ => by kernel_rfl)
theorem check_operated.k3 (k : Nat) : LamOk (check_operated.ctx k) ((check_operated.ctx k).Λ 3) (sub [1, 0, 1, 0, 1, 1, 1, 1, 1, 1, 1, 1, 0] check_operated.c) :=
  cut_ok (kindOf := kindOf) (C := check_operated.ctx k) (n := .none) (L := check_operated.e3 k) (check_operated.xOk k) (by kernel_rfl) (by kernel_rfl) (fits_of (l := []) (by kernel_rfl) trivial) (fun _ => by kernel_rfl)
theorem check_operated.call (k : Nat) : CallV Tryd.prog E glob 135 check_operated.i check_operated.p check_operated.b (check_operated.f k) :=
  fn_okZ (kindOf := kindOf) (C := check_operated.ctx k) (n := (.pair .none (.pair (.pair .none (.pair (.pair (.cut 0) (.pair .none (.pair .none (.pair .none (.pair (.cut 1) (.pair .none (.pair (.cut 2) (.pair .none (.pair (.cut 3) .none))))))))) .none)) .none))) (check_operated.xOk k) Tryd.func135 check_operated.hb (fits_of (l := [(0, (sub [1, 0, 1, 0, 0] check_operated.c)), (1, (sub [1, 0, 1, 0, 1, 1, 1, 1, 0] check_operated.c)), (2, (sub [1, 0, 1, 0, 1, 1, 1, 1, 1, 1, 0] check_operated.c)), (3, (sub [1, 0, 1, 0, 1, 1, 1, 1, 1, 1, 1, 1, 0] check_operated.c))]) (by kernel_rfl) ⟨check_operated.k0 k, check_operated.k1 k, check_operated.k2 k, check_operated.k3 k, trivial⟩) (fun _ => by kernel_rfl)
noncomputable def check_operated.ent (k : Nat) : EntS κ := ⟨135, [], entOf check_operated.i check_operated.p check_operated.b true (check_operated.f k) E⟩
theorem check_operated.entOk (k : Nat) : EntOk Tryd.prog E glob 135 (check_operated.ent k).run := ent_free encOk (callable_of Tryd.func135 (by kernel_rfl) (by kernel_rfl)) (by rfl) trivial (check_operated.call k)
noncomputable def check_operated.qent (k : Nat) : QEntS κ := ⟨135, qentOf check_operated.i check_operated.p (check_operated.f k) E⟩
theorem check_operated.qentOk (k : Nat) : QEntOk Tryd.prog E glob 135 (check_operated.qent k).run := qent_ok encOk (callable_of Tryd.func135 (by kernel_rfl) (by kernel_rfl)) (check_operated.call k)
noncomputable def check_pushed.c : Go.Code := match Tryd.f116.body with | some c => c | none => .skip
theorem check_pushed.hb : Tryd.f116.body = some check_pushed.c := by kernel_rfl
noncomputable def check_pushed.x (k : Nat) (ls : List (LamS κ)) : Ctx κ := mkCtx [check_operated.ent k] [check_operated.qent k] ls
def check_pushed.i : List (Pat κ) := [.own .T3 0, .int .i64]
def check_pushed.bi : List (BPat κ) := [.rows .T3]
def check_pushed.s0 : Sh κ := ⟨0, [0, 1, 7, 8], [.own .T3 0, .int .i64, .int .i64, .int .i64], [.rows .T3]⟩
def check_pushed.o0 : List (Ex × Sh κ) := [(.normal, ⟨1, [0, 8, 7, 6], [.own .T3 0, .int .i64, .int .i64, .int .i64], [.rows .T3]⟩)]
noncomputable def check_pushed.l0 (k : Nat) (t1 : Int) (t7 : Int) (t8 : Int) (b0 : List Int) : Option ((Unit × Int × Int × Int × Unit) × List Int × Unit) :=
    if Decidable.decide (t1 < (30 : Int)) = Bool.true then
      if (0 : Int) ≤ Go.IntKind.wrap Go.IntKind.i64 (t8 - (1 : Int)) ∧ Go.IntKind.wrap Go.IntKind.i64 (t8 - (1 : Int)) < (↑(List.length b0) : Int) then
        Option.some
          (((), Go.IntKind.wrap Go.IntKind.i64 (t8 - (1 : Int)), t7, List.getD b0 (Int.toNat (Go.IntKind.wrap Go.IntKind.i64 (t8 - (1 : Int)))) (0 : Int), ()), b0,
            ())
      else Option.none
    else
      if (0 : Int) ≤ Go.IntKind.wrap Go.IntKind.i64 (t8 - (2 : Int)) ∧ Go.IntKind.wrap Go.IntKind.i64 (t8 - (2 : Int)) < (↑(List.length b0) : Int) then
        if (0 : Int) ≤ Go.IntKind.wrap Go.IntKind.i64 (t8 - (1 : Int)) ∧ Go.IntKind.wrap Go.IntKind.i64 (t8 - (1 : Int)) < (↑(List.length b0) : Int) then
          Option.some
            (((), Go.IntKind.wrap Go.IntKind.i64 (t8 - (2 : Int)), List.getD b0 (Int.toNat (Go.IntKind.wrap Go.IntKind.i64 (t8 - (1 : Int)))) (0 : Int),
                List.getD b0 (Int.toNat (Go.IntKind.wrap Go.IntKind.i64 (t8 - (2 : Int)))) (0 : Int), ()),
              b0, ())
        else Option.none
      else Option.none
def check_pushed.w0 : List Nat := [12, 13, 14, 15, 16, 17, 18, 19, 20, 6, 8, 21, 22, 23, 24, 25, 26, 27, 28, 29, 30, 31, 32, 7]
noncomputable def check_pushed.e0 (k : Nat) : check_pushed.s0.den → Option (OutT check_pushed.o0) := fun d => check_pushed.l0 k d.1.2.1 d.1.2.2.1 d.1.2.2.2.1 d.2.1
noncomputable def check_pushed.m0 (k : Nat) : LamS κ := ⟨lamK 45 check_pushed.w0 check_pushed.s0 check_pushed.o0 (check_pushed.e0 k)⟩
def check_pushed.p : List (Pat κ) := [.tup [.own .T3 0, .bool], .any]
def check_pushed.b : List (BPat κ) := [.rows .T3]
noncomputable def check_pushed (k : Nat) (t1 : Int) (b0 : List Int) : Option (((Unit × Bool × Unit) × Unit × Unit) × List Int × Unit) :=
    Option.bind (Go.Am.Tryd.check_pushed.l0 k t1 (0 : Int) (↑(List.length b0) : Int) b0) fun r0 =>
      Option.bind (Go.Am.Tryd.check_operated k t1 (Prod.fst (Prod.snd (Prod.snd (Prod.snd (Prod.fst r0))))) (Prod.fst (Prod.snd (Prod.snd (Prod.fst r0)))))
        fun r1 =>
        if (0 : Int) ≤ Prod.fst (Prod.snd (Prod.fst r0)) ∧ Prod.fst (Prod.snd (Prod.fst r0)) ≤ (↑(List.length (Prod.fst (Prod.snd r0))) : Int) then
          Go.Am.room ((List.length (List.take (Int.toNat (Prod.fst (Prod.snd (Prod.fst r0)))) (Prod.fst (Prod.snd r0))) + List.length [Prod.fst r1]) * (8 : Nat))
            (Option.some
              ((((), Prod.fst r1 != (0 : Int), ()), (), ()), List.take (Int.toNat (Prod.fst (Prod.snd (Prod.fst r0)))) (Prod.fst (Prod.snd r0)) ++ [Prod.fst r1],
                ()))
        else Option.none
noncomputable def check_pushed.f (k : Nat) : dens check_pushed.i × densB check_pushed.bi → Option (dens check_pushed.p × densB check_pushed.b) := fun d => check_pushed k d.1.2.1 d.2.1
noncomputable def check_pushed.ctx (k : Nat) : Ctx κ := check_pushed.x k [check_pushed.m0 k]
theorem check_pushed.xOk (k : Nat) : (check_pushed.ctx k).Ok := ctxOk ⟨check_operated.entOk k, trivial⟩ ⟨check_operated.qentOk k, trivial⟩
theorem check_pushed.k0 (k : Nat) : LamOk (check_pushed.ctx k) ((check_pushed.ctx k).Λ 0) (sub [1, 1, 0] check_pushed.c) :=
  cut_ok (kindOf := kindOf) (C := check_pushed.ctx k) (n := (.pair .none (.pair .none (.ops [] 15)))) (L := check_pushed.e0 k) (check_pushed.xOk k) (by kernel_rfl) (by kernel_rfl) (fits_of (l := []) (by kernel_rfl) trivial) (fun _ => by kernel_rfl)
theorem check_pushed.call (k : Nat) : CallW Tryd.prog E glob 116 check_pushed.i check_pushed.bi [0] check_pushed.p check_pushed.b (check_pushed.f k) :=
  fn_okW (kindOf := kindOf) (C := check_pushed.ctx k) (n := (.pair .none (.pair .none (.pair (.cut 0) .none)))) (check_pushed.xOk k) Tryd.func116 check_pushed.hb (by kernel_rfl) (fits_of (l := [(0, (sub [1, 1, 0] check_pushed.c))]) (by kernel_rfl) ⟨check_pushed.k0 k, trivial⟩) (fun _ => by kernel_rfl)
noncomputable def check_pushed.ent (k : Nat) : EntS κ := ⟨116, [], entW check_pushed.i check_pushed.bi [0] check_pushed.p check_pushed.b (check_pushed.f k)⟩
theorem check_pushed.entOk (k : Nat) : EntOk Tryd.prog E glob 116 (check_pushed.ent k).run := ent_okW encOk (callable_of Tryd.func116 (by kernel_rfl) (by kernel_rfl)) (by decide) (by rfl) (check_pushed.call k)
noncomputable def check_SoundExpr.c : Go.Code := match Tryd.f101.body with | some c => c | none => .skip
theorem check_SoundExpr.hb : Tryd.f101.body = some check_SoundExpr.c := by kernel_rfl
noncomputable def check_SoundExpr.x (k : Nat) (ls : List (LamS κ)) : Ctx κ := mkCtx [check_in.ent k, tree_Span.ent k, tree_Nest.ent k, check_value.ent k, check_pushed.ent k] [check_in.qent k, tree_Span.qent k, tree_Nest.qent k, check_value.qent k] ls
def check_SoundExpr.i : List (Pat κ) := [.agg [.str, .ro .T42, .ro .T47, .ro .T110, .ro .T9, .ro .T9, .ro .T112, .ro .T98, .int .i64], .ro .T120, .int .i64]
def check_SoundExpr.s0 : Sh κ := ⟨0, [1, 2], [.ro .T120, .int .i64], []⟩
def check_SoundExpr.o0 : List (Ex × Sh κ) := [(.ret, ⟨0, [6], [.bool], []⟩), (.normal, ⟨0, [], [], []⟩)]
noncomputable def check_SoundExpr.l0 (k : Nat) (t1 : List S120) (t2 : Int) : Option ((Bool × Unit) × Unit ⊕ Unit × Unit) :=
    Option.bind (Go.Am.Tryd.check_in k t2 (1 : Int) (2 : Int)) fun r0 =>
      if (!Prod.fst r0) = Bool.false then
        Option.bind (Go.Am.Tryd.check_in k (↑(List.length t1) : Int) (1 : Int) (256 : Int)) fun r1 =>
          if (!Prod.fst r1) = Bool.false then
            Option.bind (Go.Am.Tryd.tree_Span k t1 (Go.IntKind.wrap Go.IntKind.i64 ((↑(List.length t1) : Int) - (1 : Int)))) fun r2 =>
              if (Prod.fst r2 != (0 : Int)) = Bool.false then
                Option.bind (Go.Am.Tryd.tree_Nest k t1) fun r3 =>
                  if Decidable.decide (Prod.fst r3 > (64 : Int)) = Bool.true then Option.some (Sum.inl ((Bool.false, ()), ())) else Option.some (Sum.inr ((), ()))
              else Option.some (Sum.inl ((Bool.false, ()), ()))
          else Option.some (Sum.inl ((Bool.false, ()), ()))
      else Option.some (Sum.inl ((Bool.false, ()), ()))
def check_SoundExpr.w0 : List Nat := [11, 12, 13, 14, 15, 16, 17, 18, 19, 20, 21, 22, 23, 24, 25, 26, 27, 28, 29, 30, 31, 32, 6]
noncomputable def check_SoundExpr.e0 (k : Nat) : check_SoundExpr.s0.den → Option (OutT check_SoundExpr.o0) := fun d => check_SoundExpr.l0 k d.1.1 d.1.2.1
noncomputable def check_SoundExpr.m0 (k : Nat) : LamS κ := ⟨lamK 87 check_SoundExpr.w0 check_SoundExpr.s0 check_SoundExpr.o0 (check_SoundExpr.e0 k)⟩
def check_SoundExpr.s4 : Sh κ := ⟨0, [3, 7, 33, 34, 35], [.ptr 0 0, .own .T3 1, .ro .T120, .int .i64, .int .i64], [.raw 69 [.str, .ro .T42, .ro .T47, .ro .T110, .ro .T9, .ro .T9, .ro .T112, .ro .T98, .int .i64], .rows .T3]⟩
def check_SoundExpr.s1 : Sh κ := ⟨0, [3, 9], [.ptr 0 0, .ptr 1 0], [.raw 69 [.str, .ro .T42, .ro .T47, .ro .T110, .ro .T9, .ro .T9, .ro .T112, .ro .T98, .int .i64], .raw 120 [.int .i64, .int .i32, .str, .int .i64, .int .i64]]⟩
def check_SoundExpr.o1 : List (Ex × Sh κ) := [(.ret, ⟨2, [6], [.bool], [.raw 69 [.str, .ro .T42, .ro .T47, .ro .T110, .ro .T9, .ro .T9, .ro .T112, .ro .T98, .int .i64], .raw 120 [.int .i64, .int .i32, .str, .int .i64, .int .i64]]⟩), (.normal, ⟨2, [3, 9], [.ptr 0 0, .ptr 1 0], [.raw 69 [.str, .ro .T42, .ro .T47, .ro .T110, .ro .T9, .ro .T9, .ro .T112, .ro .T98, .int .i64], .raw 120 [.int .i64, .int .i32, .str, .int .i64, .int .i64]]⟩)]
noncomputable def check_SoundExpr.l1 (k : Nat) (b0 : ByteArray) (b0_1 : List S42) (b0_2 : List S47) (b0_3 : List S110) (b0_4 : List ByteArray) (b0_5 : List ByteArray) (b0_6 : List S112) (b0_7 : List S98) (b0_8 : Int) (b1 : Int) (b1_1 : Int) (b1_2 : ByteArray) (b1_3 : Int) (b1_4 : Int) : Option ((Bool × Unit) ×
        (ByteArray ×
            List Go.Am.Tryd.S42 ×
              List Go.Am.Tryd.S47 × List Go.Am.Tryd.S110 × List ByteArray × List ByteArray × List Go.Am.Tryd.S112 × List Go.Am.Tryd.S98 × Int × Unit) ×
          (Int × Int × ByteArray × Int × Int × Unit) × Unit ⊕
      (Unit × Unit × Unit) ×
        (ByteArray ×
            List Go.Am.Tryd.S42 ×
              List Go.Am.Tryd.S47 × List Go.Am.Tryd.S110 × List ByteArray × List ByteArray × List Go.Am.Tryd.S112 × List Go.Am.Tryd.S98 × Int × Unit) ×
          (Int × Int × ByteArray × Int × Int × Unit) × Unit) :=
    if (!ByteArray.toList b1_2 == ByteArray.toList (ByteArray.mk #[])) = Bool.false then
      if
          Go.Program.eqGuardType (Go.Am.Ctx.P (Go.Am.Tryd.check_SoundExpr.x k [])) (Go.Program.depth (Go.Am.Ctx.P (Go.Am.Tryd.check_SoundExpr.x k [])))
                (118 : Nat) =
              Bool.false ∧
            Go.Program.stoodInHeld (Go.Am.Ctx.P (Go.Am.Tryd.check_SoundExpr.x k [])) (118 : Nat) = Bool.false then
        if (!(b1_3 == (0 : Int) && (b1_4 == (0 : Int) && Bool.true))) = Bool.false then
          Option.bind (Go.Am.Tryd.check_value k b0 b0_1 b0_2 b0_3 b0_4 b0_5 b0_6 b0_7 b0_8 b1 b1_1 b1_2 b1_3 b1_4) fun r0 =>
            if (!Prod.fst r0) = Bool.true then
              Option.some (Sum.inl ((Bool.false, ()), (b0, b0_1, b0_2, b0_3, b0_4, b0_5, b0_6, b0_7, b0_8, ()), (b1, b1_1, b1_2, b1_3, b1_4, ()), ()))
            else Option.some (Sum.inr (((), (), ()), (b0, b0_1, b0_2, b0_3, b0_4, b0_5, b0_6, b0_7, b0_8, ()), (b1, b1_1, b1_2, b1_3, b1_4, ()), ()))
        else Option.some (Sum.inl ((Bool.false, ()), (b0, b0_1, b0_2, b0_3, b0_4, b0_5, b0_6, b0_7, b0_8, ()), (b1, b1_1, b1_2, b1_3, b1_4, ()), ()))
      else Option.none
    else Option.some (Sum.inl ((Bool.false, ()), (b0, b0_1, b0_2, b0_3, b0_4, b0_5, b0_6, b0_7, b0_8, ()), (b1, b1_1, b1_2, b1_3, b1_4, ()), ()))
def check_SoundExpr.w1 : List Nat := [39, 40, 41, 42, 43, 44, 45, 46, 47, 48, 49, 50, 51, 52, 6]
noncomputable def check_SoundExpr.e1 (k : Nat) : check_SoundExpr.s1.den → Option (OutT check_SoundExpr.o1) := fun d => check_SoundExpr.l1 k d.2.1.1 d.2.1.2.1 d.2.1.2.2.1 d.2.1.2.2.2.1 d.2.1.2.2.2.2.1 d.2.1.2.2.2.2.2.1 d.2.1.2.2.2.2.2.2.1 d.2.1.2.2.2.2.2.2.2.1 d.2.1.2.2.2.2.2.2.2.2.1 d.2.2.1.1 d.2.2.1.2.1 d.2.2.1.2.2.1 d.2.2.1.2.2.2.1 d.2.2.1.2.2.2.2.1
noncomputable def check_SoundExpr.m1 (k : Nat) : LamS κ := ⟨lamK 87 check_SoundExpr.w1 check_SoundExpr.s1 check_SoundExpr.o1 (check_SoundExpr.e1 k)⟩
def check_SoundExpr.s2 : Sh κ := ⟨0, [54], [.int .i64], []⟩
def check_SoundExpr.o2 : List (Ex × Sh κ) := [(.normal, ⟨0, [64], [.bool], []⟩)]
noncomputable def check_SoundExpr.l2 (k : Nat) (t54 : Int) : Option ((Bool × Unit) × Unit) :=
    if (t54 == (1 : Int)) = Bool.true then Option.some ((Bool.true, ()), ())
    else
      if (t54 == (4 : Int)) = Bool.true then Option.some ((Bool.true, ()), ())
      else
        if (t54 == (7 : Int)) = Bool.true then Option.some ((Bool.true, ()), ())
        else if (t54 == (8 : Int)) = Bool.true then Option.some ((Bool.true, ()), ()) else Option.some ((t54 == (9 : Int), ()), ())
def check_SoundExpr.w2 : List Nat := [65, 64, 66, 67, 68, 69]
noncomputable def check_SoundExpr.e2 (k : Nat) : check_SoundExpr.s2.den → Option (OutT check_SoundExpr.o2) := fun d => check_SoundExpr.l2 k d.1.1
noncomputable def check_SoundExpr.m2 (k : Nat) : LamS κ := ⟨lamK 87 check_SoundExpr.w2 check_SoundExpr.s2 check_SoundExpr.o2 (check_SoundExpr.e2 k)⟩
def check_SoundExpr.s3 : Sh κ := ⟨0, [54], [.int .i64], []⟩
def check_SoundExpr.o3 : List (Ex × Sh κ) := [(.normal, ⟨0, [73], [.bool], []⟩)]
noncomputable def check_SoundExpr.l3 (k : Nat) (t54 : Int) : Option ((Bool × Unit) × Unit) :=
    if (t54 == (2 : Int)) = Bool.true then Option.some ((Bool.true, ()), ())
    else
      if (t54 == (5 : Int)) = Bool.true then Option.some ((Bool.true, ()), ())
      else if (t54 == (6 : Int)) = Bool.true then Option.some ((Bool.true, ()), ()) else Option.some ((t54 == (10 : Int), ()), ())
def check_SoundExpr.w3 : List Nat := [74, 73, 75, 76, 77]
noncomputable def check_SoundExpr.e3 (k : Nat) : check_SoundExpr.s3.den → Option (OutT check_SoundExpr.o3) := fun d => check_SoundExpr.l3 k d.1.1
noncomputable def check_SoundExpr.m3 (k : Nat) : LamS κ := ⟨lamK 87 check_SoundExpr.w3 check_SoundExpr.s3 check_SoundExpr.o3 (check_SoundExpr.e3 k)⟩
def check_SoundExpr.o4 : List (Ex × Sh κ) := [(.ret, ⟨2, [6], [.bool], [.raw 69 [.str, .ro .T42, .ro .T47, .ro .T110, .ro .T9, .ro .T9, .ro .T112, .ro .T98, .int .i64], .rows .T3]⟩), (.exit 0, ⟨2, [7], [.own .T3 1], [.raw 69 [.str, .ro .T42, .ro .T47, .ro .T110, .ro .T9, .ro .T9, .ro .T112, .ro .T98, .int .i64], .rows .T3]⟩)]
noncomputable def check_SoundExpr.l4 (k : Nat) : Nat → (List S120) → Int → Int → ByteArray → (List S42) → (List S47) → (List S110) → (List ByteArray) → (List ByteArray) → (List S112) → (List S98) → Int → (List Int) → Option ((Bool × Unit) ×
        (ByteArray ×
            List Go.Am.Tryd.S42 ×
              List Go.Am.Tryd.S47 × List Go.Am.Tryd.S110 × List ByteArray × List ByteArray × List Go.Am.Tryd.S112 × List Go.Am.Tryd.S98 × Int × Unit) ×
          List Int × Unit ⊕
      (Unit × Unit) ×
        (ByteArray ×
            List Go.Am.Tryd.S42 ×
              List Go.Am.Tryd.S47 × List Go.Am.Tryd.S110 × List ByteArray × List ByteArray × List Go.Am.Tryd.S112 × List Go.Am.Tryd.S98 × Int × Unit) ×
          List Int × Unit)
  | 0, _, _, _, _, _, _, _, _, _, _, _, _, _ => none
  | j + 1, t33, t34, t35, b0, b0_1, b0_2, b0_3, b0_4, b0_5, b0_6, b0_7, b0_8, b1 =>
    if Decidable.decide (t35 < t34) = Bool.true then
      if (0 : Int) ≤ t35 ∧ t35 < (↑(List.length t33) : Int) then
        Option.bind
          (Go.Am.Tryd.check_SoundExpr.l1 k b0 b0_1 b0_2 b0_3 b0_4 b0_5 b0_6 b0_7 b0_8
            (Go.Am.Tryd.S120.f0 (List.getD t33 (Int.toNat t35) (Go.Am.Tryd.S120.mk (0 : Int) (0 : Int) ByteArray.empty (0 : Int) (0 : Int))))
            (Go.Am.Tryd.S120.f1 (List.getD t33 (Int.toNat t35) (Go.Am.Tryd.S120.mk (0 : Int) (0 : Int) ByteArray.empty (0 : Int) (0 : Int))))
            (Go.Am.Tryd.S120.f2 (List.getD t33 (Int.toNat t35) (Go.Am.Tryd.S120.mk (0 : Int) (0 : Int) ByteArray.empty (0 : Int) (0 : Int))))
            (Go.Am.Tryd.S120.f3 (List.getD t33 (Int.toNat t35) (Go.Am.Tryd.S120.mk (0 : Int) (0 : Int) ByteArray.empty (0 : Int) (0 : Int))))
            (Go.Am.Tryd.S120.f4 (List.getD t33 (Int.toNat t35) (Go.Am.Tryd.S120.mk (0 : Int) (0 : Int) ByteArray.empty (0 : Int) (0 : Int)))))
          fun r0 =>
          Go.Am.onSum r0
            (fun r1 =>
              Option.some
                (Sum.inl
                  ((Prod.fst (Prod.fst r1), ()),
                    (Prod.fst (Prod.fst (Prod.snd r1)), Prod.fst (Prod.snd (Prod.fst (Prod.snd r1))), Prod.fst (Prod.snd (Prod.snd (Prod.fst (Prod.snd r1)))),
                      Prod.fst (Prod.snd (Prod.snd (Prod.snd (Prod.fst (Prod.snd r1))))),
                      Prod.fst (Prod.snd (Prod.snd (Prod.snd (Prod.snd (Prod.fst (Prod.snd r1)))))),
                      Prod.fst (Prod.snd (Prod.snd (Prod.snd (Prod.snd (Prod.snd (Prod.fst (Prod.snd r1))))))),
                      Prod.fst (Prod.snd (Prod.snd (Prod.snd (Prod.snd (Prod.snd (Prod.snd (Prod.fst (Prod.snd r1)))))))),
                      Prod.fst (Prod.snd (Prod.snd (Prod.snd (Prod.snd (Prod.snd (Prod.snd (Prod.snd (Prod.fst (Prod.snd r1))))))))),
                      Prod.fst (Prod.snd (Prod.snd (Prod.snd (Prod.snd (Prod.snd (Prod.snd (Prod.snd (Prod.snd (Prod.fst (Prod.snd r1)))))))))), ()),
                    b1, ())))
            fun r1 =>
            Option.bind (Go.Am.Tryd.check_SoundExpr.l2 k (Prod.fst (Prod.fst (Prod.snd (Prod.snd r1))))) fun r2 =>
              if Prod.fst (Prod.fst r2) = Bool.true then
                Go.Am.room ((List.length b1 + List.length [(1 : Int)]) * (8 : Nat))
                  (check_SoundExpr.l4 k j t33 t34 (Go.IntKind.wrap Go.IntKind.i64 (t35 + (1 : Int))) (Prod.fst (Prod.fst (Prod.snd r1)))
                    (Prod.fst (Prod.snd (Prod.fst (Prod.snd r1)))) (Prod.fst (Prod.snd (Prod.snd (Prod.fst (Prod.snd r1)))))
                    (Prod.fst (Prod.snd (Prod.snd (Prod.snd (Prod.fst (Prod.snd r1))))))
                    (Prod.fst (Prod.snd (Prod.snd (Prod.snd (Prod.snd (Prod.fst (Prod.snd r1)))))))
                    (Prod.fst (Prod.snd (Prod.snd (Prod.snd (Prod.snd (Prod.snd (Prod.fst (Prod.snd r1))))))))
                    (Prod.fst (Prod.snd (Prod.snd (Prod.snd (Prod.snd (Prod.snd (Prod.snd (Prod.fst (Prod.snd r1)))))))))
                    (Prod.fst (Prod.snd (Prod.snd (Prod.snd (Prod.snd (Prod.snd (Prod.snd (Prod.snd (Prod.fst (Prod.snd r1))))))))))
                    (Prod.fst (Prod.snd (Prod.snd (Prod.snd (Prod.snd (Prod.snd (Prod.snd (Prod.snd (Prod.snd (Prod.fst (Prod.snd r1))))))))))) (b1 ++ [(1 : Int)]))
              else
                Option.bind (Go.Am.Tryd.check_SoundExpr.l3 k (Prod.fst (Prod.fst (Prod.snd (Prod.snd r1))))) fun r3 =>
                  if Prod.fst (Prod.fst r3) = Bool.true then
                    Go.Am.room ((List.length b1 + List.length [(2 : Int)]) * (8 : Nat))
                      (check_SoundExpr.l4 k j t33 t34 (Go.IntKind.wrap Go.IntKind.i64 (t35 + (1 : Int))) (Prod.fst (Prod.fst (Prod.snd r1)))
                        (Prod.fst (Prod.snd (Prod.fst (Prod.snd r1)))) (Prod.fst (Prod.snd (Prod.snd (Prod.fst (Prod.snd r1)))))
                        (Prod.fst (Prod.snd (Prod.snd (Prod.snd (Prod.fst (Prod.snd r1))))))
                        (Prod.fst (Prod.snd (Prod.snd (Prod.snd (Prod.snd (Prod.fst (Prod.snd r1)))))))
                        (Prod.fst (Prod.snd (Prod.snd (Prod.snd (Prod.snd (Prod.snd (Prod.fst (Prod.snd r1))))))))
                        (Prod.fst (Prod.snd (Prod.snd (Prod.snd (Prod.snd (Prod.snd (Prod.snd (Prod.fst (Prod.snd r1)))))))))
                        (Prod.fst (Prod.snd (Prod.snd (Prod.snd (Prod.snd (Prod.snd (Prod.snd (Prod.snd (Prod.fst (Prod.snd r1))))))))))
                        (Prod.fst (Prod.snd (Prod.snd (Prod.snd (Prod.snd (Prod.snd (Prod.snd (Prod.snd (Prod.snd (Prod.fst (Prod.snd r1)))))))))))
                        (b1 ++ [(2 : Int)]))
                  else
                    Option.bind (Go.Am.Tryd.check_pushed k (Prod.fst (Prod.fst (Prod.snd (Prod.snd r1)))) b1) fun r4 =>
                      if (!Prod.fst (Prod.snd (Prod.fst (Prod.fst r4)))) = Bool.true then
                        Option.some
                          (Sum.inl
                            ((Bool.false, ()),
                              (Prod.fst (Prod.fst (Prod.snd r1)), Prod.fst (Prod.snd (Prod.fst (Prod.snd r1))),
                                Prod.fst (Prod.snd (Prod.snd (Prod.fst (Prod.snd r1)))), Prod.fst (Prod.snd (Prod.snd (Prod.snd (Prod.fst (Prod.snd r1))))),
                                Prod.fst (Prod.snd (Prod.snd (Prod.snd (Prod.snd (Prod.fst (Prod.snd r1)))))),
                                Prod.fst (Prod.snd (Prod.snd (Prod.snd (Prod.snd (Prod.snd (Prod.fst (Prod.snd r1))))))),
                                Prod.fst (Prod.snd (Prod.snd (Prod.snd (Prod.snd (Prod.snd (Prod.snd (Prod.fst (Prod.snd r1)))))))),
                                Prod.fst (Prod.snd (Prod.snd (Prod.snd (Prod.snd (Prod.snd (Prod.snd (Prod.snd (Prod.fst (Prod.snd r1))))))))),
                                Prod.fst (Prod.snd (Prod.snd (Prod.snd (Prod.snd (Prod.snd (Prod.snd (Prod.snd (Prod.snd (Prod.fst (Prod.snd r1)))))))))), ()),
                              Prod.fst (Prod.snd r4), ()))
                      else
                        check_SoundExpr.l4 k j t33 t34 (Go.IntKind.wrap Go.IntKind.i64 (t35 + (1 : Int))) (Prod.fst (Prod.fst (Prod.snd r1)))
                          (Prod.fst (Prod.snd (Prod.fst (Prod.snd r1)))) (Prod.fst (Prod.snd (Prod.snd (Prod.fst (Prod.snd r1)))))
                          (Prod.fst (Prod.snd (Prod.snd (Prod.snd (Prod.fst (Prod.snd r1))))))
                          (Prod.fst (Prod.snd (Prod.snd (Prod.snd (Prod.snd (Prod.fst (Prod.snd r1)))))))
                          (Prod.fst (Prod.snd (Prod.snd (Prod.snd (Prod.snd (Prod.snd (Prod.fst (Prod.snd r1))))))))
                          (Prod.fst (Prod.snd (Prod.snd (Prod.snd (Prod.snd (Prod.snd (Prod.snd (Prod.fst (Prod.snd r1)))))))))
                          (Prod.fst (Prod.snd (Prod.snd (Prod.snd (Prod.snd (Prod.snd (Prod.snd (Prod.snd (Prod.fst (Prod.snd r1))))))))))
                          (Prod.fst (Prod.snd (Prod.snd (Prod.snd (Prod.snd (Prod.snd (Prod.snd (Prod.snd (Prod.snd (Prod.fst (Prod.snd r1)))))))))))
                          (Prod.fst (Prod.snd r4))
      else Option.none
    else Option.some (Sum.inr (((), ()), (b0, b0_1, b0_2, b0_3, b0_4, b0_5, b0_6, b0_7, b0_8, ()), b1, ()))
def check_SoundExpr.w4 : List Nat := [36, 37, 38, 9, 39, 40, 41, 42, 43, 44, 45, 46, 47, 48, 49, 50, 51, 52, 6, 53, 54, 65, 64, 66, 67, 68, 69, 70, 71, 72, 7, 74, 73, 75, 76, 77, 78, 79, 80, 10, 56, 57, 58, 59, 55, 60, 61, 62, 63, 81, 35]
noncomputable def check_SoundExpr.e4 (k j : Nat) : check_SoundExpr.s4.den → Option (OutT check_SoundExpr.o4) := fun d => check_SoundExpr.l4 k j d.1.2.2.1 d.1.2.2.2.1 d.1.2.2.2.2.1 d.2.1.1 d.2.1.2.1 d.2.1.2.2.1 d.2.1.2.2.2.1 d.2.1.2.2.2.2.1 d.2.1.2.2.2.2.2.1 d.2.1.2.2.2.2.2.2.1 d.2.1.2.2.2.2.2.2.2.1 d.2.1.2.2.2.2.2.2.2.2.1 d.2.2.1
noncomputable def check_SoundExpr.m4 (k : Nat) : LamS κ := ⟨lamK 87 check_SoundExpr.w4 check_SoundExpr.s4 check_SoundExpr.o4 (check_SoundExpr.e4 k k)⟩
def check_SoundExpr.p : Pat κ := .bool
def check_SoundExpr.b : List (BPat κ) := []
noncomputable def check_SoundExpr (k : Nat) (t0 : ByteArray) (t0_1 : List S42) (t0_2 : List S47) (t0_3 : List S110) (t0_4 : List ByteArray) (t0_5 : List ByteArray) (t0_6 : List S112) (t0_7 : List S98) (t0_8 : Int) (t1 : List S120) (t2 : Int) : Option (Bool × Unit) :=
    Option.bind (Go.Am.Tryd.check_SoundExpr.l0 k t1 t2) fun r0 =>
      Go.Am.onSum r0 (fun r1 => Option.some (Prod.fst (Prod.fst r1), ())) fun r1 =>
        Option.bind (Go.Am.Tryd.check_SoundExpr.l4 k k t1 (↑(List.length t1) : Int) (0 : Int) t0 t0_1 t0_2 t0_3 t0_4 t0_5 t0_6 t0_7 t0_8 []) fun r2 =>
          Go.Am.onSum r2 (fun r3 => Option.some (Prod.fst (Prod.fst r3), ())) fun r3 =>
            if (0 : Int) ≤ (0 : Int) ∧ (0 : Int) < (↑(List.length (Prod.fst (Prod.snd (Prod.snd r3)))) : Int) then
              Option.some (List.getD (Prod.fst (Prod.snd (Prod.snd r3))) (Int.toNat (0 : Int)) (0 : Int) == t2, ())
            else Option.none
noncomputable def check_SoundExpr.f (k : Nat) : dens check_SoundExpr.i → Option (check_SoundExpr.p.den × densB check_SoundExpr.b) := fun d => check_SoundExpr k d.1.1 d.1.2.1 d.1.2.2.1 d.1.2.2.2.1 d.1.2.2.2.2.1 d.1.2.2.2.2.2.1 d.1.2.2.2.2.2.2.1 d.1.2.2.2.2.2.2.2.1 d.1.2.2.2.2.2.2.2.2.1 d.2.1 d.2.2.1
noncomputable def check_SoundExpr.ctx (k : Nat) : Ctx κ := check_SoundExpr.x k [check_SoundExpr.m0 k, check_SoundExpr.m1 k, check_SoundExpr.m2 k, check_SoundExpr.m3 k, check_SoundExpr.m4 k]
theorem check_SoundExpr.xOk (k : Nat) : (check_SoundExpr.ctx k).Ok := ctxOk ⟨check_in.entOk k, tree_Span.entOk k, tree_Nest.entOk k, check_value.entOk k, check_pushed.entOk k, trivial⟩ ⟨check_in.qentOk k, tree_Span.qentOk k, tree_Nest.qentOk k, check_value.qentOk k, trivial⟩
theorem check_SoundExpr.k0 (k : Nat) : LamOk (check_SoundExpr.ctx k) ((check_SoundExpr.ctx k).Λ 0) (sub [1, 0] check_SoundExpr.c) :=
  cut_ok (kindOf := kindOf) (C := check_SoundExpr.ctx k) (n := .none) (L := check_SoundExpr.e0 k) (check_SoundExpr.xOk k) (by kernel_rfl) (by kernel_rfl) (fits_of (l := []) (by kernel_rfl) trivial) (fun _ => by kernel_rfl)
theorem check_SoundExpr.k1 (k : Nat) : LamOk (check_SoundExpr.ctx k) ((check_SoundExpr.ctx k).Λ 1) (sub [1, 1, 1, 0, 1, 0, 0, 1, 1, 0, 0, 1, 0] check_SoundExpr.c) :=
  cut_ok (kindOf := kindOf) (C := check_SoundExpr.ctx k) (n := .none) (L := check_SoundExpr.e1 k) (check_SoundExpr.xOk k) (by kernel_rfl) (by kernel_rfl) (fits_of (l := []) (by kernel_rfl) trivial) (fun _ => by kernel_rfl)
theorem check_SoundExpr.k2 (k : Nat) : LamOk (check_SoundExpr.ctx k) ((check_SoundExpr.ctx k).Λ 2) (sub [1, 1, 1, 0, 1, 0, 0, 1, 1, 0, 0, 1, 1, 1, 0, 0] check_SoundExpr.c) :=
  cut_ok (kindOf := kindOf) (C := check_SoundExpr.ctx k) (n := .none) (L := check_SoundExpr.e2 k) (check_SoundExpr.xOk k) (by kernel_rfl) (by kernel_rfl) (fits_of (l := []) (by kernel_rfl) trivial) (fun _ => by kernel_rfl)
theorem check_SoundExpr.k3 (k : Nat) : LamOk (check_SoundExpr.ctx k) ((check_SoundExpr.ctx k).Λ 3) (sub [1, 1, 1, 0, 1, 0, 0, 1, 1, 0, 0, 1, 1, 1, 0, 1, 1, 0] check_SoundExpr.c) :=
  cut_ok (kindOf := kindOf) (C := check_SoundExpr.ctx k) (n := .none) (L := check_SoundExpr.e3 k) (check_SoundExpr.xOk k) (by kernel_rfl) (by kernel_rfl) (fits_of (l := []) (by kernel_rfl) trivial) (fun _ => by kernel_rfl)
theorem check_SoundExpr.k4 (k : Nat) : LamOk (check_SoundExpr.ctx k) ((check_SoundExpr.ctx k).Λ 4) (.loop (sub [1, 1, 1, 0, 1, 0, 0] check_SoundExpr.c)) :=
  loop_ok (kindOf := kindOf) (C := check_SoundExpr.ctx k) (n := (.pair .none (.pair .none (.pair (.pair (.pair .none (.pair (.cut 1) (.pair .none (.pair (.pair (.cut 2) (.pair .none (.pair (.cut 3) .none))) .none)))) .none) .none)))) (L := check_SoundExpr.e4 k) (check_SoundExpr.xOk k) (by kernel_rfl) (by kernel_rfl) (fits_of (l := [(1, (sub [1, 1, 1, 0, 1, 0, 0, 1, 1, 0, 0, 1, 0] check_SoundExpr.c)), (2, (sub [1, 1, 1, 0, 1, 0, 0, 1, 1, 0, 0, 1, 1, 1, 0, 0] check_SoundExpr.c)), (3, (sub [1, 1, 1, 0, 1, 0, 0, 1, 1, 0, 0, 1, 1, 1, 0, 1, 1, 0] check_SoundExpr.c))]) (by kernel_rfl) ⟨check_SoundExpr.k1 k, check_SoundExpr.k2 k, check_SoundExpr.k3 k, trivial⟩) (fun _ => by kernel_rfl) (fun _ _ => by kernel_rfl) k
theorem check_SoundExpr.call (k : Nat) : CallV Tryd.prog E glob 101 check_SoundExpr.i check_SoundExpr.p check_SoundExpr.b (check_SoundExpr.f k) :=
  fn_okZ (kindOf := kindOf) (C := check_SoundExpr.ctx k) (n := (.pair .none (.pair (.cut 0) (.pair .none (.pair (.pair .none (.pair (.cut 4) .none)) .none))))) (check_SoundExpr.xOk k) Tryd.func101 check_SoundExpr.hb (fits_of (l := [(0, (sub [1, 0] check_SoundExpr.c)), (4, .loop (sub [1, 1, 1, 0, 1, 0, 0] check_SoundExpr.c))]) (by kernel_rfl) ⟨check_SoundExpr.k0 k, check_SoundExpr.k4 k, trivial⟩) (fun _ => by kernel_rfl)
noncomputable def check_SoundExpr.ent (k : Nat) : EntS κ := ⟨101, [], entOf check_SoundExpr.i check_SoundExpr.p check_SoundExpr.b true (check_SoundExpr.f k) E⟩
theorem check_SoundExpr.entOk (k : Nat) : EntOk Tryd.prog E glob 101 (check_SoundExpr.ent k).run := ent_free encOk (callable_of Tryd.func101 (by kernel_rfl) (by kernel_rfl)) (by rfl) trivial (check_SoundExpr.call k)
noncomputable def check_SoundExpr.qent (k : Nat) : QEntS κ := ⟨101, qentOf check_SoundExpr.i check_SoundExpr.p (check_SoundExpr.f k) E⟩
theorem check_SoundExpr.qentOk (k : Nat) : QEntOk Tryd.prog E glob 101 (check_SoundExpr.qent k).run := qent_ok encOk (callable_of Tryd.func101 (by kernel_rfl) (by kernel_rfl)) (check_SoundExpr.call k)
noncomputable def check_soundStmt.c : Go.Code := match Tryd.f112.body with | some c => c | none => .skip
theorem check_soundStmt.hb : Tryd.f112.body = some check_soundStmt.c := by kernel_rfl
noncomputable def check_soundStmt.x (k : Nat) (ls : List (LamS κ)) : Ctx κ := mkCtx [check_SoundExpr.ent k] [check_SoundExpr.qent k] ls
def check_soundStmt.i : List (Pat κ) := [.rop [.str, .ro .T42, .ro .T47, .ro .T110, .ro .T9, .ro .T9, .ro .T112, .ro .T98, .int .i64], .agg [.int .i64, .str, .int .i64, .ro .T120, .int .i64, .int .i64]]
def check_soundStmt.s0 : Sh κ := ⟨0, [3], [.rop [.int .i64, .str, .int .i64, .ro .T120, .int .i64, .int .i64]], []⟩
def check_soundStmt.o0 : List (Ex × Sh κ) := [(.ret, ⟨0, [4], [.bool], []⟩), (.normal, ⟨0, [], [], []⟩)]
noncomputable def check_soundStmt.l0 (k : Nat) (t3 : Int) (t3_1 : ByteArray) (t3_2 : Int) (t3_3 : List S120) (t3_4 : Int) (t3_5 : Int) : Option ((Bool × Unit) × Unit ⊕ Unit × Unit) :=
    if (!ByteArray.toList t3_1 == ByteArray.toList (ByteArray.mk #[])) = Bool.false then
      if
          Go.Program.eqGuardType (Go.Am.Ctx.P (Go.Am.Tryd.check_soundStmt.x k [])) (Go.Program.depth (Go.Am.Ctx.P (Go.Am.Tryd.check_soundStmt.x k [])))
                (118 : Nat) =
              Bool.false ∧
            Go.Program.stoodInHeld (Go.Am.Ctx.P (Go.Am.Tryd.check_soundStmt.x k [])) (118 : Nat) = Bool.false then
        if (!(t3_4 == (0 : Int) && (t3_5 == (0 : Int) && Bool.true))) = Bool.false then
          if Decidable.decide (t3_2 < (0 : Int)) = Bool.true then Option.some (Sum.inl ((Bool.false, ()), ())) else Option.some (Sum.inr ((), ()))
        else Option.some (Sum.inl ((Bool.false, ()), ()))
      else Option.none
    else Option.some (Sum.inl ((Bool.false, ()), ()))
def check_soundStmt.w0 : List Nat := [5, 6, 7, 8, 9, 10, 11, 12, 13, 14, 15, 16, 17, 18, 4]
noncomputable def check_soundStmt.e0 (k : Nat) : check_soundStmt.s0.den → Option (OutT check_soundStmt.o0) := fun d => check_soundStmt.l0 k d.1.1.1 d.1.1.2.1 d.1.1.2.2.1 d.1.1.2.2.2.1 d.1.1.2.2.2.2.1 d.1.1.2.2.2.2.2.1
noncomputable def check_soundStmt.m0 (k : Nat) : LamS κ := ⟨lamK 97 check_soundStmt.w0 check_soundStmt.s0 check_soundStmt.o0 (check_soundStmt.e0 k)⟩
def check_soundStmt.s1 : Sh κ := ⟨0, [57], [.int .i64], []⟩
def check_soundStmt.o1 : List (Ex × Sh κ) := [(.normal, ⟨0, [58], [.bool], []⟩)]
noncomputable def check_soundStmt.l1 (k : Nat) (t57 : Int) : Option ((Bool × Unit) × Unit) :=
    if (t57 == (2 : Int)) = Bool.true then Option.some ((Bool.true, ()), ())
    else if (t57 == (3 : Int)) = Bool.true then Option.some ((Bool.true, ()), ()) else Option.some ((t57 == (4 : Int), ()), ())
def check_soundStmt.w1 : List Nat := [59, 58, 60, 61]
noncomputable def check_soundStmt.e1 (k : Nat) : check_soundStmt.s1.den → Option (OutT check_soundStmt.o1) := fun d => check_soundStmt.l1 k d.1.1
noncomputable def check_soundStmt.m1 (k : Nat) : LamS κ := ⟨lamK 97 check_soundStmt.w1 check_soundStmt.s1 check_soundStmt.o1 (check_soundStmt.e1 k)⟩
def check_soundStmt.s2 : Sh κ := ⟨0, [57], [.int .i64], []⟩
def check_soundStmt.o2 : List (Ex × Sh κ) := [(.normal, ⟨0, [70], [.bool], []⟩)]
noncomputable def check_soundStmt.l2 (k : Nat) (t57 : Int) : Option ((Bool × Unit) × Unit) :=
    if (t57 == (5 : Int)) = Bool.true then Option.some ((Bool.true, ()), ()) else Option.some ((t57 == (10 : Int), ()), ())
def check_soundStmt.w2 : List Nat := [71, 70, 72]
noncomputable def check_soundStmt.e2 (k : Nat) : check_soundStmt.s2.den → Option (OutT check_soundStmt.o2) := fun d => check_soundStmt.l2 k d.1.1
noncomputable def check_soundStmt.m2 (k : Nat) : LamS κ := ⟨lamK 97 check_soundStmt.w2 check_soundStmt.s2 check_soundStmt.o2 (check_soundStmt.e2 k)⟩
def check_soundStmt.s3 : Sh κ := ⟨0, [57], [.int .i64], []⟩
def check_soundStmt.o3 : List (Ex × Sh κ) := [(.normal, ⟨0, [91], [.bool], []⟩)]
noncomputable def check_soundStmt.l3 (k : Nat) (t57 : Int) : Option ((Bool × Unit) × Unit) :=
    if (t57 == (8 : Int)) = Bool.true then Option.some ((Bool.true, ()), ()) else Option.some ((t57 == (9 : Int), ()), ())
def check_soundStmt.w3 : List Nat := [92, 91, 93]
noncomputable def check_soundStmt.e3 (k : Nat) : check_soundStmt.s3.den → Option (OutT check_soundStmt.o3) := fun d => check_soundStmt.l3 k d.1.1
noncomputable def check_soundStmt.m3 (k : Nat) : LamS κ := ⟨lamK 97 check_soundStmt.w3 check_soundStmt.s3 check_soundStmt.o3 (check_soundStmt.e3 k)⟩
def check_soundStmt.p : Pat κ := .bool
def check_soundStmt.b : List (BPat κ) := []
noncomputable def check_soundStmt (k : Nat) (t0 : ByteArray) (t0_1 : List S42) (t0_2 : List S47) (t0_3 : List S110) (t0_4 : List ByteArray) (t0_5 : List ByteArray) (t0_6 : List S112) (t0_7 : List S98) (t0_8 : Int) (t1 : Int) (t1_1 : ByteArray) (t1_2 : Int) (t1_3 : List S120) (t1_4 : Int) (t1_5 : Int) : Option (Bool × Unit) :=
    Option.bind (Go.Am.Tryd.check_soundStmt.l0 k t1 t1_1 t1_2 t1_3 t1_4 t1_5) fun r0 =>
      Go.Am.onSum r0 (fun r1 => Option.some (Prod.fst (Prod.fst r1), ())) fun r1 =>
        if (t1 == (1 : Int)) = Bool.true then
          if Decidable.decide (t1_2 < (↑(List.length t0_6) : Int)) = Bool.true then
            Option.bind (Go.Am.Tryd.check_SoundExpr k t0 t0_1 t0_2 t0_3 t0_4 t0_5 t0_6 t0_7 t0_8 t1_3 (1 : Int)) fun r2 => Option.some (Prod.fst r2, ())
          else Option.some (Bool.false, ())
        else
          if (t1 == (7 : Int)) = Bool.true then
            if (t1_2 == (0 : Int)) = Bool.true then
              Option.bind (Go.Am.Tryd.check_SoundExpr k t0 t0_1 t0_2 t0_3 t0_4 t0_5 t0_6 t0_7 t0_8 t1_3 (2 : Int)) fun r3 => Option.some (Prod.fst r3, ())
            else Option.some (Bool.false, ())
          else
            if ((↑(List.length t1_3) : Int) != (0 : Int)) = Bool.true then Option.some (Bool.false, ())
            else
              Option.bind (Go.Am.Tryd.check_soundStmt.l1 k t1) fun r4 =>
                if Prod.fst (Prod.fst r4) = Bool.true then Option.some (Decidable.decide (t1_2 < (↑(List.length t0_4) : Int)), ())
                else
                  Option.bind (Go.Am.Tryd.check_soundStmt.l2 k t1) fun r5 =>
                    if Prod.fst (Prod.fst r5) = Bool.true then Option.some (Decidable.decide (t1_2 < (↑(List.length t0_5) : Int)), ())
                    else
                      if (t1 == (6 : Int)) = Bool.true then Option.some (Decidable.decide (t1_2 < (↑(List.length t0_3) : Int)), ())
                      else
                        Option.bind (Go.Am.Tryd.check_soundStmt.l3 k t1) fun r6 =>
                          if Prod.fst (Prod.fst r6) = Bool.true then Option.some (t1_2 == (0 : Int), ()) else Option.some (Bool.false, ())
noncomputable def check_soundStmt.f (k : Nat) : dens check_soundStmt.i → Option (check_soundStmt.p.den × densB check_soundStmt.b) := fun d => check_soundStmt k d.1.1 d.1.2.1 d.1.2.2.1 d.1.2.2.2.1 d.1.2.2.2.2.1 d.1.2.2.2.2.2.1 d.1.2.2.2.2.2.2.1 d.1.2.2.2.2.2.2.2.1 d.1.2.2.2.2.2.2.2.2.1 d.2.1.1 d.2.1.2.1 d.2.1.2.2.1 d.2.1.2.2.2.1 d.2.1.2.2.2.2.1 d.2.1.2.2.2.2.2.1
noncomputable def check_soundStmt.ctx (k : Nat) : Ctx κ := check_soundStmt.x k [check_soundStmt.m0 k, check_soundStmt.m1 k, check_soundStmt.m2 k, check_soundStmt.m3 k]
theorem check_soundStmt.xOk (k : Nat) : (check_soundStmt.ctx k).Ok := ctxOk ⟨check_SoundExpr.entOk k, trivial⟩ ⟨check_SoundExpr.qentOk k, trivial⟩
theorem check_soundStmt.k0 (k : Nat) : LamOk (check_soundStmt.ctx k) ((check_soundStmt.ctx k).Λ 0) (sub [1, 0] check_soundStmt.c) :=
  cut_ok (kindOf := kindOf) (C := check_soundStmt.ctx k) (n := .none) (L := check_soundStmt.e0 k) (check_soundStmt.xOk k) (by kernel_rfl) (by kernel_rfl) (fits_of (l := []) (by kernel_rfl) trivial) (fun _ => by kernel_rfl)
theorem check_soundStmt.k1 (k : Nat) : LamOk (check_soundStmt.ctx k) ((check_soundStmt.ctx k).Λ 1) (sub [1, 1, 1, 1, 0, 1, 0, 0] check_soundStmt.c) :=
  cut_ok (kindOf := kindOf) (C := check_soundStmt.ctx k) (n := .none) (L := check_soundStmt.e1 k) (check_soundStmt.xOk k) (by kernel_rfl) (by kernel_rfl) (fits_of (l := []) (by kernel_rfl) trivial) (fun _ => by kernel_rfl)
theorem check_soundStmt.k2 (k : Nat) : LamOk (check_soundStmt.ctx k) ((check_soundStmt.ctx k).Λ 2) (sub [1, 1, 1, 1, 0, 1, 0, 1, 1, 0] check_soundStmt.c) :=
  cut_ok (kindOf := kindOf) (C := check_soundStmt.ctx k) (n := .none) (L := check_soundStmt.e2 k) (check_soundStmt.xOk k) (by kernel_rfl) (by kernel_rfl) (fits_of (l := []) (by kernel_rfl) trivial) (fun _ => by kernel_rfl)
theorem check_soundStmt.k3 (k : Nat) : LamOk (check_soundStmt.ctx k) ((check_soundStmt.ctx k).Λ 3) (sub [1, 1, 1, 1, 0, 1, 0, 1, 1, 1, 1, 1, 1, 0] check_soundStmt.c) :=
  cut_ok (kindOf := kindOf) (C := check_soundStmt.ctx k) (n := .none) (L := check_soundStmt.e3 k) (check_soundStmt.xOk k) (by kernel_rfl) (by kernel_rfl) (fits_of (l := []) (by kernel_rfl) trivial) (fun _ => by kernel_rfl)
theorem check_soundStmt.call (k : Nat) : CallV Tryd.prog E glob 112 check_soundStmt.i check_soundStmt.p check_soundStmt.b (check_soundStmt.f k) :=
  fn_okZ (kindOf := kindOf) (C := check_soundStmt.ctx k) (n := (.pair (.ops [0] 0) (.pair (.cut 0) (.pair (.pair .none (.pair (.pair .none (.pair (.pair (.ops [] 17) .none) (.pair .none (.pair (.pair (.ops [] 12) .none) .none)))) .none)) (.pair .none (.pair (.pair .none (.pair (.pair (.cut 1) (.pair (.pair (.ops [] 9) .none) (.pair (.cut 2) (.pair (.pair (.ops [] 9) .none) (.pair .none (.pair (.pair (.ops [] 9) .none) (.pair (.cut 3) .none))))))) .none)) .none)))))) (check_soundStmt.xOk k) Tryd.func112 check_soundStmt.hb (fits_of (l := [(0, (sub [1, 0] check_soundStmt.c)), (1, (sub [1, 1, 1, 1, 0, 1, 0, 0] check_soundStmt.c)), (2, (sub [1, 1, 1, 1, 0, 1, 0, 1, 1, 0] check_soundStmt.c)), (3, (sub [1, 1, 1, 1, 0, 1, 0, 1, 1, 1, 1, 1, 1, 0] check_soundStmt.c))]) (by kernel_rfl) ⟨check_soundStmt.k0 k, check_soundStmt.k1 k, check_soundStmt.k2 k, check_soundStmt.k3 k, trivial⟩) (fun _ => by kernel_rfl)
noncomputable def check_soundStmt.ent (k : Nat) : EntS κ := ⟨112, [], entOf check_soundStmt.i check_soundStmt.p check_soundStmt.b true (check_soundStmt.f k) E⟩
theorem check_soundStmt.entOk (k : Nat) : EntOk Tryd.prog E glob 112 (check_soundStmt.ent k).run := ent_free encOk (callable_of Tryd.func112 (by kernel_rfl) (by kernel_rfl)) (by rfl) trivial (check_soundStmt.call k)
noncomputable def check_soundStmt.qent (k : Nat) : QEntS κ := ⟨112, qentOf check_soundStmt.i check_soundStmt.p (check_soundStmt.f k) E⟩
theorem check_soundStmt.qentOk (k : Nat) : QEntOk Tryd.prog E glob 112 (check_soundStmt.qent k).run := qent_ok encOk (callable_of Tryd.func112 (by kernel_rfl) (by kernel_rfl)) (check_soundStmt.call k)
noncomputable def check_soundList.c : Go.Code := match Tryd.f100.body with | some c => c | none => .skip
theorem check_soundList.hb : Tryd.f100.body = some check_soundList.c := by kernel_rfl
noncomputable def check_soundList.x (k : Nat) (ls : List (LamS κ)) : Ctx κ := mkCtx [check_soundStmt.ent k] [check_soundStmt.qent k] ls
def check_soundList.i : List (Pat κ) := [.rop [.str, .ro .T42, .ro .T47, .ro .T110, .ro .T9, .ro .T9, .ro .T112, .ro .T98, .int .i64], .ro .T165]
def check_soundList.s1 : Sh κ := ⟨0, [0, 5, 9, 10, 11], [.rop [.str, .ro .T42, .ro .T47, .ro .T110, .ro .T9, .ro .T9, .ro .T112, .ro .T98, .int .i64], .own .T4 0, .ro .T165, .int .i64, .int .i64], [.rows .T4]⟩
def check_soundList.s0 : Sh κ := ⟨0, [5, 8], [.own .T4 0, .int .i64], [.rows .T4]⟩
def check_soundList.o0 : List (Ex × Sh κ) := [(.ret, ⟨1, [4], [.bool], [.rows .T4]⟩), (.normal, ⟨1, [5], [.own .T4 0], [.rows .T4]⟩)]
noncomputable def check_soundList.l0 (k : Nat) (t8 : Int) (b0 : List Bool) : Option ((Bool × Unit) × List Bool × Unit ⊕ (Unit × Unit) × List Bool × Unit) :=
    if (t8 == (0 : Int)) = Bool.false then
      if (0 : Int) ≤ Go.IntKind.wrap Go.IntKind.i64 (t8 - (1 : Int)) ∧ Go.IntKind.wrap Go.IntKind.i64 (t8 - (1 : Int)) < (↑(List.length b0) : Int) then
        if List.getD b0 (Int.toNat (Go.IntKind.wrap Go.IntKind.i64 (t8 - (1 : Int)))) Bool.false = Bool.true then Option.some (Sum.inl ((Bool.false, ()), b0, ()))
        else Option.some (Sum.inr (((), ()), b0, ()))
      else Option.none
    else Option.some (Sum.inl ((Bool.false, ()), b0, ()))
def check_soundList.w0 : List Nat := [32, 33, 34, 35, 36, 37, 38, 39, 40, 4]
noncomputable def check_soundList.e0 (k : Nat) : check_soundList.s0.den → Option (OutT check_soundList.o0) := fun d => check_soundList.l0 k d.1.2.1 d.2.1
noncomputable def check_soundList.m0 (k : Nat) : LamS κ := ⟨lamK 57 check_soundList.w0 check_soundList.s0 check_soundList.o0 (check_soundList.e0 k)⟩
def check_soundList.o1 : List (Ex × Sh κ) := [(.ret, ⟨1, [4], [.bool], [.rows .T4]⟩), (.exit 0, ⟨1, [5], [.own .T4 0], [.rows .T4]⟩)]
noncomputable def check_soundList.l1 (k : Nat) : Nat → ByteArray → (List S42) → (List S47) → (List S110) → (List ByteArray) → (List ByteArray) → (List S112) → (List S98) → Int → (List S165) → Int → Int → (List Bool) → Option ((Bool × Unit) × List Bool × Unit ⊕ (Unit × Unit) × List Bool × Unit)
  | 0, _, _, _, _, _, _, _, _, _, _, _, _, _ => none
  | j + 1, t0, t0_1, t0_2, t0_3, t0_4, t0_5, t0_6, t0_7, t0_8, t9, t10, t11, b0 =>
    if Decidable.decide (t11 < t10) = Bool.true then
      if (0 : Int) ≤ t11 ∧ t11 < (↑(List.length t9) : Int) then
        Option.bind
          (Go.Am.Tryd.check_soundStmt k t0 t0_1 t0_2 t0_3 t0_4 t0_5 t0_6 t0_7 t0_8
            (Go.Am.Tryd.S165.f0 (List.getD t9 (Int.toNat t11) (Go.Am.Tryd.S165.mk (0 : Int) ByteArray.empty (0 : Int) [] (0 : Int) (0 : Int))))
            (Go.Am.Tryd.S165.f1 (List.getD t9 (Int.toNat t11) (Go.Am.Tryd.S165.mk (0 : Int) ByteArray.empty (0 : Int) [] (0 : Int) (0 : Int))))
            (Go.Am.Tryd.S165.f2 (List.getD t9 (Int.toNat t11) (Go.Am.Tryd.S165.mk (0 : Int) ByteArray.empty (0 : Int) [] (0 : Int) (0 : Int))))
            (Go.Am.Tryd.S165.f3 (List.getD t9 (Int.toNat t11) (Go.Am.Tryd.S165.mk (0 : Int) ByteArray.empty (0 : Int) [] (0 : Int) (0 : Int))))
            (Go.Am.Tryd.S165.f4 (List.getD t9 (Int.toNat t11) (Go.Am.Tryd.S165.mk (0 : Int) ByteArray.empty (0 : Int) [] (0 : Int) (0 : Int))))
            (Go.Am.Tryd.S165.f5 (List.getD t9 (Int.toNat t11) (Go.Am.Tryd.S165.mk (0 : Int) ByteArray.empty (0 : Int) [] (0 : Int) (0 : Int)))))
          fun r0 =>
          if (!Prod.fst r0) = Bool.true then Option.some (Sum.inl ((Bool.false, ()), b0, ()))
          else
            if
                (Go.Am.Tryd.S165.f0 (List.getD t9 (Int.toNat t11) (Go.Am.Tryd.S165.mk (0 : Int) ByteArray.empty (0 : Int) [] (0 : Int) (0 : Int))) == (7 : Int)) =
                  Bool.true then
              if ((↑(List.length b0) : Int) == (16 : Int)) = Bool.true then Option.some (Sum.inl ((Bool.false, ()), b0, ()))
              else
                Go.Am.room ((List.length b0 + List.length [Bool.false]) * (1 : Nat))
                  (check_soundList.l1 k j t0 t0_1 t0_2 t0_3 t0_4 t0_5 t0_6 t0_7 t0_8 t9 t10 (Go.IntKind.wrap Go.IntKind.i64 (t11 + (1 : Int))) (b0 ++ [Bool.false]))
            else
              if
                  (Go.Am.Tryd.S165.f0 (List.getD t9 (Int.toNat t11) (Go.Am.Tryd.S165.mk (0 : Int) ByteArray.empty (0 : Int) [] (0 : Int) (0 : Int))) == (8 : Int)) =
                    Bool.true then
                Option.bind (Go.Am.Tryd.check_soundList.l0 k (↑(List.length b0) : Int) b0) fun r1 =>
                  Go.Am.onSum r1 (fun r2 => Option.some (Sum.inl ((Prod.fst (Prod.fst r2), ()), Prod.fst (Prod.snd r2), ()))) fun r2 =>
                    if
                        (0 : Int) ≤ Go.IntKind.wrap Go.IntKind.i64 ((↑(List.length b0) : Int) - (1 : Int)) ∧
                          Go.IntKind.wrap Go.IntKind.i64 ((↑(List.length b0) : Int) - (1 : Int)) < (↑(List.length (Prod.fst (Prod.snd r2))) : Int) then
                      check_soundList.l1 k j t0 t0_1 t0_2 t0_3 t0_4 t0_5 t0_6 t0_7 t0_8 t9 t10 (Go.IntKind.wrap Go.IntKind.i64 (t11 + (1 : Int)))
                        (List.set (Prod.fst (Prod.snd r2)) (Int.toNat (Go.IntKind.wrap Go.IntKind.i64 ((↑(List.length b0) : Int) - (1 : Int)))) Bool.true)
                    else Option.none
              else
                if
                    (Go.Am.Tryd.S165.f0 (List.getD t9 (Int.toNat t11) (Go.Am.Tryd.S165.mk (0 : Int) ByteArray.empty (0 : Int) [] (0 : Int) (0 : Int))) ==
                        (9 : Int)) =
                      Bool.true then
                  if ((↑(List.length b0) : Int) == (0 : Int)) = Bool.true then Option.some (Sum.inl ((Bool.false, ()), b0, ()))
                  else
                    if
                        (0 : Int) ≤ Go.IntKind.wrap Go.IntKind.i64 ((↑(List.length b0) : Int) - (1 : Int)) ∧
                          Go.IntKind.wrap Go.IntKind.i64 ((↑(List.length b0) : Int) - (1 : Int)) ≤ (↑(List.length b0) : Int) then
                      check_soundList.l1 k j t0 t0_1 t0_2 t0_3 t0_4 t0_5 t0_6 t0_7 t0_8 t9 t10 (Go.IntKind.wrap Go.IntKind.i64 (t11 + (1 : Int)))
                        (List.take (Int.toNat (Go.IntKind.wrap Go.IntKind.i64 ((↑(List.length b0) : Int) - (1 : Int)))) b0)
                    else Option.none
                else check_soundList.l1 k j t0 t0_1 t0_2 t0_3 t0_4 t0_5 t0_6 t0_7 t0_8 t9 t10 (Go.IntKind.wrap Go.IntKind.i64 (t11 + (1 : Int))) b0
      else Option.none
    else Option.some (Sum.inr (((), ()), b0, ()))
def check_soundList.w1 : List Nat := [12, 13, 14, 7, 15, 16, 17, 18, 4, 19, 20, 8, 21, 22, 24, 23, 25, 26, 27, 28, 29, 5, 31, 30, 32, 33, 34, 35, 36, 37, 38, 39, 40, 41, 42, 43, 44, 46, 45, 47, 48, 49, 50, 51, 52, 53, 11]
noncomputable def check_soundList.e1 (k j : Nat) : check_soundList.s1.den → Option (OutT check_soundList.o1) := fun d => check_soundList.l1 k j d.1.1.1 d.1.1.2.1 d.1.1.2.2.1 d.1.1.2.2.2.1 d.1.1.2.2.2.2.1 d.1.1.2.2.2.2.2.1 d.1.1.2.2.2.2.2.2.1 d.1.1.2.2.2.2.2.2.2.1 d.1.1.2.2.2.2.2.2.2.2.1 d.1.2.2.1 d.1.2.2.2.1 d.1.2.2.2.2.1 d.2.1
noncomputable def check_soundList.m1 (k : Nat) : LamS κ := ⟨lamK 57 check_soundList.w1 check_soundList.s1 check_soundList.o1 (check_soundList.e1 k k)⟩
def check_soundList.p : Pat κ := .bool
def check_soundList.b : List (BPat κ) := []
noncomputable def check_soundList (k : Nat) (t0 : ByteArray) (t0_1 : List S42) (t0_2 : List S47) (t0_3 : List S110) (t0_4 : List ByteArray) (t0_5 : List ByteArray) (t0_6 : List S112) (t0_7 : List S98) (t0_8 : Int) (t1 : List S165) : Option (Bool × Unit) :=
    Option.bind (Go.Am.Tryd.check_soundList.l1 k k t0 t0_1 t0_2 t0_3 t0_4 t0_5 t0_6 t0_7 t0_8 t1 (↑(List.length t1) : Int) (0 : Int) []) fun r0 =>
      Go.Am.onSum r0 (fun r1 => Option.some (Prod.fst (Prod.fst r1), ())) fun r1 => Option.some ((↑(List.length (Prod.fst (Prod.snd r1))) : Int) == (0 : Int), ())
noncomputable def check_soundList.f (k : Nat) : dens check_soundList.i → Option (check_soundList.p.den × densB check_soundList.b) := fun d => check_soundList k d.1.1 d.1.2.1 d.1.2.2.1 d.1.2.2.2.1 d.1.2.2.2.2.1 d.1.2.2.2.2.2.1 d.1.2.2.2.2.2.2.1 d.1.2.2.2.2.2.2.2.1 d.1.2.2.2.2.2.2.2.2.1 d.2.1
noncomputable def check_soundList.ctx (k : Nat) : Ctx κ := check_soundList.x k [check_soundList.m0 k, check_soundList.m1 k]
theorem check_soundList.xOk (k : Nat) : (check_soundList.ctx k).Ok := ctxOk ⟨check_soundStmt.entOk k, trivial⟩ ⟨check_soundStmt.qentOk k, trivial⟩
theorem check_soundList.k0 (k : Nat) : LamOk (check_soundList.ctx k) ((check_soundList.ctx k).Λ 0) (sub [1, 1, 0, 1, 0, 0, 1, 1, 0, 0, 1, 1, 1, 1, 0, 1, 1, 1, 0, 0] check_soundList.c) :=
  cut_ok (kindOf := kindOf) (C := check_soundList.ctx k) (n := .none) (L := check_soundList.e0 k) (check_soundList.xOk k) (by kernel_rfl) (by kernel_rfl) (fits_of (l := []) (by kernel_rfl) trivial) (fun _ => by kernel_rfl)
theorem check_soundList.k1 (k : Nat) : LamOk (check_soundList.ctx k) ((check_soundList.ctx k).Λ 1) (.loop (sub [1, 1, 0, 1, 0, 0] check_soundList.c)) :=
  loop_ok (kindOf := kindOf) (C := check_soundList.ctx k) (n := (.pair .none (.pair .none (.pair (.pair (.pair .none (.pair .none (.pair .none (.pair .none (.pair (.pair .none (.pair .none (.pair .none (.pair (.pair (.cut 0) .none) .none)))) .none))))) .none) .none)))) (L := check_soundList.e1 k) (check_soundList.xOk k) (by kernel_rfl) (by kernel_rfl) (fits_of (l := [(0, (sub [1, 1, 0, 1, 0, 0, 1, 1, 0, 0, 1, 1, 1, 1, 0, 1, 1, 1, 0, 0] check_soundList.c))]) (by kernel_rfl) ⟨check_soundList.k0 k, trivial⟩) (fun _ => by kernel_rfl) (fun _ _ => by kernel_rfl) k
theorem check_soundList.call (k : Nat) : CallV Tryd.prog E glob 100 check_soundList.i check_soundList.p check_soundList.b (check_soundList.f k) :=
  fn_okZ (kindOf := kindOf) (C := check_soundList.ctx k) (n := (.pair .none (.pair .none (.pair (.pair .none (.pair (.cut 1) .none)) .none)))) (check_soundList.xOk k) Tryd.func100 check_soundList.hb (fits_of (l := [(1, .loop (sub [1, 1, 0, 1, 0, 0] check_soundList.c))]) (by kernel_rfl) ⟨check_soundList.k1 k, trivial⟩) (fun _ => by kernel_rfl)
noncomputable def check_soundList.ent (k : Nat) : EntS κ := ⟨100, [], entOf check_soundList.i check_soundList.p check_soundList.b true (check_soundList.f k) E⟩
theorem check_soundList.entOk (k : Nat) : EntOk Tryd.prog E glob 100 (check_soundList.ent k).run := ent_free encOk (callable_of Tryd.func100 (by kernel_rfl) (by kernel_rfl)) (by rfl) trivial (check_soundList.call k)
noncomputable def check_soundList.qent (k : Nat) : QEntS κ := ⟨100, qentOf check_soundList.i check_soundList.p (check_soundList.f k) E⟩
theorem check_soundList.qentOk (k : Nat) : QEntOk Tryd.prog E glob 100 (check_soundList.qent k).run := qent_ok encOk (callable_of Tryd.func100 (by kernel_rfl) (by kernel_rfl)) (check_soundList.call k)
noncomputable def check_soundStage.c : Go.Code := match Tryd.f84.body with | some c => c | none => .skip
theorem check_soundStage.hb : Tryd.f84.body = some check_soundStage.c := by kernel_rfl
noncomputable def check_soundStage.x (k : Nat) (ls : List (LamS κ)) : Ctx κ := mkCtx [check_in.ent k, check_SoundExpr.ent k, check_soundList.ent k] [check_in.qent k, check_SoundExpr.qent k, check_soundList.qent k] ls
def check_soundStage.i : List (Pat κ) := [.rop [.str, .ro .T42, .ro .T47, .ro .T110, .ro .T9, .ro .T9, .ro .T112, .ro .T98, .int .i64], .int .i64]
def check_soundStage.s0 : Sh κ := ⟨0, [0, 1, 5], [.rop [.str, .ro .T42, .ro .T47, .ro .T110, .ro .T9, .ro .T9, .ro .T112, .ro .T98, .int .i64], .int .i64, .ptr 0 0], [.raw 98 [.str, .int .i64, .int .u64, .ro .T165, .ro .T165, .ro .T165, .ro .T95]]⟩
def check_soundStage.o0 : List (Ex × Sh κ) := [(.ret, ⟨1, [4], [.bool], [.raw 98 [.str, .int .i64, .int .u64, .ro .T165, .ro .T165, .ro .T165, .ro .T95]]⟩), (.normal, ⟨1, [5], [.ptr 0 0], [.raw 98 [.str, .int .i64, .int .u64, .ro .T165, .ro .T165, .ro .T165, .ro .T95]]⟩)]
noncomputable def check_soundStage.l0 (k : Nat) (t0 : ByteArray) (t0_1 : List S42) (t0_2 : List S47) (t0_3 : List S110) (t0_4 : List ByteArray) (t0_5 : List ByteArray) (t0_6 : List S112) (t0_7 : List S98) (t0_8 : Int) (t1 : Int) (b0 : ByteArray) (b0_1 : Int) (b0_2 : Int) (b0_3 : List S165) (b0_4 : List S165) (b0_5 : List S165) (b0_6 : List S95) : Option ((Bool × Unit) × (ByteArray × Int × Int × List Go.Am.Tryd.S165 × List Go.Am.Tryd.S165 × List Go.Am.Tryd.S165 × List Go.Am.Tryd.S95 × Unit) × Unit ⊕
      (Unit × Unit) × (ByteArray × Int × Int × List Go.Am.Tryd.S165 × List Go.Am.Tryd.S165 × List Go.Am.Tryd.S165 × List Go.Am.Tryd.S95 × Unit) × Unit) :=
    Option.bind (Go.Am.Tryd.check_in k b0_1 (0 : Int) (255 : Int)) fun r0 =>
      if (!Prod.fst r0) = Bool.false then
        if Decidable.decide (t1 > (0 : Int)) = Bool.true then
          if (0 : Int) ≤ Go.IntKind.wrap Go.IntKind.i64 (t1 - (1 : Int)) ∧ Go.IntKind.wrap Go.IntKind.i64 (t1 - (1 : Int)) < (↑(List.length t0_7) : Int) then
            if
                Decidable.decide
                    (b0_1 ≤
                      Go.Am.Tryd.S98.f1
                        (List.getD t0_7 (Int.toNat (Go.IntKind.wrap Go.IntKind.i64 (t1 - (1 : Int))))
                          (Go.Am.Tryd.S98.mk ByteArray.empty (0 : Int) (0 : Int) [] [] [] []))) =
                  Bool.true then
              Option.some (Sum.inl ((Bool.false, ()), (b0, b0_1, b0_2, b0_3, b0_4, b0_5, b0_6, ()), ()))
            else Option.some (Sum.inr (((), ()), (b0, b0_1, b0_2, b0_3, b0_4, b0_5, b0_6, ()), ()))
          else Option.none
        else Option.some (Sum.inr (((), ()), (b0, b0_1, b0_2, b0_3, b0_4, b0_5, b0_6, ()), ()))
      else Option.some (Sum.inl ((Bool.false, ()), (b0, b0_1, b0_2, b0_3, b0_4, b0_5, b0_6, ()), ()))
def check_soundStage.w0 : List Nat := [16, 17, 18, 19, 20, 21, 22, 23, 24, 25, 26, 27, 28, 29, 30, 31, 32, 33, 34, 35, 36, 37, 4]
noncomputable def check_soundStage.e0 (k : Nat) : check_soundStage.s0.den → Option (OutT check_soundStage.o0) := fun d => check_soundStage.l0 k d.1.1.1 d.1.1.2.1 d.1.1.2.2.1 d.1.1.2.2.2.1 d.1.1.2.2.2.2.1 d.1.1.2.2.2.2.2.1 d.1.1.2.2.2.2.2.2.1 d.1.1.2.2.2.2.2.2.2.1 d.1.1.2.2.2.2.2.2.2.2.1 d.1.2.1 d.2.1.1 d.2.1.2.1 d.2.1.2.2.1 d.2.1.2.2.2.1 d.2.1.2.2.2.2.1 d.2.1.2.2.2.2.2.1 d.2.1.2.2.2.2.2.2.1
noncomputable def check_soundStage.m0 (k : Nat) : LamS κ := ⟨lamK 105 check_soundStage.w0 check_soundStage.s0 check_soundStage.o0 (check_soundStage.e0 k)⟩
def check_soundStage.s1 : Sh κ := ⟨0, [0, 5], [.rop [.str, .ro .T42, .ro .T47, .ro .T110, .ro .T9, .ro .T9, .ro .T112, .ro .T98, .int .i64], .ptr 0 0], [.raw 98 [.str, .int .i64, .int .u64, .ro .T165, .ro .T165, .ro .T165, .ro .T95]]⟩
def check_soundStage.o1 : List (Ex × Sh κ) := [(.normal, ⟨1, [5], [.ptr 0 0], [.raw 98 [.str, .int .i64, .int .u64, .ro .T165, .ro .T165, .ro .T165, .ro .T95]]⟩), (.ret, ⟨1, [4], [.bool], [.raw 98 [.str, .int .i64, .int .u64, .ro .T165, .ro .T165, .ro .T165, .ro .T95]]⟩)]
noncomputable def check_soundStage.l1 (k : Nat) (t0 : ByteArray) (t0_1 : List S42) (t0_2 : List S47) (t0_3 : List S110) (t0_4 : List ByteArray) (t0_5 : List ByteArray) (t0_6 : List S112) (t0_7 : List S98) (t0_8 : Int) (b0 : ByteArray) (b0_1 : Int) (b0_2 : Int) (b0_3 : List S165) (b0_4 : List S165) (b0_5 : List S165) (b0_6 : List S95) : Option ((Unit × Unit) × (ByteArray × Int × Int × List Go.Am.Tryd.S165 × List Go.Am.Tryd.S165 × List Go.Am.Tryd.S165 × List Go.Am.Tryd.S95 × Unit) × Unit ⊕
      (Bool × Unit) × (ByteArray × Int × Int × List Go.Am.Tryd.S165 × List Go.Am.Tryd.S165 × List Go.Am.Tryd.S165 × List Go.Am.Tryd.S95 × Unit) × Unit) :=
    if Decidable.decide ((↑(List.length t0_1) : Int) < (64 : Int)) = Bool.true then
      if (Go.Am.shr Go.IntKind.u64 b0_2 (↑(List.length t0_1) : Int) != (0 : Int)) = Bool.true then
        Option.some (Sum.inr ((Bool.false, ()), (b0, b0_1, b0_2, b0_3, b0_4, b0_5, b0_6, ()), ()))
      else Option.some (Sum.inl (((), ()), (b0, b0_1, b0_2, b0_3, b0_4, b0_5, b0_6, ()), ()))
    else Option.some (Sum.inl (((), ()), (b0, b0_1, b0_2, b0_3, b0_4, b0_5, b0_6, ()), ()))
def check_soundStage.w1 : List Nat := [38, 39, 40, 41, 42, 43, 6, 44, 45, 46, 47, 48, 49, 50, 51, 52, 4]
noncomputable def check_soundStage.e1 (k : Nat) : check_soundStage.s1.den → Option (OutT check_soundStage.o1) := fun d => check_soundStage.l1 k d.1.1.1 d.1.1.2.1 d.1.1.2.2.1 d.1.1.2.2.2.1 d.1.1.2.2.2.2.1 d.1.1.2.2.2.2.2.1 d.1.1.2.2.2.2.2.2.1 d.1.1.2.2.2.2.2.2.2.1 d.1.1.2.2.2.2.2.2.2.2.1 d.2.1.1 d.2.1.2.1 d.2.1.2.2.1 d.2.1.2.2.2.1 d.2.1.2.2.2.2.1 d.2.1.2.2.2.2.2.1 d.2.1.2.2.2.2.2.2.1
noncomputable def check_soundStage.m1 (k : Nat) : LamS κ := ⟨lamK 105 check_soundStage.w1 check_soundStage.s1 check_soundStage.o1 (check_soundStage.e1 k)⟩
def check_soundStage.s2 : Sh κ := ⟨0, [0, 5], [.rop [.str, .ro .T42, .ro .T47, .ro .T110, .ro .T9, .ro .T9, .ro .T112, .ro .T98, .int .i64], .ptr 0 0], [.raw 98 [.str, .int .i64, .int .u64, .ro .T165, .ro .T165, .ro .T165, .ro .T95]]⟩
def check_soundStage.o2 : List (Ex × Sh κ) := [(.ret, ⟨1, [4], [.bool], [.raw 98 [.str, .int .i64, .int .u64, .ro .T165, .ro .T165, .ro .T165, .ro .T95]]⟩), (.normal, ⟨1, [5], [.ptr 0 0], [.raw 98 [.str, .int .i64, .int .u64, .ro .T165, .ro .T165, .ro .T165, .ro .T95]]⟩)]
noncomputable def check_soundStage.l2 (k : Nat) (t0 : ByteArray) (t0_1 : List S42) (t0_2 : List S47) (t0_3 : List S110) (t0_4 : List ByteArray) (t0_5 : List ByteArray) (t0_6 : List S112) (t0_7 : List S98) (t0_8 : Int) (b0 : ByteArray) (b0_1 : Int) (b0_2 : Int) (b0_3 : List S165) (b0_4 : List S165) (b0_5 : List S165) (b0_6 : List S95) : Option ((Bool × Unit) × (ByteArray × Int × Int × List Go.Am.Tryd.S165 × List Go.Am.Tryd.S165 × List Go.Am.Tryd.S165 × List Go.Am.Tryd.S95 × Unit) × Unit ⊕
      (Unit × Unit) × (ByteArray × Int × Int × List Go.Am.Tryd.S165 × List Go.Am.Tryd.S165 × List Go.Am.Tryd.S165 × List Go.Am.Tryd.S95 × Unit) × Unit) :=
    Option.bind (Go.Am.Tryd.check_soundList k t0 t0_1 t0_2 t0_3 t0_4 t0_5 t0_6 t0_7 t0_8 b0_3) fun r0 =>
      if (!Prod.fst r0) = Bool.false then
        Option.bind (Go.Am.Tryd.check_soundList k t0 t0_1 t0_2 t0_3 t0_4 t0_5 t0_6 t0_7 t0_8 b0_4) fun r1 =>
          if (!Prod.fst r1) = Bool.false then
            Option.bind (Go.Am.Tryd.check_soundList k t0 t0_1 t0_2 t0_3 t0_4 t0_5 t0_6 t0_7 t0_8 b0_5) fun r2 =>
              if (!Prod.fst r2) = Bool.true then Option.some (Sum.inl ((Bool.false, ()), (b0, b0_1, b0_2, b0_3, b0_4, b0_5, b0_6, ()), ()))
              else Option.some (Sum.inr (((), ()), (b0, b0_1, b0_2, b0_3, b0_4, b0_5, b0_6, ()), ()))
          else Option.some (Sum.inl ((Bool.false, ()), (b0, b0_1, b0_2, b0_3, b0_4, b0_5, b0_6, ()), ()))
      else Option.some (Sum.inl ((Bool.false, ()), (b0, b0_1, b0_2, b0_3, b0_4, b0_5, b0_6, ()), ()))
def check_soundStage.w2 : List Nat := [53, 54, 55, 56, 57, 58, 59, 60, 61, 62, 63, 64, 65, 66, 67, 68, 69, 70, 71, 4]
noncomputable def check_soundStage.e2 (k : Nat) : check_soundStage.s2.den → Option (OutT check_soundStage.o2) := fun d => check_soundStage.l2 k d.1.1.1 d.1.1.2.1 d.1.1.2.2.1 d.1.1.2.2.2.1 d.1.1.2.2.2.2.1 d.1.1.2.2.2.2.2.1 d.1.1.2.2.2.2.2.2.1 d.1.1.2.2.2.2.2.2.2.1 d.1.1.2.2.2.2.2.2.2.2.1 d.2.1.1 d.2.1.2.1 d.2.1.2.2.1 d.2.1.2.2.2.1 d.2.1.2.2.2.2.1 d.2.1.2.2.2.2.2.1 d.2.1.2.2.2.2.2.2.1
noncomputable def check_soundStage.m2 (k : Nat) : LamS κ := ⟨lamK 105 check_soundStage.w2 check_soundStage.s2 check_soundStage.o2 (check_soundStage.e2 k)⟩
def check_soundStage.s3 : Sh κ := ⟨0, [0, 1, 73, 74, 75], [.rop [.str, .ro .T42, .ro .T47, .ro .T110, .ro .T9, .ro .T9, .ro .T112, .ro .T98, .int .i64], .int .i64, .ro .T95, .int .i64, .int .i64], []⟩
def check_soundStage.o3 : List (Ex × Sh κ) := [(.ret, ⟨0, [4], [.bool], []⟩), (.exit 0, ⟨0, [], [], []⟩)]
noncomputable def check_soundStage.l3 (k : Nat) : Nat → ByteArray → (List S42) → (List S47) → (List S110) → (List ByteArray) → (List ByteArray) → (List S112) → (List S98) → Int → Int → (List S95) → Int → Int → Option ((Bool × Unit) × Unit ⊕ Unit × Unit)
  | 0, _, _, _, _, _, _, _, _, _, _, _, _, _ => none
  | j + 1, t0, t0_1, t0_2, t0_3, t0_4, t0_5, t0_6, t0_7, t0_8, t1, t73, t74, t75 =>
    if Decidable.decide (t75 < t74) = Bool.true then
      if (0 : Int) ≤ t75 ∧ t75 < (↑(List.length t73) : Int) then
        Option.bind
          (Go.Am.Tryd.check_in k (Go.Am.Tryd.S95.f0 (List.getD t73 (Int.toNat t75) (Go.Am.Tryd.S95.mk (0 : Int) []))) (0 : Int)
            (Go.IntKind.wrap Go.IntKind.i64 ((↑(List.length t0_7) : Int) - (1 : Int))))
          fun r0 =>
          if (!Prod.fst r0) = Bool.false then
            if (Go.Am.Tryd.S95.f0 (List.getD t73 (Int.toNat t75) (Go.Am.Tryd.S95.mk (0 : Int) [])) == t1) = Bool.false then
              Option.bind
                (Go.Am.Tryd.check_SoundExpr k t0 t0_1 t0_2 t0_3 t0_4 t0_5 t0_6 t0_7 t0_8
                  (Go.Am.Tryd.S95.f1 (List.getD t73 (Int.toNat t75) (Go.Am.Tryd.S95.mk (0 : Int) []))) (2 : Int))
                fun r1 =>
                if (!Prod.fst r1) = Bool.true then Option.some (Sum.inl ((Bool.false, ()), ()))
                else check_soundStage.l3 k j t0 t0_1 t0_2 t0_3 t0_4 t0_5 t0_6 t0_7 t0_8 t1 t73 t74 (Go.IntKind.wrap Go.IntKind.i64 (t75 + (1 : Int)))
            else Option.some (Sum.inl ((Bool.false, ()), ()))
          else Option.some (Sum.inl ((Bool.false, ()), ()))
      else Option.none
    else Option.some (Sum.inr ((), ()))
def check_soundStage.w3 : List Nat := [76, 77, 78, 8, 79, 80, 81, 82, 83, 84, 85, 86, 87, 88, 89, 90, 91, 92, 93, 94, 95, 96, 97, 98, 99, 100, 101, 102, 103, 4, 104, 75]
noncomputable def check_soundStage.e3 (k j : Nat) : check_soundStage.s3.den → Option (OutT check_soundStage.o3) := fun d => check_soundStage.l3 k j d.1.1.1 d.1.1.2.1 d.1.1.2.2.1 d.1.1.2.2.2.1 d.1.1.2.2.2.2.1 d.1.1.2.2.2.2.2.1 d.1.1.2.2.2.2.2.2.1 d.1.1.2.2.2.2.2.2.2.1 d.1.1.2.2.2.2.2.2.2.2.1 d.1.2.1 d.1.2.2.1 d.1.2.2.2.1 d.1.2.2.2.2.1
noncomputable def check_soundStage.m3 (k : Nat) : LamS κ := ⟨lamK 105 check_soundStage.w3 check_soundStage.s3 check_soundStage.o3 (check_soundStage.e3 k k)⟩
def check_soundStage.p : Pat κ := .bool
def check_soundStage.b : List (BPat κ) := []
noncomputable def check_soundStage (k : Nat) (t0 : ByteArray) (t0_1 : List S42) (t0_2 : List S47) (t0_3 : List S110) (t0_4 : List ByteArray) (t0_5 : List ByteArray) (t0_6 : List S112) (t0_7 : List S98) (t0_8 : Int) (t1 : Int) : Option (Bool × Unit) :=
    if (0 : Int) ≤ t1 ∧ t1 < (↑(List.length t0_7) : Int) then
      Option.bind
        (Go.Am.Tryd.check_soundStage.l0 k t0 t0_1 t0_2 t0_3 t0_4 t0_5 t0_6 t0_7 t0_8 t1
          (Go.Am.Tryd.S98.f0 (List.getD t0_7 (Int.toNat t1) (Go.Am.Tryd.S98.mk ByteArray.empty (0 : Int) (0 : Int) [] [] [] [])))
          (Go.Am.Tryd.S98.f1 (List.getD t0_7 (Int.toNat t1) (Go.Am.Tryd.S98.mk ByteArray.empty (0 : Int) (0 : Int) [] [] [] [])))
          (Go.Am.Tryd.S98.f2 (List.getD t0_7 (Int.toNat t1) (Go.Am.Tryd.S98.mk ByteArray.empty (0 : Int) (0 : Int) [] [] [] [])))
          (Go.Am.Tryd.S98.f3 (List.getD t0_7 (Int.toNat t1) (Go.Am.Tryd.S98.mk ByteArray.empty (0 : Int) (0 : Int) [] [] [] [])))
          (Go.Am.Tryd.S98.f4 (List.getD t0_7 (Int.toNat t1) (Go.Am.Tryd.S98.mk ByteArray.empty (0 : Int) (0 : Int) [] [] [] [])))
          (Go.Am.Tryd.S98.f5 (List.getD t0_7 (Int.toNat t1) (Go.Am.Tryd.S98.mk ByteArray.empty (0 : Int) (0 : Int) [] [] [] [])))
          (Go.Am.Tryd.S98.f6 (List.getD t0_7 (Int.toNat t1) (Go.Am.Tryd.S98.mk ByteArray.empty (0 : Int) (0 : Int) [] [] [] []))))
        fun r0 =>
        Go.Am.onSum r0 (fun r1 => Option.some (Prod.fst (Prod.fst r1), ())) fun r1 =>
          Option.bind
            (Go.Am.Tryd.check_soundStage.l1 k t0 t0_1 t0_2 t0_3 t0_4 t0_5 t0_6 t0_7 t0_8 (Prod.fst (Prod.fst (Prod.snd r1)))
              (Prod.fst (Prod.snd (Prod.fst (Prod.snd r1)))) (Prod.fst (Prod.snd (Prod.snd (Prod.fst (Prod.snd r1)))))
              (Prod.fst (Prod.snd (Prod.snd (Prod.snd (Prod.fst (Prod.snd r1)))))) (Prod.fst (Prod.snd (Prod.snd (Prod.snd (Prod.snd (Prod.fst (Prod.snd r1)))))))
              (Prod.fst (Prod.snd (Prod.snd (Prod.snd (Prod.snd (Prod.snd (Prod.fst (Prod.snd r1))))))))
              (Prod.fst (Prod.snd (Prod.snd (Prod.snd (Prod.snd (Prod.snd (Prod.snd (Prod.fst (Prod.snd r1))))))))))
            fun r2 =>
            Go.Am.onSum r2
              (fun r3 =>
                Option.bind
                  (Go.Am.Tryd.check_soundStage.l2 k t0 t0_1 t0_2 t0_3 t0_4 t0_5 t0_6 t0_7 t0_8 (Prod.fst (Prod.fst (Prod.snd r3)))
                    (Prod.fst (Prod.snd (Prod.fst (Prod.snd r3)))) (Prod.fst (Prod.snd (Prod.snd (Prod.fst (Prod.snd r3)))))
                    (Prod.fst (Prod.snd (Prod.snd (Prod.snd (Prod.fst (Prod.snd r3))))))
                    (Prod.fst (Prod.snd (Prod.snd (Prod.snd (Prod.snd (Prod.fst (Prod.snd r3)))))))
                    (Prod.fst (Prod.snd (Prod.snd (Prod.snd (Prod.snd (Prod.snd (Prod.fst (Prod.snd r3))))))))
                    (Prod.fst (Prod.snd (Prod.snd (Prod.snd (Prod.snd (Prod.snd (Prod.snd (Prod.fst (Prod.snd r3))))))))))
                  fun r4 =>
                  Go.Am.onSum r4 (fun r5 => Option.some (Prod.fst (Prod.fst r5), ())) fun r5 =>
                    Option.bind
                      (Go.Am.Tryd.check_soundStage.l3 k k t0 t0_1 t0_2 t0_3 t0_4 t0_5 t0_6 t0_7 t0_8 t1
                        (Prod.fst (Prod.snd (Prod.snd (Prod.snd (Prod.snd (Prod.snd (Prod.snd (Prod.fst (Prod.snd r5)))))))))
                        (↑(List.length (Prod.fst (Prod.snd (Prod.snd (Prod.snd (Prod.snd (Prod.snd (Prod.snd (Prod.fst (Prod.snd r5)))))))))) : Int) (0 : Int))
                      fun r6 => Go.Am.onSum r6 (fun r7 => Option.some (Prod.fst (Prod.fst r7), ())) fun r7 => Option.some (Bool.true, ()))
              fun r3 => Option.some (Prod.fst (Prod.fst r3), ())
    else Option.none
noncomputable def check_soundStage.f (k : Nat) : dens check_soundStage.i → Option (check_soundStage.p.den × densB check_soundStage.b) := fun d => check_soundStage k d.1.1 d.1.2.1 d.1.2.2.1 d.1.2.2.2.1 d.1.2.2.2.2.1 d.1.2.2.2.2.2.1 d.1.2.2.2.2.2.2.1 d.1.2.2.2.2.2.2.2.1 d.1.2.2.2.2.2.2.2.2.1 d.2.1
noncomputable def check_soundStage.ctx (k : Nat) : Ctx κ := check_soundStage.x k [check_soundStage.m0 k, check_soundStage.m1 k, check_soundStage.m2 k, check_soundStage.m3 k]
theorem check_soundStage.xOk (k : Nat) : (check_soundStage.ctx k).Ok := ctxOk ⟨check_in.entOk k, check_SoundExpr.entOk k, check_soundList.entOk k, trivial⟩ ⟨check_in.qentOk k, check_SoundExpr.qentOk k, check_soundList.qentOk k, trivial⟩
theorem check_soundStage.k0 (k : Nat) : LamOk (check_soundStage.ctx k) ((check_soundStage.ctx k).Λ 0) (sub [1, 1, 0] check_soundStage.c) :=
  cut_ok (kindOf := kindOf) (C := check_soundStage.ctx k) (n := (.pair (.ops [] 22) .none)) (L := check_soundStage.e0 k) (check_soundStage.xOk k) (by kernel_rfl) (by kernel_rfl) (fits_of (l := []) (by kernel_rfl) trivial) (fun _ => by kernel_rfl)
theorem check_soundStage.k1 (k : Nat) : LamOk (check_soundStage.ctx k) ((check_soundStage.ctx k).Λ 1) (sub [1, 1, 1, 0] check_soundStage.c) :=
  cut_ok (kindOf := kindOf) (C := check_soundStage.ctx k) (n := .none) (L := check_soundStage.e1 k) (check_soundStage.xOk k) (by kernel_rfl) (by kernel_rfl) (fits_of (l := []) (by kernel_rfl) trivial) (fun _ => by kernel_rfl)
theorem check_soundStage.k2 (k : Nat) : LamOk (check_soundStage.ctx k) ((check_soundStage.ctx k).Λ 2) (sub [1, 1, 1, 1, 0] check_soundStage.c) :=
  cut_ok (kindOf := kindOf) (C := check_soundStage.ctx k) (n := .none) (L := check_soundStage.e2 k) (check_soundStage.xOk k) (by kernel_rfl) (by kernel_rfl) (fits_of (l := []) (by kernel_rfl) trivial) (fun _ => by kernel_rfl)
theorem check_soundStage.k3 (k : Nat) : LamOk (check_soundStage.ctx k) ((check_soundStage.ctx k).Λ 3) (.loop (sub [1, 1, 1, 1, 1, 0, 1, 0, 0] check_soundStage.c)) :=
  loop_ok (kindOf := kindOf) (C := check_soundStage.ctx k) (n := (.pair .none (.pair .none (.pair (.pair (.pair .none (.pair (.ops [] 25) .none)) .none) .none)))) (L := check_soundStage.e3 k) (check_soundStage.xOk k) (by kernel_rfl) (by kernel_rfl) (fits_of (l := []) (by kernel_rfl) trivial) (fun _ => by kernel_rfl) (fun _ _ => by kernel_rfl) k
theorem check_soundStage.call (k : Nat) : CallV Tryd.prog E glob 84 check_soundStage.i check_soundStage.p check_soundStage.b (check_soundStage.f k) :=
  fn_okZ (kindOf := kindOf) (C := check_soundStage.ctx k) (n := (.pair .none (.pair .none (.pair (.cut 0) (.pair (.cut 1) (.pair (.cut 2) (.pair (.pair .none (.pair (.cut 3) .none)) .none))))))) (check_soundStage.xOk k) Tryd.func84 check_soundStage.hb (fits_of (l := [(0, (sub [1, 1, 0] check_soundStage.c)), (1, (sub [1, 1, 1, 0] check_soundStage.c)), (2, (sub [1, 1, 1, 1, 0] check_soundStage.c)), (3, .loop (sub [1, 1, 1, 1, 1, 0, 1, 0, 0] check_soundStage.c))]) (by kernel_rfl) ⟨check_soundStage.k0 k, check_soundStage.k1 k, check_soundStage.k2 k, check_soundStage.k3 k, trivial⟩) (fun _ => by kernel_rfl)
noncomputable def check_soundStage.ent (k : Nat) : EntS κ := ⟨84, [], entOf check_soundStage.i check_soundStage.p check_soundStage.b true (check_soundStage.f k) E⟩
theorem check_soundStage.entOk (k : Nat) : EntOk Tryd.prog E glob 84 (check_soundStage.ent k).run := ent_free encOk (callable_of Tryd.func84 (by kernel_rfl) (by kernel_rfl)) (by rfl) trivial (check_soundStage.call k)
noncomputable def check_soundStage.qent (k : Nat) : QEntS κ := ⟨84, qentOf check_soundStage.i check_soundStage.p (check_soundStage.f k) E⟩
theorem check_soundStage.qentOk (k : Nat) : QEntOk Tryd.prog E glob 84 (check_soundStage.qent k).run := qent_ok encOk (callable_of Tryd.func84 (by kernel_rfl) (by kernel_rfl)) (check_soundStage.call k)
noncomputable def check_Sound.c : Go.Code := match Tryd.f58.body with | some c => c | none => .skip
theorem check_Sound.hb : Tryd.f58.body = some check_Sound.c := by kernel_rfl
noncomputable def check_Sound.x (k : Nat) (ls : List (LamS κ)) : Ctx κ := mkCtx [check_in.ent k, check_Grid.ent k, check_named.ent k, check_nodes.ent k, check_soundStage.ent k] [check_in.qent k, check_Grid.qent k, check_named.qent k, check_nodes.qent k, check_soundStage.qent k] ls
def check_Sound.i : List (Pat κ) := [.agg [.str, .ro .T42, .ro .T47, .ro .T110, .ro .T9, .ro .T9, .ro .T112, .ro .T98, .int .i64]]
def check_Sound.s0 : Sh κ := ⟨0, [1], [.ptr 0 0], [.raw 69 [.str, .ro .T42, .ro .T47, .ro .T110, .ro .T9, .ro .T9, .ro .T112, .ro .T98, .int .i64]]⟩
def check_Sound.o0 : List (Ex × Sh κ) := [(.ret, ⟨1, [2], [.bool], [.raw 69 [.str, .ro .T42, .ro .T47, .ro .T110, .ro .T9, .ro .T9, .ro .T112, .ro .T98, .int .i64]]⟩), (.normal, ⟨1, [1], [.ptr 0 0], [.raw 69 [.str, .ro .T42, .ro .T47, .ro .T110, .ro .T9, .ro .T9, .ro .T112, .ro .T98, .int .i64]]⟩)]
noncomputable def check_Sound.l0 (k : Nat) (b0 : ByteArray) (b0_1 : List S42) (b0_2 : List S47) (b0_3 : List S110) (b0_4 : List ByteArray) (b0_5 : List ByteArray) (b0_6 : List S112) (b0_7 : List S98) (b0_8 : Int) : Option ((Bool × Unit) ×
        (ByteArray ×
            List Go.Am.Tryd.S42 ×
              List Go.Am.Tryd.S47 × List Go.Am.Tryd.S110 × List ByteArray × List ByteArray × List Go.Am.Tryd.S112 × List Go.Am.Tryd.S98 × Int × Unit) ×
          Unit ⊕
      (Unit × Unit) ×
        (ByteArray ×
            List Go.Am.Tryd.S42 ×
              List Go.Am.Tryd.S47 × List Go.Am.Tryd.S110 × List ByteArray × List ByteArray × List Go.Am.Tryd.S112 × List Go.Am.Tryd.S98 × Int × Unit) ×
          Unit) :=
    Option.bind (Go.Am.Tryd.check_Grid k b0_1 b0_2) fun r0 =>
      if (!Prod.fst r0) = Bool.false then
        if Decidable.decide ((↑(List.length b0_3) : Int) > (64 : Int)) = Bool.false then
          if Decidable.decide ((↑(List.length b0_4) : Int) > (64 : Int)) = Bool.false then
            if Decidable.decide ((↑(List.length b0_5) : Int) > (64 : Int)) = Bool.false then
              if Decidable.decide ((↑(List.length b0_6) : Int) > (64 : Int)) = Bool.false then
                Option.bind (Go.Am.Tryd.check_in k (↑(List.length b0_7) : Int) (1 : Int) (256 : Int)) fun r1 =>
                  if (!Prod.fst r1) = Bool.false then
                    Option.bind (Go.Am.Tryd.check_in k b0_8 (0 : Int) (Go.IntKind.wrap Go.IntKind.i64 ((↑(List.length b0_7) : Int) - (1 : Int)))) fun r2 =>
                      if (!Prod.fst r2) = Bool.false then
                        Option.bind (Go.Am.Tryd.check_named k b0 b0_1 b0_2 b0_3 b0_4 b0_5 b0_6 b0_7 b0_8) fun r3 =>
                          if (!Prod.fst r3) = Bool.true then Option.some (Sum.inl ((Bool.false, ()), (b0, b0_1, b0_2, b0_3, b0_4, b0_5, b0_6, b0_7, b0_8, ()), ()))
                          else Option.some (Sum.inr (((), ()), (b0, b0_1, b0_2, b0_3, b0_4, b0_5, b0_6, b0_7, b0_8, ()), ()))
                      else Option.some (Sum.inl ((Bool.false, ()), (b0, b0_1, b0_2, b0_3, b0_4, b0_5, b0_6, b0_7, b0_8, ()), ()))
                  else Option.some (Sum.inl ((Bool.false, ()), (b0, b0_1, b0_2, b0_3, b0_4, b0_5, b0_6, b0_7, b0_8, ()), ()))
              else Option.some (Sum.inl ((Bool.false, ()), (b0, b0_1, b0_2, b0_3, b0_4, b0_5, b0_6, b0_7, b0_8, ()), ()))
            else Option.some (Sum.inl ((Bool.false, ()), (b0, b0_1, b0_2, b0_3, b0_4, b0_5, b0_6, b0_7, b0_8, ()), ()))
          else Option.some (Sum.inl ((Bool.false, ()), (b0, b0_1, b0_2, b0_3, b0_4, b0_5, b0_6, b0_7, b0_8, ()), ()))
        else Option.some (Sum.inl ((Bool.false, ()), (b0, b0_1, b0_2, b0_3, b0_4, b0_5, b0_6, b0_7, b0_8, ()), ()))
      else Option.some (Sum.inl ((Bool.false, ()), (b0, b0_1, b0_2, b0_3, b0_4, b0_5, b0_6, b0_7, b0_8, ()), ()))
def check_Sound.w0 : List Nat := [10, 11, 12, 13, 14, 15, 16, 17, 18, 19, 20, 21, 22, 23, 24, 25, 26, 27, 28, 29, 30, 31, 32, 33, 34, 35, 36, 37, 38, 39, 40, 41, 42, 43, 44, 45, 46, 47, 48, 49, 50, 51, 52, 53, 54, 55, 56, 57, 58, 2]
noncomputable def check_Sound.e0 (k : Nat) : check_Sound.s0.den → Option (OutT check_Sound.o0) := fun d => check_Sound.l0 k d.2.1.1 d.2.1.2.1 d.2.1.2.2.1 d.2.1.2.2.2.1 d.2.1.2.2.2.2.1 d.2.1.2.2.2.2.2.1 d.2.1.2.2.2.2.2.2.1 d.2.1.2.2.2.2.2.2.2.1 d.2.1.2.2.2.2.2.2.2.2.1
noncomputable def check_Sound.m0 (k : Nat) : LamS κ := ⟨lamK 123 check_Sound.w0 check_Sound.s0 check_Sound.o0 (check_Sound.e0 k)⟩
def check_Sound.s1 : Sh κ := ⟨0, [60, 61, 62], [.ro .T110, .int .i64, .int .i64], []⟩
def check_Sound.o1 : List (Ex × Sh κ) := [(.ret, ⟨0, [2], [.bool], []⟩), (.exit 0, ⟨0, [], [], []⟩)]
noncomputable def check_Sound.l1 (k : Nat) : Nat → (List S110) → Int → Int → Option ((Bool × Unit) × Unit ⊕ Unit × Unit)
  | 0, _, _, _ => none
  | j + 1, t60, t61, t62 =>
    if Decidable.decide (t62 < t61) = Bool.true then
      if (0 : Int) ≤ t62 ∧ t62 < (↑(List.length t60) : Int) then
        Option.bind
          (Go.Am.Tryd.check_in k (Go.Am.Tryd.S110.f2 (List.getD t60 (Int.toNat t62) (Go.Am.Tryd.S110.mk ByteArray.empty Bool.false (0 : Int) (0 : Int)))) (0 : Int)
            (3600 : Int))
          fun r0 =>
          if (!Prod.fst r0) = Bool.false then
            Option.bind
              (Go.Am.Tryd.check_in k (Go.Am.Tryd.S110.f3 (List.getD t60 (Int.toNat t62) (Go.Am.Tryd.S110.mk ByteArray.empty Bool.false (0 : Int) (0 : Int))))
                (0 : Int) (3600 : Int))
              fun r1 =>
              if (!Prod.fst r1) = Bool.true then Option.some (Sum.inl ((Bool.false, ()), ())) else check_Sound.l1 k j t60 t61 (Go.IntKind.wrap Go.IntKind.i64 (t62 + (1 : Int)))
          else Option.some (Sum.inl ((Bool.false, ()), ()))
      else Option.none
    else Option.some (Sum.inr ((), ()))
def check_Sound.w1 : List Nat := [63, 64, 65, 4, 66, 67, 68, 69, 70, 71, 72, 73, 74, 75, 2, 76, 62]
noncomputable def check_Sound.e1 (k j : Nat) : check_Sound.s1.den → Option (OutT check_Sound.o1) := fun d => check_Sound.l1 k j d.1.1 d.1.2.1 d.1.2.2.1
noncomputable def check_Sound.m1 (k : Nat) : LamS κ := ⟨lamK 123 check_Sound.w1 check_Sound.s1 check_Sound.o1 (check_Sound.e1 k k)⟩
def check_Sound.s2 : Sh κ := ⟨0, [1, 5, 6, 7, 78, 79, 80], [.ptr 0 0, .int .i64, .int .i64, .int .i64, .ro .T98, .int .i64, .int .i64], [.raw 69 [.str, .ro .T42, .ro .T47, .ro .T110, .ro .T9, .ro .T9, .ro .T112, .ro .T98, .int .i64]]⟩
def check_Sound.o2 : List (Ex × Sh κ) := [(.ret, ⟨1, [2], [.bool], [.raw 69 [.str, .ro .T42, .ro .T47, .ro .T110, .ro .T9, .ro .T9, .ro .T112, .ro .T98, .int .i64]]⟩), (.exit 2, ⟨1, [], [], [.raw 69 [.str, .ro .T42, .ro .T47, .ro .T110, .ro .T9, .ro .T9, .ro .T112, .ro .T98, .int .i64]]⟩)]
noncomputable def check_Sound.l2 (k : Nat) : Nat → Int → Int → Int → (List S98) → Int → Int → ByteArray → (List S42) → (List S47) → (List S110) → (List ByteArray) → (List ByteArray) → (List S112) → (List S98) → Int → Option ((Bool × Unit) ×
        (ByteArray ×
            List Go.Am.Tryd.S42 ×
              List Go.Am.Tryd.S47 × List Go.Am.Tryd.S110 × List ByteArray × List ByteArray × List Go.Am.Tryd.S112 × List Go.Am.Tryd.S98 × Int × Unit) ×
          Unit ⊕
      Unit ×
        (ByteArray ×
            List Go.Am.Tryd.S42 ×
              List Go.Am.Tryd.S47 × List Go.Am.Tryd.S110 × List ByteArray × List ByteArray × List Go.Am.Tryd.S112 × List Go.Am.Tryd.S98 × Int × Unit) ×
          Unit)
  | 0, _, _, _, _, _, _, _, _, _, _, _, _, _, _, _ => none
  | j + 1, t5, t6, t7, t78, t79, t80, b0, b0_1, b0_2, b0_3, b0_4, b0_5, b0_6, b0_7, b0_8 =>
    if Decidable.decide (t80 < t79) = Bool.true then
      if (0 : Int) ≤ t80 ∧ t80 < (↑(List.length t78) : Int) then
        Option.bind
          (Go.Am.Tryd.check_nodes k (Go.Am.Tryd.S98.f0 (List.getD t78 (Int.toNat t80) (Go.Am.Tryd.S98.mk ByteArray.empty (0 : Int) (0 : Int) [] [] [] [])))
            (Go.Am.Tryd.S98.f1 (List.getD t78 (Int.toNat t80) (Go.Am.Tryd.S98.mk ByteArray.empty (0 : Int) (0 : Int) [] [] [] [])))
            (Go.Am.Tryd.S98.f2 (List.getD t78 (Int.toNat t80) (Go.Am.Tryd.S98.mk ByteArray.empty (0 : Int) (0 : Int) [] [] [] [])))
            (Go.Am.Tryd.S98.f3 (List.getD t78 (Int.toNat t80) (Go.Am.Tryd.S98.mk ByteArray.empty (0 : Int) (0 : Int) [] [] [] [])))
            (Go.Am.Tryd.S98.f4 (List.getD t78 (Int.toNat t80) (Go.Am.Tryd.S98.mk ByteArray.empty (0 : Int) (0 : Int) [] [] [] [])))
            (Go.Am.Tryd.S98.f5 (List.getD t78 (Int.toNat t80) (Go.Am.Tryd.S98.mk ByteArray.empty (0 : Int) (0 : Int) [] [] [] [])))
            (Go.Am.Tryd.S98.f6 (List.getD t78 (Int.toNat t80) (Go.Am.Tryd.S98.mk ByteArray.empty (0 : Int) (0 : Int) [] [] [] []))))
          fun r0 =>
          if
              Decidable.decide
                  (Go.IntKind.wrap Go.IntKind.i64
                      (t5 +
                        Go.IntKind.wrap Go.IntKind.i64
                          (Go.IntKind.wrap Go.IntKind.i64
                              ((↑(List.length
                                      (Go.Am.Tryd.S98.f3 (List.getD t78 (Int.toNat t80) (Go.Am.Tryd.S98.mk ByteArray.empty (0 : Int) (0 : Int) [] [] [] [])))) :
                                  Int) +
                                (↑(List.length
                                      (Go.Am.Tryd.S98.f4 (List.getD t78 (Int.toNat t80) (Go.Am.Tryd.S98.mk ByteArray.empty (0 : Int) (0 : Int) [] [] [] [])))) :
                                  Int)) +
                            (↑(List.length
                                  (Go.Am.Tryd.S98.f5 (List.getD t78 (Int.toNat t80) (Go.Am.Tryd.S98.mk ByteArray.empty (0 : Int) (0 : Int) [] [] [] [])))) :
                              Int))) >
                    (4096 : Int)) =
                Bool.false then
            if
                Decidable.decide
                    (Go.IntKind.wrap Go.IntKind.i64
                        (t6 +
                          (↑(List.length (Go.Am.Tryd.S98.f6 (List.getD t78 (Int.toNat t80) (Go.Am.Tryd.S98.mk ByteArray.empty (0 : Int) (0 : Int) [] [] [] [])))) :
                            Int)) >
                      (4096 : Int)) =
                  Bool.false then
              if Decidable.decide (Go.IntKind.wrap Go.IntKind.i64 (t7 + Prod.fst r0) > (16384 : Int)) = Bool.false then
                Option.bind (Go.Am.Tryd.check_soundStage k b0 b0_1 b0_2 b0_3 b0_4 b0_5 b0_6 b0_7 b0_8 t80) fun r1 =>
                  if (!Prod.fst r1) = Bool.true then Option.some (Sum.inl ((Bool.false, ()), (b0, b0_1, b0_2, b0_3, b0_4, b0_5, b0_6, b0_7, b0_8, ()), ()))
                  else
                    check_Sound.l2 k j
                      (Go.IntKind.wrap Go.IntKind.i64
                        (t5 +
                          Go.IntKind.wrap Go.IntKind.i64
                            (Go.IntKind.wrap Go.IntKind.i64
                                ((↑(List.length
                                        (Go.Am.Tryd.S98.f3 (List.getD t78 (Int.toNat t80) (Go.Am.Tryd.S98.mk ByteArray.empty (0 : Int) (0 : Int) [] [] [] [])))) :
                                    Int) +
                                  (↑(List.length
                                        (Go.Am.Tryd.S98.f4 (List.getD t78 (Int.toNat t80) (Go.Am.Tryd.S98.mk ByteArray.empty (0 : Int) (0 : Int) [] [] [] [])))) :
                                    Int)) +
                              (↑(List.length
                                    (Go.Am.Tryd.S98.f5 (List.getD t78 (Int.toNat t80) (Go.Am.Tryd.S98.mk ByteArray.empty (0 : Int) (0 : Int) [] [] [] [])))) :
                                Int))))
                      (Go.IntKind.wrap Go.IntKind.i64
                        (t6 +
                          (↑(List.length (Go.Am.Tryd.S98.f6 (List.getD t78 (Int.toNat t80) (Go.Am.Tryd.S98.mk ByteArray.empty (0 : Int) (0 : Int) [] [] [] [])))) :
                            Int)))
                      (Go.IntKind.wrap Go.IntKind.i64 (t7 + Prod.fst r0)) t78 t79 (Go.IntKind.wrap Go.IntKind.i64 (t80 + (1 : Int))) b0 b0_1 b0_2 b0_3 b0_4 b0_5
                      b0_6 b0_7 b0_8
              else Option.some (Sum.inl ((Bool.false, ()), (b0, b0_1, b0_2, b0_3, b0_4, b0_5, b0_6, b0_7, b0_8, ()), ()))
            else Option.some (Sum.inl ((Bool.false, ()), (b0, b0_1, b0_2, b0_3, b0_4, b0_5, b0_6, b0_7, b0_8, ()), ()))
          else Option.some (Sum.inl ((Bool.false, ()), (b0, b0_1, b0_2, b0_3, b0_4, b0_5, b0_6, b0_7, b0_8, ()), ()))
      else Option.none
    else Option.some (Sum.inr ((), (b0, b0_1, b0_2, b0_3, b0_4, b0_5, b0_6, b0_7, b0_8, ()), ()))
def check_Sound.w2 : List Nat := [81, 82, 83, 84, 9, 8, 85, 86, 87, 88, 89, 90, 91, 92, 93, 94, 95, 96, 97, 5, 98, 99, 100, 101, 102, 6, 103, 104, 105, 106, 7, 107, 108, 109, 110, 111, 112, 113, 114, 115, 116, 117, 118, 119, 120, 121, 2, 122, 80]
noncomputable def check_Sound.e2 (k j : Nat) : check_Sound.s2.den → Option (OutT check_Sound.o2) := fun d => check_Sound.l2 k j d.1.2.1 d.1.2.2.1 d.1.2.2.2.1 d.1.2.2.2.2.1 d.1.2.2.2.2.2.1 d.1.2.2.2.2.2.2.1 d.2.1.1 d.2.1.2.1 d.2.1.2.2.1 d.2.1.2.2.2.1 d.2.1.2.2.2.2.1 d.2.1.2.2.2.2.2.1 d.2.1.2.2.2.2.2.2.1 d.2.1.2.2.2.2.2.2.2.1 d.2.1.2.2.2.2.2.2.2.2.1
noncomputable def check_Sound.m2 (k : Nat) : LamS κ := ⟨lamK 123 check_Sound.w2 check_Sound.s2 check_Sound.o2 (check_Sound.e2 k k)⟩
def check_Sound.p : Pat κ := .bool
def check_Sound.b : List (BPat κ) := []
noncomputable def check_Sound (k : Nat) (t0 : ByteArray) (t0_1 : List S42) (t0_2 : List S47) (t0_3 : List S110) (t0_4 : List ByteArray) (t0_5 : List ByteArray) (t0_6 : List S112) (t0_7 : List S98) (t0_8 : Int) : Option (Bool × Unit) :=
    Option.bind (Go.Am.Tryd.check_Sound.l0 k t0 t0_1 t0_2 t0_3 t0_4 t0_5 t0_6 t0_7 t0_8) fun r0 =>
      Go.Am.onSum r0 (fun r1 => Option.some (Prod.fst (Prod.fst r1), ())) fun r1 =>
        Option.bind
          (Go.Am.Tryd.check_Sound.l1 k k (Prod.fst (Prod.snd (Prod.snd (Prod.snd (Prod.fst (Prod.snd r1))))))
            (↑(List.length (Prod.fst (Prod.snd (Prod.snd (Prod.snd (Prod.fst (Prod.snd r1))))))) : Int) (0 : Int))
          fun r2 =>
          Go.Am.onSum r2 (fun r3 => Option.some (Prod.fst (Prod.fst r3), ())) fun r3 =>
            Option.bind
              (Go.Am.Tryd.check_Sound.l2 k k (0 : Int) (0 : Int) (0 : Int)
                (Prod.fst (Prod.snd (Prod.snd (Prod.snd (Prod.snd (Prod.snd (Prod.snd (Prod.snd (Prod.fst (Prod.snd r1))))))))))
                (↑(List.length (Prod.fst (Prod.snd (Prod.snd (Prod.snd (Prod.snd (Prod.snd (Prod.snd (Prod.snd (Prod.fst (Prod.snd r1))))))))))) : Int) (0 : Int)
                (Prod.fst (Prod.fst (Prod.snd r1))) (Prod.fst (Prod.snd (Prod.fst (Prod.snd r1)))) (Prod.fst (Prod.snd (Prod.snd (Prod.fst (Prod.snd r1)))))
                (Prod.fst (Prod.snd (Prod.snd (Prod.snd (Prod.fst (Prod.snd r1)))))) (Prod.fst (Prod.snd (Prod.snd (Prod.snd (Prod.snd (Prod.fst (Prod.snd r1)))))))
                (Prod.fst (Prod.snd (Prod.snd (Prod.snd (Prod.snd (Prod.snd (Prod.fst (Prod.snd r1))))))))
                (Prod.fst (Prod.snd (Prod.snd (Prod.snd (Prod.snd (Prod.snd (Prod.snd (Prod.fst (Prod.snd r1)))))))))
                (Prod.fst (Prod.snd (Prod.snd (Prod.snd (Prod.snd (Prod.snd (Prod.snd (Prod.snd (Prod.fst (Prod.snd r1))))))))))
                (Prod.fst (Prod.snd (Prod.snd (Prod.snd (Prod.snd (Prod.snd (Prod.snd (Prod.snd (Prod.snd (Prod.fst (Prod.snd r1))))))))))))
              fun r4 => Go.Am.onSum r4 (fun r5 => Option.some (Prod.fst (Prod.fst r5), ())) fun r5 => Option.some (Bool.true, ())
noncomputable def check_Sound.f (k : Nat) : dens check_Sound.i → Option (check_Sound.p.den × densB check_Sound.b) := fun d => check_Sound k d.1.1 d.1.2.1 d.1.2.2.1 d.1.2.2.2.1 d.1.2.2.2.2.1 d.1.2.2.2.2.2.1 d.1.2.2.2.2.2.2.1 d.1.2.2.2.2.2.2.2.1 d.1.2.2.2.2.2.2.2.2.1
noncomputable def check_Sound.ctx (k : Nat) : Ctx κ := check_Sound.x k [check_Sound.m0 k, check_Sound.m1 k, check_Sound.m2 k]
theorem check_Sound.xOk (k : Nat) : (check_Sound.ctx k).Ok := ctxOk ⟨check_in.entOk k, check_Grid.entOk k, check_named.entOk k, check_nodes.entOk k, check_soundStage.entOk k, trivial⟩ ⟨check_in.qentOk k, check_Grid.qentOk k, check_named.qentOk k, check_nodes.qentOk k, check_soundStage.qentOk k, trivial⟩
theorem check_Sound.k0 (k : Nat) : LamOk (check_Sound.ctx k) ((check_Sound.ctx k).Λ 0) (sub [1, 0] check_Sound.c) :=
  cut_ok (kindOf := kindOf) (C := check_Sound.ctx k) (n := .none) (L := check_Sound.e0 k) (check_Sound.xOk k) (by kernel_rfl) (by kernel_rfl) (fits_of (l := []) (by kernel_rfl) trivial) (fun _ => by kernel_rfl)
theorem check_Sound.k1 (k : Nat) : LamOk (check_Sound.ctx k) ((check_Sound.ctx k).Λ 1) (.loop (sub [1, 1, 0, 1, 0, 0] check_Sound.c)) :=
  loop_ok (kindOf := kindOf) (C := check_Sound.ctx k) (n := .none) (L := check_Sound.e1 k) (check_Sound.xOk k) (by kernel_rfl) (by kernel_rfl) (fits_of (l := []) (by kernel_rfl) trivial) (fun _ => by kernel_rfl) (fun _ _ => by kernel_rfl) k
theorem check_Sound.k2 (k : Nat) : LamOk (check_Sound.ctx k) ((check_Sound.ctx k).Λ 2) (.loop (sub [1, 1, 1, 1, 0, 1, 0, 0] check_Sound.c)) :=
  loop_ok (kindOf := kindOf) (C := check_Sound.ctx k) (n := .none) (L := check_Sound.e2 k) (check_Sound.xOk k) (by kernel_rfl) (by kernel_rfl) (fits_of (l := []) (by kernel_rfl) trivial) (fun _ => by kernel_rfl) (fun _ _ => by kernel_rfl) k
theorem check_Sound.call (k : Nat) : CallV Tryd.prog E glob 58 check_Sound.i check_Sound.p check_Sound.b (check_Sound.f k) :=
  fn_okZ (kindOf := kindOf) (C := check_Sound.ctx k) (n := (.pair .none (.pair (.cut 0) (.pair (.pair .none (.pair (.cut 1) .none)) (.pair .none (.pair (.pair .none (.pair (.cut 2) .none)) .none)))))) (check_Sound.xOk k) Tryd.func58 check_Sound.hb (fits_of (l := [(0, (sub [1, 0] check_Sound.c)), (1, .loop (sub [1, 1, 0, 1, 0, 0] check_Sound.c)), (2, .loop (sub [1, 1, 1, 1, 0, 1, 0, 0] check_Sound.c))]) (by kernel_rfl) ⟨check_Sound.k0 k, check_Sound.k1 k, check_Sound.k2 k, trivial⟩) (fun _ => by kernel_rfl)
noncomputable def check_Sound.ent (k : Nat) : EntS κ := ⟨58, [], entOf check_Sound.i check_Sound.p check_Sound.b true (check_Sound.f k) E⟩
theorem check_Sound.entOk (k : Nat) : EntOk Tryd.prog E glob 58 (check_Sound.ent k).run := ent_free encOk (callable_of Tryd.func58 (by kernel_rfl) (by kernel_rfl)) (by rfl) trivial (check_Sound.call k)
noncomputable def check_Sound.qent (k : Nat) : QEntS κ := ⟨58, qentOf check_Sound.i check_Sound.p (check_Sound.f k) E⟩
theorem check_Sound.qentOk (k : Nat) : QEntOk Tryd.prog E glob 58 (check_Sound.qent k).run := qent_ok encOk (callable_of Tryd.func58 (by kernel_rfl) (by kernel_rfl)) (check_Sound.call k)
noncomputable def safety_reached.c : Go.Code := match Tryd.f59.body with | some c => c | none => .skip
theorem safety_reached.hb : Tryd.f59.body = some safety_reached.c := by kernel_rfl
noncomputable def safety_reached.x (k : Nat) (ls : List (LamS κ)) : Ctx κ := mkCtx [] [] ls
def safety_reached.i : List (Pat κ) := [.agg [.str, .ro .T42, .ro .T47, .ro .T110, .ro .T9, .ro .T9, .ro .T112, .ro .T98, .int .i64]]
def safety_reached.s1 : Sh κ := ⟨0, [1, 3, 4], [.rop [.str, .ro .T42, .ro .T47, .ro .T110, .ro .T9, .ro .T9, .ro .T112, .ro .T98, .int .i64], .own .T4 0, .own .T3 1], [.rows .T4, .rows .T3]⟩
def safety_reached.s0 : Sh κ := ⟨0, [3, 4, 38, 39, 40], [.own .T4 0, .own .T3 1, .ro .T95, .int .i64, .int .i64], [.rows .T4, .rows .T3]⟩
def safety_reached.o0 : List (Ex × Sh κ) := [(.exit 2, ⟨2, [3, 4], [.own .T4 0, .own .T3 1], [.rows .T4, .rows .T3]⟩)]
noncomputable def safety_reached.l0 (k : Nat) : Nat → (List S95) → Int → Int → (List Bool) → (List Int) → Option ((Unit × Unit × Unit) × List Bool × List Int × Unit)
  | 0, _, _, _, _, _ => none
  | j + 1, t38, t39, t40, b0, b1 =>
    if Decidable.decide (t40 < t39) = Bool.true then
      if (0 : Int) ≤ t40 ∧ t40 < (↑(List.length t38) : Int) then
        if
            (0 : Int) ≤ Go.Am.Tryd.S95.f0 (List.getD t38 (Int.toNat t40) (Go.Am.Tryd.S95.mk (0 : Int) [])) ∧
              Go.Am.Tryd.S95.f0 (List.getD t38 (Int.toNat t40) (Go.Am.Tryd.S95.mk (0 : Int) [])) < (↑(List.length b0) : Int) then
          if (!List.getD b0 (Int.toNat (Go.Am.Tryd.S95.f0 (List.getD t38 (Int.toNat t40) (Go.Am.Tryd.S95.mk (0 : Int) [])))) Bool.false) = Bool.true then
            if
                (0 : Int) ≤ Go.Am.Tryd.S95.f0 (List.getD t38 (Int.toNat t40) (Go.Am.Tryd.S95.mk (0 : Int) [])) ∧
                  Go.Am.Tryd.S95.f0 (List.getD t38 (Int.toNat t40) (Go.Am.Tryd.S95.mk (0 : Int) [])) < (↑(List.length b0) : Int) then
              Go.Am.room ((List.length b1 + List.length [Go.Am.Tryd.S95.f0 (List.getD t38 (Int.toNat t40) (Go.Am.Tryd.S95.mk (0 : Int) []))]) * (8 : Nat))
                (safety_reached.l0 k j t38 t39 (Go.IntKind.wrap Go.IntKind.i64 (t40 + (1 : Int)))
                  (List.set b0 (Int.toNat (Go.Am.Tryd.S95.f0 (List.getD t38 (Int.toNat t40) (Go.Am.Tryd.S95.mk (0 : Int) [])))) Bool.true)
                  (b1 ++ [Go.Am.Tryd.S95.f0 (List.getD t38 (Int.toNat t40) (Go.Am.Tryd.S95.mk (0 : Int) []))]))
            else Option.none
          else safety_reached.l0 k j t38 t39 (Go.IntKind.wrap Go.IntKind.i64 (t40 + (1 : Int))) b0 b1
        else Option.none
      else Option.none
    else Option.some (((), (), ()), b0, b1, ())
def safety_reached.w0 : List Nat := [41, 42, 43, 7, 44, 45, 46, 47, 48, 49, 50, 51, 52, 53, 54, 55, 56, 57, 58, 4, 59, 40]
noncomputable def safety_reached.e0 (k j : Nat) : safety_reached.s0.den → Option (OutT safety_reached.o0) := fun d => safety_reached.l0 k j d.1.2.2.1 d.1.2.2.2.1 d.1.2.2.2.2.1 d.2.1 d.2.2.1
noncomputable def safety_reached.m0 (k : Nat) : LamS κ := ⟨lamK 61 safety_reached.w0 safety_reached.s0 safety_reached.o0 (safety_reached.e0 k k)⟩
def safety_reached.o1 : List (Ex × Sh κ) := [(.exit 0, ⟨2, [3], [.own .T4 0], [.rows .T4, .rows .T3]⟩)]
noncomputable def safety_reached.l1 (k : Nat) : Nat → ByteArray → (List S42) → (List S47) → (List S110) → (List ByteArray) → (List ByteArray) → (List S112) → (List S98) → Int → (List Bool) → (List Int) → Option ((Unit × Unit) × List Bool × List Int × Unit)
  | 0, _, _, _, _, _, _, _, _, _, _, _ => none
  | j + 1, t1, t1_1, t1_2, t1_3, t1_4, t1_5, t1_6, t1_7, t1_8, b0, b1 =>
    if Decidable.decide ((↑(List.length b1) : Int) > (0 : Int)) = Bool.true then
      if
          (0 : Int) ≤ Go.IntKind.wrap Go.IntKind.i64 ((↑(List.length b1) : Int) - (1 : Int)) ∧
            Go.IntKind.wrap Go.IntKind.i64 ((↑(List.length b1) : Int) - (1 : Int)) < (↑(List.length b1) : Int) then
        if
            (0 : Int) ≤ Go.IntKind.wrap Go.IntKind.i64 ((↑(List.length b1) : Int) - (1 : Int)) ∧
              Go.IntKind.wrap Go.IntKind.i64 ((↑(List.length b1) : Int) - (1 : Int)) ≤ (↑(List.length b1) : Int) then
          if
              (0 : Int) ≤ List.getD b1 (Int.toNat (Go.IntKind.wrap Go.IntKind.i64 ((↑(List.length b1) : Int) - (1 : Int)))) (0 : Int) ∧
                List.getD b1 (Int.toNat (Go.IntKind.wrap Go.IntKind.i64 ((↑(List.length b1) : Int) - (1 : Int)))) (0 : Int) < (↑(List.length t1_7) : Int) then
            Option.bind
              (Go.Am.Tryd.safety_reached.l0 k k
                (Go.Am.Tryd.S98.f6
                  (List.getD t1_7 (Int.toNat (List.getD b1 (Int.toNat (Go.IntKind.wrap Go.IntKind.i64 ((↑(List.length b1) : Int) - (1 : Int)))) (0 : Int)))
                    (Go.Am.Tryd.S98.mk ByteArray.empty (0 : Int) (0 : Int) [] [] [] [])))
                (↑(List.length
                      (Go.Am.Tryd.S98.f6
                        (List.getD t1_7 (Int.toNat (List.getD b1 (Int.toNat (Go.IntKind.wrap Go.IntKind.i64 ((↑(List.length b1) : Int) - (1 : Int)))) (0 : Int)))
                          (Go.Am.Tryd.S98.mk ByteArray.empty (0 : Int) (0 : Int) [] [] [] [])))) :
                  Int)
                (0 : Int) b0 (List.take (Int.toNat (Go.IntKind.wrap Go.IntKind.i64 ((↑(List.length b1) : Int) - (1 : Int)))) b1))
              fun r0 => safety_reached.l1 k j t1 t1_1 t1_2 t1_3 t1_4 t1_5 t1_6 t1_7 t1_8 (Prod.fst (Prod.snd r0)) (Prod.fst (Prod.snd (Prod.snd r0)))
          else Option.none
        else Option.none
      else Option.none
    else Option.some (((), ()), b0, b1, ())
def safety_reached.w1 : List Nat := [19, 20, 21, 22, 23, 24, 25, 26, 27, 5, 28, 29, 30, 31, 32, 4, 33, 34, 35, 36, 37, 38, 39, 40, 41, 42, 43, 7, 44, 45, 46, 47, 48, 49, 50, 51, 52, 53, 54, 55, 56, 57, 58, 59]
noncomputable def safety_reached.e1 (k j : Nat) : safety_reached.s1.den → Option (OutT safety_reached.o1) := fun d => safety_reached.l1 k j d.1.1.1 d.1.1.2.1 d.1.1.2.2.1 d.1.1.2.2.2.1 d.1.1.2.2.2.2.1 d.1.1.2.2.2.2.2.1 d.1.1.2.2.2.2.2.2.1 d.1.1.2.2.2.2.2.2.2.1 d.1.1.2.2.2.2.2.2.2.2.1 d.2.1 d.2.2.1
noncomputable def safety_reached.m1 (k : Nat) : LamS κ := ⟨lamK 61 safety_reached.w1 safety_reached.s1 safety_reached.o1 (safety_reached.e1 k k)⟩
def safety_reached.p : Pat κ := .ro .T4
def safety_reached.b : List (BPat κ) := []
noncomputable def safety_reached (k : Nat) (t0 : ByteArray) (t0_1 : List S42) (t0_2 : List S47) (t0_3 : List S110) (t0_4 : List ByteArray) (t0_5 : List ByteArray) (t0_6 : List S112) (t0_7 : List S98) (t0_8 : Int) : Option (List Bool × Unit) :=
    if
        (0 : Int) ≤ (↑(List.length t0_7) : Int) ∧
          (↑(List.length t0_7) : Int) ≤ (↑(List.length t0_7) : Int) ∧ (↑(List.length t0_7) : Int) * (↑(1 : Nat) : Int) ≤ (↑(140737488355328 : Nat) : Int) then
      if (0 : Int) ≤ t0_8 ∧ t0_8 < (↑(List.length (List.replicate (Int.toNat (↑(List.length t0_7) : Int)) Bool.false)) : Int) then
        Option.bind
          (Go.Am.Tryd.safety_reached.l1 k k t0 t0_1 t0_2 t0_3 t0_4 t0_5 t0_6 t0_7 t0_8
            (List.set (List.replicate (Int.toNat (↑(List.length t0_7) : Int)) Bool.false) (Int.toNat t0_8) Bool.true) [t0_8])
          fun r0 => Option.some (Prod.fst (Prod.snd r0), ())
      else Option.none
    else Option.none
noncomputable def safety_reached.f (k : Nat) : dens safety_reached.i → Option (safety_reached.p.den × densB safety_reached.b) := fun d => safety_reached k d.1.1 d.1.2.1 d.1.2.2.1 d.1.2.2.2.1 d.1.2.2.2.2.1 d.1.2.2.2.2.2.1 d.1.2.2.2.2.2.2.1 d.1.2.2.2.2.2.2.2.1 d.1.2.2.2.2.2.2.2.2.1
noncomputable def safety_reached.ctx (k : Nat) : Ctx κ := safety_reached.x k [safety_reached.m0 k, safety_reached.m1 k]
theorem safety_reached.xOk (k : Nat) : (safety_reached.ctx k).Ok := ctxOk trivial trivial
theorem safety_reached.k0 (k : Nat) : LamOk (safety_reached.ctx k) ((safety_reached.ctx k).Λ 0) (.loop (sub [1, 1, 1, 1, 0, 0, 0, 1, 0, 1, 1, 1, 0, 0] safety_reached.c)) :=
  loop_ok (kindOf := kindOf) (C := safety_reached.ctx k) (n := .none) (L := safety_reached.e0 k) (safety_reached.xOk k) (by kernel_rfl) (by kernel_rfl) (fits_of (l := []) (by kernel_rfl) trivial) (fun _ => by kernel_rfl) (fun _ _ => by kernel_rfl) k
theorem safety_reached.k1 (k : Nat) : LamOk (safety_reached.ctx k) ((safety_reached.ctx k).Λ 1) (.loop (sub [1, 1, 1, 1, 0, 0, 0] safety_reached.c)) :=
  loop_ok (kindOf := kindOf) (C := safety_reached.ctx k) (n := (.pair .none (.pair (.pair .none (.pair .none (.pair .none (.pair (.cut 0) .none)))) .none))) (L := safety_reached.e1 k) (safety_reached.xOk k) (by kernel_rfl) (by kernel_rfl) (fits_of (l := [(0, .loop (sub [1, 1, 1, 1, 0, 0, 0, 1, 0, 1, 1, 1, 0, 0] safety_reached.c))]) (by kernel_rfl) ⟨safety_reached.k0 k, trivial⟩) (fun _ => by kernel_rfl) (fun _ _ => by kernel_rfl) k
theorem safety_reached.call (k : Nat) : CallV Tryd.prog E glob 59 safety_reached.i safety_reached.p safety_reached.b (safety_reached.f k) :=
  fn_okZ (kindOf := kindOf) (C := safety_reached.ctx k) (n := (.pair (.ops [0] 0) (.pair .none (.pair .none (.pair .none (.pair (.pair (.cut 1) .none) .none)))))) (safety_reached.xOk k) Tryd.func59 safety_reached.hb (fits_of (l := [(1, .loop (sub [1, 1, 1, 1, 0, 0, 0] safety_reached.c))]) (by kernel_rfl) ⟨safety_reached.k1 k, trivial⟩) (fun _ => by kernel_rfl)
noncomputable def safety_reached.ent (k : Nat) : EntS κ := ⟨59, [], entOf safety_reached.i safety_reached.p safety_reached.b false (safety_reached.f k) E⟩
theorem safety_reached.entOk (k : Nat) : EntOk Tryd.prog E glob 59 (safety_reached.ent k).run := ent_bound encOk (callable_of Tryd.func59 (by kernel_rfl) (by kernel_rfl)) (safety_reached.call k)
noncomputable def safety_Reach.c : Go.Code := match Tryd.f33.body with | some c => c | none => .skip
theorem safety_Reach.hb : Tryd.f33.body = some safety_Reach.c := by kernel_rfl
noncomputable def safety_Reach.x (k : Nat) (ls : List (LamS κ)) : Ctx κ := mkCtx [check_Sound.ent k, safety_reached.ent k] [check_Sound.qent k] ls
def safety_Reach.i : List (Pat κ) := [.agg [.str, .ro .T42, .ro .T47, .ro .T110, .ro .T9, .ro .T9, .ro .T112, .ro .T98, .int .i64]]
def safety_Reach.p : Pat κ := .tup [.ro .T4, .int .i64]
def safety_Reach.b : List (BPat κ) := []
noncomputable def safety_Reach (k : Nat) (t0 : ByteArray) (t0_1 : List S42) (t0_2 : List S47) (t0_3 : List S110) (t0_4 : List ByteArray) (t0_5 : List ByteArray) (t0_6 : List S112) (t0_7 : List S98) (t0_8 : Int) : Option ((List Bool × Int × Unit) × Unit) :=
    Option.bind (Go.Am.Tryd.check_Sound k t0 t0_1 t0_2 t0_3 t0_4 t0_5 t0_6 t0_7 t0_8) fun r0 =>
      if (!Prod.fst r0) = Bool.true then Option.some (([], (80 : Int), ()), ())
      else Option.bind (Go.Am.Tryd.safety_reached k t0 t0_1 t0_2 t0_3 t0_4 t0_5 t0_6 t0_7 t0_8) fun r1 => Option.some ((Prod.fst r1, (0 : Int), ()), ())
noncomputable def safety_Reach.f (k : Nat) : dens safety_Reach.i → Option (safety_Reach.p.den × densB safety_Reach.b) := fun d => safety_Reach k d.1.1 d.1.2.1 d.1.2.2.1 d.1.2.2.2.1 d.1.2.2.2.2.1 d.1.2.2.2.2.2.1 d.1.2.2.2.2.2.2.1 d.1.2.2.2.2.2.2.2.1 d.1.2.2.2.2.2.2.2.2.1
noncomputable def safety_Reach.ctx (k : Nat) : Ctx κ := safety_Reach.x k []
theorem safety_Reach.xOk (k : Nat) : (safety_Reach.ctx k).Ok := ctxOk ⟨check_Sound.entOk k, safety_reached.entOk k, trivial⟩ ⟨check_Sound.qentOk k, trivial⟩
theorem safety_Reach.call (k : Nat) : CallV Tryd.prog E glob 33 safety_Reach.i safety_Reach.p safety_Reach.b (safety_Reach.f k) :=
  fn_okZ (kindOf := kindOf) (C := safety_Reach.ctx k) (n := (.pair (.ops [0] 0) .none)) (safety_Reach.xOk k) Tryd.func33 safety_Reach.hb (fits_of (l := []) (by kernel_rfl) trivial) (fun _ => by kernel_rfl)
noncomputable def safety_Reach.ent (k : Nat) : EntS κ := ⟨33, [], entOf safety_Reach.i safety_Reach.p safety_Reach.b false (safety_Reach.f k) E⟩
theorem safety_Reach.entOk (k : Nat) : EntOk Tryd.prog E glob 33 (safety_Reach.ent k).run := ent_bound encOk (callable_of Tryd.func33 (by kernel_rfl) (by kernel_rfl)) (safety_Reach.call k)

end Go.Am.Tryd
