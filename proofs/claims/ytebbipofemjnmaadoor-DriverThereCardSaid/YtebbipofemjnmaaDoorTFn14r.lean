/- The functions of the program that DriverRetraces, DriverThere and DriverBack reach beyond DriverTraces, over data: written by the generator; Lean checks it. -/
import Derived.Test.YtebbipofemjnmaaDoorTCut14
namespace Go.Am.Tryd
open Go.Proofs Go.Am
set_option maxRecDepth 1000000
set_option linter.unusedVariables false
noncomputable def stringslite_Cut.c : Go.Code := match Tryd.f43.body with | some c => c | none => .skip
theorem stringslite_Cut.hb : Tryd.f43.body = some stringslite_Cut.c := by kernel_rfl
noncomputable def stringslite_Cut.x (k : Nat) (ls : List (LamS κ)) : Ctx κ := mkCtx [stringslite_Index.ent k] [stringslite_Index.qent k] ls
def stringslite_Cut.i : List (Pat κ) := [.str, .str]
def stringslite_Cut.p : Pat κ := .tup [.str, .str, .bool]
def stringslite_Cut.b : List (BPat κ) := []
noncomputable def stringslite_Cut (k : Nat) (t0 : ByteArray) (t1 : ByteArray) : Option ((ByteArray × ByteArray × Bool × Unit) × Unit) :=
    Option.bind (Go.Am.Tryd.stringslite_Index k t0 t1) fun r0 =>
      if Decidable.decide (Prod.fst r0 ≥ (0 : Int)) = Bool.true then
        if (0 : Int) ≤ Prod.fst r0 ∧ Prod.fst r0 ≤ (↑(ByteArray.size t0) : Int) then
          if
              (0 : Int) ≤ Go.IntKind.wrap Go.IntKind.i64 (Prod.fst r0 + (↑(ByteArray.size t1) : Int)) ∧
                Go.IntKind.wrap Go.IntKind.i64 (Prod.fst r0 + (↑(ByteArray.size t1) : Int)) ≤ (↑(ByteArray.size t0) : Int) then
            Option.some
              ((ByteArray.extract t0 (0 : Nat) (Int.toNat (Prod.fst r0)),
                  ByteArray.extract t0 (Int.toNat (Go.IntKind.wrap Go.IntKind.i64 (Prod.fst r0 + (↑(ByteArray.size t1) : Int)))) (ByteArray.size t0), Bool.true,
                  ()),
                ())
          else Option.none
        else Option.none
      else Option.some ((t0, ByteArray.mk #[], Bool.false, ()), ())
noncomputable def stringslite_Cut.f (k : Nat) : dens stringslite_Cut.i → Option (stringslite_Cut.p.den × densB stringslite_Cut.b) := fun d => stringslite_Cut k d.1 d.2.1
noncomputable def stringslite_Cut.ctx (k : Nat) : Ctx κ := stringslite_Cut.x k []
theorem stringslite_Cut.xOk (k : Nat) : (stringslite_Cut.ctx k).Ok := ctxOk ⟨stringslite_Index.entOk k, trivial⟩ ⟨stringslite_Index.qentOk k, trivial⟩
theorem stringslite_Cut.call (k : Nat) : CallV Tryd.prog E glob 43 stringslite_Cut.i stringslite_Cut.p stringslite_Cut.b (stringslite_Cut.f k) :=
  fn_okZ (kindOf := kindOf) (C := stringslite_Cut.ctx k) (n := (.pair .none (.pair (.pair .none (.pair .none (.pair (.pair (.ops [] 12) .none) .none))) .none))) (stringslite_Cut.xOk k) Tryd.func43 stringslite_Cut.hb (fits_of (l := []) (by kernel_rfl) trivial) (fun _ => by kernel_rfl)
noncomputable def stringslite_Cut.ent (k : Nat) : EntS κ := ⟨43, [], entOf stringslite_Cut.i stringslite_Cut.p stringslite_Cut.b true (stringslite_Cut.f k) E⟩
theorem stringslite_Cut.entOk (k : Nat) : EntOk Tryd.prog E glob 43 (stringslite_Cut.ent k).run := ent_free encOk (callable_of Tryd.func43 (by kernel_rfl) (by kernel_rfl)) (by rfl) trivial (stringslite_Cut.call k)
noncomputable def strings_Cut.c : Go.Code := match Tryd.f28.body with | some c => c | none => .skip
theorem strings_Cut.hb : Tryd.f28.body = some strings_Cut.c := by kernel_rfl
noncomputable def strings_Cut.x (k : Nat) (ls : List (LamS κ)) : Ctx κ := mkCtx [stringslite_Cut.ent k] [] ls
def strings_Cut.i : List (Pat κ) := [.str, .str]
def strings_Cut.p : Pat κ := .tup [.str, .str, .bool]
def strings_Cut.b : List (BPat κ) := []
noncomputable def strings_Cut (k : Nat) (t0 : ByteArray) (t1 : ByteArray) : Option ((ByteArray × ByteArray × Bool × Unit) × Unit) :=
    Option.bind (Go.Am.Tryd.stringslite_Cut k t0 t1) fun r0 =>
      Option.some ((Prod.fst (Prod.fst r0), Prod.fst (Prod.snd (Prod.fst r0)), Prod.fst (Prod.snd (Prod.snd (Prod.fst r0))), ()), ())
noncomputable def strings_Cut.f (k : Nat) : dens strings_Cut.i → Option (strings_Cut.p.den × densB strings_Cut.b) := fun d => strings_Cut k d.1 d.2.1
noncomputable def strings_Cut.ctx (k : Nat) : Ctx κ := strings_Cut.x k []
theorem strings_Cut.xOk (k : Nat) : (strings_Cut.ctx k).Ok := ctxOk ⟨stringslite_Cut.entOk k, trivial⟩ trivial
theorem strings_Cut.call (k : Nat) : CallV Tryd.prog E glob 28 strings_Cut.i strings_Cut.p strings_Cut.b (strings_Cut.f k) :=
  fn_okZ (kindOf := kindOf) (C := strings_Cut.ctx k) (n := .none) (strings_Cut.xOk k) Tryd.func28 strings_Cut.hb (fits_of (l := []) (by kernel_rfl) trivial) (fun _ => by kernel_rfl)
noncomputable def strings_Cut.ent (k : Nat) : EntS κ := ⟨28, [], entOf strings_Cut.i strings_Cut.p strings_Cut.b true (strings_Cut.f k) E⟩
theorem strings_Cut.entOk (k : Nat) : EntOk Tryd.prog E glob 28 (strings_Cut.ent k).run := ent_free encOk (callable_of Tryd.func28 (by kernel_rfl) (by kernel_rfl)) (by rfl) trivial (strings_Cut.call k)
noncomputable def driver_number.c : Go.Code := match Tryd.f44.body with | some c => c | none => .skip
theorem driver_number.hb : Tryd.f44.body = some driver_number.c := by kernel_rfl
noncomputable def driver_number.x (k : Nat) (ls : List (LamS κ)) : Ctx κ := mkCtx [] [] ls
def driver_number.i : List (Pat κ) := [.str]
def driver_number.s0 : Sh κ := ⟨0, [0], [.str], []⟩
def driver_number.o0 : List (Ex × Sh κ) := [(.ret, ⟨0, [2], [.int .i64], []⟩), (.normal, ⟨0, [], [], []⟩)]
noncomputable def driver_number.l0 (k : Nat) (t0 : ByteArray) : Option ((Int × Unit) × Unit ⊕ Unit × Unit) :=
    if (ByteArray.toList t0 == ByteArray.toList (ByteArray.mk #[])) = Bool.false then
      if Decidable.decide ((↑(ByteArray.size t0) : Int) > (6 : Int)) = Bool.false then
        if Decidable.decide ((↑(ByteArray.size t0) : Int) > (1 : Int)) = Bool.true then
          if (0 : Int) ≤ (0 : Int) ∧ (0 : Int) < (↑(ByteArray.size t0) : Int) then
            if (Go.Am.bt t0 (0 : Int) == (48 : Int)) = Bool.true then Option.some (Sum.inl (((-1 : Int), ()), ())) else Option.some (Sum.inr ((), ()))
          else Option.none
        else Option.some (Sum.inr ((), ()))
      else Option.some (Sum.inl (((-1 : Int), ()), ()))
    else Option.some (Sum.inl (((-1 : Int), ()), ()))
def driver_number.w0 : List Nat := [5, 6, 7, 8, 9, 10, 11, 12, 13, 14, 15, 16, 17, 18, 19, 20, 21, 2]
noncomputable def driver_number.e0 (k : Nat) : driver_number.s0.den → Option (OutT driver_number.o0) := fun d => driver_number.l0 k d.1.1
noncomputable def driver_number.m0 (k : Nat) : LamS κ := ⟨lamK 47 driver_number.w0 driver_number.s0 driver_number.o0 (driver_number.e0 k)⟩
def driver_number.s2 : Sh κ := ⟨0, [0, 3, 23, 24], [.str, .int .i64, .int .i64, .int .i64], []⟩
def driver_number.s1 : Sh κ := ⟨0, [0, 4], [.str, .int .i64], []⟩
def driver_number.o1 : List (Ex × Sh κ) := [(.ret, ⟨0, [2], [.int .i64], []⟩), (.normal, ⟨0, [], [], []⟩)]
noncomputable def driver_number.l1 (k : Nat) (t0 : ByteArray) (t4 : Int) : Option ((Int × Unit) × Unit ⊕ Unit × Unit) :=
    if (0 : Int) ≤ t4 ∧ t4 < (↑(ByteArray.size t0) : Int) then
      if Decidable.decide (Go.Am.bt t0 t4 < (48 : Int)) = Bool.false then
        if (0 : Int) ≤ t4 ∧ t4 < (↑(ByteArray.size t0) : Int) then
          if Decidable.decide (Go.Am.bt t0 t4 > (57 : Int)) = Bool.true then Option.some (Sum.inl (((-1 : Int), ()), ())) else Option.some (Sum.inr ((), ()))
        else Option.none
      else Option.some (Sum.inl (((-1 : Int), ()), ()))
    else Option.none
def driver_number.w1 : List Nat := [27, 28, 29, 30, 31, 32, 33, 34, 35, 36, 2]
noncomputable def driver_number.e1 (k : Nat) : driver_number.s1.den → Option (OutT driver_number.o1) := fun d => driver_number.l1 k d.1.1 d.1.2.1
noncomputable def driver_number.m1 (k : Nat) : LamS κ := ⟨lamK 47 driver_number.w1 driver_number.s1 driver_number.o1 (driver_number.e1 k)⟩
def driver_number.o2 : List (Ex × Sh κ) := [(.ret, ⟨0, [2], [.int .i64], []⟩), (.exit 0, ⟨0, [3], [.int .i64], []⟩)]
noncomputable def driver_number.l2 (k : Nat) : Nat → ByteArray → Int → Int → Int → Option ((Int × Unit) × Unit ⊕ (Int × Unit) × Unit)
  | 0, _, _, _, _ => none
  | j + 1, t0, t3, t23, t24 =>
    if Decidable.decide (t24 < t23) = Bool.true then
      Option.bind (Go.Am.Tryd.driver_number.l1 k t0 t24) fun r0 =>
        Go.Am.onSum r0 (fun r1 => Option.some (Sum.inl ((Prod.fst (Prod.fst r1), ()), ()))) fun r1 =>
          if (0 : Int) ≤ t24 ∧ t24 < (↑(ByteArray.size t0) : Int) then
            driver_number.l2 k j t0
              (Go.IntKind.wrap Go.IntKind.i64
                (Go.IntKind.wrap Go.IntKind.i64 ((10 : Int) * t3) + Go.IntKind.wrap Go.IntKind.i64 (Go.IntKind.wrap Go.IntKind.u8 (Go.Am.bt t0 t24 - (48 : Int)))))
              t23 (Go.IntKind.wrap Go.IntKind.i64 (t24 + (1 : Int)))
          else Option.none
    else Option.some (Sum.inr ((t3, ()), ()))
def driver_number.w2 : List Nat := [25, 26, 4, 27, 28, 29, 30, 31, 32, 33, 34, 35, 36, 2, 37, 38, 39, 40, 41, 42, 43, 44, 3, 45, 24]
noncomputable def driver_number.e2 (k j : Nat) : driver_number.s2.den → Option (OutT driver_number.o2) := fun d => driver_number.l2 k j d.1.1 d.1.2.1 d.1.2.2.1 d.1.2.2.2.1
noncomputable def driver_number.m2 (k : Nat) : LamS κ := ⟨lamK 47 driver_number.w2 driver_number.s2 driver_number.o2 (driver_number.e2 k k)⟩
def driver_number.p : Pat κ := .int .i64
def driver_number.b : List (BPat κ) := []
noncomputable def driver_number (k : Nat) (t0 : ByteArray) : Option (Int × Unit) :=
    Option.bind (Go.Am.Tryd.driver_number.l0 k t0) fun r0 =>
      Go.Am.onSum r0 (fun r1 => Option.some (Prod.fst (Prod.fst r1), ())) fun r1 =>
        Option.bind (Go.Am.Tryd.driver_number.l2 k k t0 (0 : Int) (↑(ByteArray.size t0) : Int) (0 : Int)) fun r2 =>
          Go.Am.onSum r2 (fun r3 => Option.some (Prod.fst (Prod.fst r3), ())) fun r3 => Option.some (Prod.fst (Prod.fst r3), ())
noncomputable def driver_number.f (k : Nat) : dens driver_number.i → Option (driver_number.p.den × densB driver_number.b) := fun d => driver_number k d.1
noncomputable def driver_number.ctx (k : Nat) : Ctx κ := driver_number.x k [driver_number.m0 k, driver_number.m1 k, driver_number.m2 k]
theorem driver_number.xOk (k : Nat) : (driver_number.ctx k).Ok := ctxOk trivial trivial
theorem driver_number.k0 (k : Nat) : LamOk (driver_number.ctx k) ((driver_number.ctx k).Λ 0) (sub [1, 0] driver_number.c) :=
  cut_ok (kindOf := kindOf) (C := driver_number.ctx k) (n := .none) (L := driver_number.e0 k) (driver_number.xOk k) (by kernel_rfl) (by kernel_rfl) (fits_of (l := []) (by kernel_rfl) trivial) (fun _ => by kernel_rfl)
theorem driver_number.k1 (k : Nat) : LamOk (driver_number.ctx k) ((driver_number.ctx k).Λ 1) (sub [1, 1, 1, 0, 1, 0, 0, 1, 1, 0, 0, 1, 0] driver_number.c) :=
  cut_ok (kindOf := kindOf) (C := driver_number.ctx k) (n := .none) (L := driver_number.e1 k) (driver_number.xOk k) (by kernel_rfl) (by kernel_rfl) (fits_of (l := []) (by kernel_rfl) trivial) (fun _ => by kernel_rfl)
theorem driver_number.k2 (k : Nat) : LamOk (driver_number.ctx k) ((driver_number.ctx k).Λ 2) (.loop (sub [1, 1, 1, 0, 1, 0, 0] driver_number.c)) :=
  loop_ok (kindOf := kindOf) (C := driver_number.ctx k) (n := (.pair .none (.pair .none (.pair (.pair (.pair .none (.pair (.cut 1) .none)) .none) .none)))) (L := driver_number.e2 k) (driver_number.xOk k) (by kernel_rfl) (by kernel_rfl) (fits_of (l := [(1, (sub [1, 1, 1, 0, 1, 0, 0, 1, 1, 0, 0, 1, 0] driver_number.c))]) (by kernel_rfl) ⟨driver_number.k1 k, trivial⟩) (fun _ => by kernel_rfl) (fun _ _ => by kernel_rfl) k
theorem driver_number.call (k : Nat) : CallV Tryd.prog E glob 44 driver_number.i driver_number.p driver_number.b (driver_number.f k) :=
  fn_okZ (kindOf := kindOf) (C := driver_number.ctx k) (n := (.pair .none (.pair (.cut 0) (.pair .none (.pair (.pair .none (.pair (.cut 2) .none)) .none))))) (driver_number.xOk k) Tryd.func44 driver_number.hb (fits_of (l := [(0, (sub [1, 0] driver_number.c)), (2, .loop (sub [1, 1, 1, 0, 1, 0, 0] driver_number.c))]) (by kernel_rfl) ⟨driver_number.k0 k, driver_number.k2 k, trivial⟩) (fun _ => by kernel_rfl)
noncomputable def driver_number.ent (k : Nat) : EntS κ := ⟨44, [], entOf driver_number.i driver_number.p driver_number.b true (driver_number.f k) E⟩
theorem driver_number.entOk (k : Nat) : EntOk Tryd.prog E glob 44 (driver_number.ent k).run := ent_free encOk (callable_of Tryd.func44 (by kernel_rfl) (by kernel_rfl)) (by rfl) trivial (driver_number.call k)
noncomputable def driver_number.qent (k : Nat) : QEntS κ := ⟨44, qentOf driver_number.i driver_number.p (driver_number.f k) E⟩
theorem driver_number.qentOk (k : Nat) : QEntOk Tryd.prog E glob 44 (driver_number.qent k).run := qent_ok encOk (callable_of Tryd.func44 (by kernel_rfl) (by kernel_rfl)) (driver_number.call k)
noncomputable def driver_stretch.c : Go.Code := match Tryd.f29.body with | some c => c | none => .skip
theorem driver_stretch.hb : Tryd.f29.body = some driver_stretch.c := by kernel_rfl
noncomputable def driver_stretch.x (k : Nat) (ls : List (LamS κ)) : Ctx κ := mkCtx [driver_tellable.ent k, strings_Cut.ent k, driver_number.ent k] [driver_tellable.qent k, driver_number.qent k] ls
def driver_stretch.i : List (Pat κ) := [.str, .int .i64]
def driver_stretch.s0 : Sh κ := ⟨0, [1, 14, 15, 16], [.int .i64, .str, .bool, .int .i64], []⟩
def driver_stretch.o0 : List (Ex × Sh κ) := [(.normal, ⟨0, [16], [.int .i64], []⟩)]
noncomputable def driver_stretch.l0 (k : Nat) (t1 : Int) (t14 : ByteArray) (t15 : Bool) (t16 : Int) : Option ((Int × Unit) × Unit) :=
    if t15 = Bool.true then
      Option.bind (Go.Am.Tryd.driver_number k t14) fun r0 =>
        Option.some ((Go.IntKind.wrap Go.IntKind.i64 (Go.IntKind.wrap Go.IntKind.i64 (Prod.fst r0 - t1) + (1 : Int)), ()), ())
    else Option.some ((t16, ()), ())
def driver_stretch.w0 : List Nat := [36, 37, 38, 39, 40, 41, 16]
noncomputable def driver_stretch.e0 (k : Nat) : driver_stretch.s0.den → Option (OutT driver_stretch.o0) := fun d => driver_stretch.l0 k d.1.1 d.1.2.1 d.1.2.2.1 d.1.2.2.2.1
noncomputable def driver_stretch.m0 (k : Nat) : LamS κ := ⟨lamK 90 driver_stretch.w0 driver_stretch.s0 driver_stretch.o0 (driver_stretch.e0 k)⟩
def driver_stretch.s1 : Sh κ := ⟨0, [10, 17], [.str, .ptr 0 0], [.raw 38 [.str, .int .i64]]⟩
def driver_stretch.o1 : List (Ex × Sh κ) := [(.normal, ⟨1, [17], [.ptr 0 0], [.raw 38 [.str, .int .i64]]⟩)]
noncomputable def driver_stretch.l1 (k : Nat) (t10 : ByteArray) (b0 : ByteArray) (b0_1 : Int) : Option ((Unit × Unit) × (ByteArray × Int × Unit) × Unit) :=
    if (ByteArray.toList t10 == ByteArray.toList (ByteArray.mk #[(46 : UInt8)])) = Bool.true then Option.some (((), ()), (ByteArray.mk #[], b0_1, ()), ())
    else Option.some (((), ()), (b0, b0_1, ()), ())
def driver_stretch.w1 : List Nat := [44, 45, 46]
noncomputable def driver_stretch.e1 (k : Nat) : driver_stretch.s1.den → Option (OutT driver_stretch.o1) := fun d => driver_stretch.l1 k d.1.1 d.2.1.1 d.2.1.2.1
noncomputable def driver_stretch.m1 (k : Nat) : LamS κ := ⟨lamK 90 driver_stretch.w1 driver_stretch.s1 driver_stretch.o1 (driver_stretch.e1 k)⟩
def driver_stretch.s2 : Sh κ := ⟨0, [5, 11, 17], [.ptr 0 0, .str, .ptr 1 0], [.raw 38 [.str, .int .i64], .raw 38 [.str, .int .i64]]⟩
def driver_stretch.o2 : List (Ex × Sh κ) := [(.ret, ⟨2, [4, 5, 6], [.int .i64, .ptr 0 0, .bool], [.raw 38 [.str, .int .i64], .raw 38 [.str, .int .i64]]⟩), (.normal, ⟨2, [5, 17], [.ptr 0 0, .ptr 1 0], [.raw 38 [.str, .int .i64], .raw 38 [.str, .int .i64]]⟩)]
noncomputable def driver_stretch.l2 (k : Nat) (t11 : ByteArray) (b0 : ByteArray) (b0_1 : Int) (b1 : ByteArray) (b1_1 : Int) : Option ((Int × Unit × Bool × Unit) × (ByteArray × Int × Unit) × (ByteArray × Int × Unit) × Unit ⊕
      (Unit × Unit × Unit) × (ByteArray × Int × Unit) × (ByteArray × Int × Unit) × Unit) :=
    if (!ByteArray.toList t11 == ByteArray.toList (ByteArray.mk #[(45 : UInt8)])) = Bool.true then
      Option.bind (Go.Am.Tryd.driver_number k t11) fun r0 =>
        if Decidable.decide (Prod.fst r0 < (0 : Int)) = Bool.true then
          Option.some (Sum.inl (((0 : Int), (), Bool.false, ()), (b1, Prod.fst r0, ()), (b1, Prod.fst r0, ()), ()))
        else Option.some (Sum.inr (((), (), ()), (b0, b0_1, ()), (b1, Prod.fst r0, ()), ()))
    else Option.some (Sum.inr (((), (), ()), (b0, b0_1, ()), (b1, b1_1, ()), ()))
def driver_stretch.w2 : List Nat := [47, 48, 49, 50, 51, 52, 53, 54, 55, 4, 6]
noncomputable def driver_stretch.e2 (k : Nat) : driver_stretch.s2.den → Option (OutT driver_stretch.o2) := fun d => driver_stretch.l2 k d.1.2.1 d.2.1.1 d.2.1.2.1 d.2.2.1.1 d.2.2.1.2.1
noncomputable def driver_stretch.m2 (k : Nat) : LamS κ := ⟨lamK 90 driver_stretch.w2 driver_stretch.s2 driver_stretch.o2 (driver_stretch.e2 k)⟩
def driver_stretch.s3 : Sh κ := ⟨0, [1, 5, 9, 12, 13, 15, 16, 17], [.int .i64, .ptr 0 0, .bool, .bool, .str, .bool, .int .i64, .ptr 1 0], [.raw 38 [.str, .int .i64], .raw 38 [.str, .int .i64]]⟩
def driver_stretch.o3 : List (Ex × Sh κ) := [(.normal, ⟨2, [4, 5, 6], [.int .i64, .ptr 0 0, .bool], [.raw 38 [.str, .int .i64], .raw 38 [.str, .int .i64]]⟩)]
noncomputable def driver_stretch.l3 (k : Nat) (t1 : Int) (t9 : Bool) (t12 : Bool) (t13 : ByteArray) (t15 : Bool) (t16 : Int) (b0 : ByteArray) (b0_1 : Int) (b1 : ByteArray) (b1_1 : Int) : Option ((Int × Unit × Bool × Unit) × (ByteArray × Int × Unit) × (ByteArray × Int × Unit) × Unit) :=
    if t9 = Bool.true then
      if t12 = Bool.true then
        Option.bind (Go.Am.Tryd.driver_number k t13) fun r0 =>
          if (Prod.fst r0 == t1) = Bool.true then
            if Decidable.decide (t16 ≥ (1 : Int)) = Bool.true then
              if Decidable.decide (Go.IntKind.wrap Go.IntKind.i64 (t1 + t16) ≤ (65536 : Int)) = Bool.true then
                if (!t15) = Bool.false then
                  if Decidable.decide (t16 > (1 : Int)) = Bool.true then
                    Option.bind (Go.Am.Tryd.driver_tellable k b1 b1_1) fun r2 => Option.some ((t16, (), Prod.fst r2, ()), (b1, b1_1, ()), (b1, b1_1, ()), ())
                  else Option.some ((t16, (), Bool.false, ()), (b1, b1_1, ()), (b1, b1_1, ()), ())
                else Option.bind (Go.Am.Tryd.driver_tellable k b1 b1_1) fun r1 => Option.some ((t16, (), Prod.fst r1, ()), (b1, b1_1, ()), (b1, b1_1, ()), ())
              else Option.some ((t16, (), Bool.false, ()), (b1, b1_1, ()), (b1, b1_1, ()), ())
            else Option.some ((t16, (), Bool.false, ()), (b1, b1_1, ()), (b1, b1_1, ()), ())
          else Option.some ((t16, (), Bool.false, ()), (b1, b1_1, ()), (b1, b1_1, ()), ())
      else Option.some ((t16, (), Bool.false, ()), (b1, b1_1, ()), (b1, b1_1, ()), ())
    else Option.some ((t16, (), Bool.false, ()), (b1, b1_1, ()), (b1, b1_1, ()), ())
def driver_stretch.w3 : List Nat := [56, 57, 58, 59, 60, 61, 62, 63, 64, 65, 66, 67, 68, 69, 70, 71, 72, 73, 74, 75, 76, 77, 78, 79, 80, 81, 82, 83, 84, 85, 86, 87, 88, 89, 4, 6]
noncomputable def driver_stretch.e3 (k : Nat) : driver_stretch.s3.den → Option (OutT driver_stretch.o3) := fun d => driver_stretch.l3 k d.1.1 d.1.2.2.1 d.1.2.2.2.1 d.1.2.2.2.2.1 d.1.2.2.2.2.2.1 d.1.2.2.2.2.2.2.1 d.2.1.1 d.2.1.2.1 d.2.2.1.1 d.2.2.1.2.1
noncomputable def driver_stretch.m3 (k : Nat) : LamS κ := ⟨lamK 90 driver_stretch.w3 driver_stretch.s3 driver_stretch.o3 (driver_stretch.e3 k)⟩
def driver_stretch.t3 : Sched := (.take 0 (.take 2 (.take 3 (.take 4 (.take 5 (.take 6 (.take 7 (.take 9 (.all (.cons 1 (.all (.cons 8 (.take 10 (.take 11 (.take 12 (.take 13 (.take 14 (.take 15 (.take 16 (.take 17 (.take 18 (.take 19 (.take 20 (.take 21 (.take 22 (.take 23 (.take 24 (.take 25 (.take 26 (.take 27 (.take 28 (.take 29 (.take 30 (.all (.cons 31 (.all (.cons 32 (.take 33 (.take 34 (.all (.cons 35 (.take 36 .done) .nil)))) .nil)) .nil))))))))))))))))))))))) .nil)) (.cons 8 (.take 10 (.take 11 (.take 12 (.take 13 (.take 14 (.take 15 (.take 16 (.take 17 (.take 18 (.take 19 (.take 20 (.take 21 (.take 22 (.take 23 (.take 24 (.take 25 (.take 26 (.take 27 (.take 28 (.take 29 (.take 30 (.all (.cons 1 (.all (.cons 31 (.all (.cons 32 (.take 33 (.take 34 (.all (.cons 35 (.take 36 .done) .nil)))) .nil)) .nil)) (.cons 31 (.all (.cons 1 (.all (.cons 32 (.take 33 (.take 34 (.all (.cons 35 (.take 36 .done) .nil)))) .nil)) (.cons 32 (.take 33 (.take 34 (.all (.cons 1 (.all (.cons 35 (.take 36 .done) .nil)) .nil)))) .nil))) .nil)))))))))))))))))))))))) .nil)))))))))))
noncomputable def driver_stretch.p3 (k : Nat) (t1 : Int) (t9 : Bool) (t12 : Bool) (t13 : ByteArray) (t15 : Bool) (t16 : Int) (b0 : ByteArray) (b0_1 : Int) (b1 : ByteArray) (b1_1 : Int) (o : (Int × Unit × Bool × Unit) × (ByteArray × Int × Unit) × (ByteArray × Int × Unit) × Unit) : Prop :=
    if t9 = Bool.true then
      if t12 = Bool.true then
        (Go.Am.holds
              (Option.bind (Go.Am.Tryd.driver_number k t13) fun r7 =>
                Option.some
                  (if (Prod.fst r7 == t1) = Bool.true then
                    if Decidable.decide (t16 ≥ (1 : Int)) = Bool.true then
                      if Decidable.decide (Go.IntKind.wrap Go.IntKind.i64 (t1 + t16) ≤ (65536 : Int)) = Bool.true then
                        if (!t15) = Bool.false then
                          (if Decidable.decide (t16 > (1 : Int)) = Bool.true then
                              Go.Am.holds
                                  (Option.bind (Go.Am.Tryd.driver_tellable k b1 b1_1) fun r8 =>
                                    Option.some (Option.some ((t16, (), Prod.fst r8, ()), (b1, b1_1, ()), (b1, b1_1, ()), ()) = Option.some o ∧ True)) ∧
                                True
                            else (Option.some ((t16, (), Bool.false, ()), (b1, b1_1, ()), (b1, b1_1, ()), ()) = Option.some o ∧ True) ∧ True) ∧
                            True
                        else
                          (Go.Am.holds
                                (Option.bind (Go.Am.Tryd.driver_tellable k b1 b1_1) fun r9 =>
                                  Option.some (Option.some ((t16, (), Prod.fst r9, ()), (b1, b1_1, ()), (b1, b1_1, ()), ()) = Option.some o ∧ True)) ∧
                              True) ∧
                            True
                      else ((Option.some ((t16, (), Bool.false, ()), (b1, b1_1, ()), (b1, b1_1, ()), ()) = Option.some o ∧ True) ∧ True) ∧ True
                    else ((Option.some ((t16, (), Bool.false, ()), (b1, b1_1, ()), (b1, b1_1, ()), ()) = Option.some o ∧ True) ∧ True) ∧ True
                  else ((Option.some ((t16, (), Bool.false, ()), (b1, b1_1, ()), (b1, b1_1, ()), ()) = Option.some o ∧ True) ∧ True) ∧ True)) ∧
            True) ∧
          Go.Am.holds
              (Option.bind (Go.Am.Tryd.driver_number k t13) fun r0 =>
                Option.some
                  (if (Prod.fst r0 == t1) = Bool.true then
                    if Decidable.decide (t16 ≥ (1 : Int)) = Bool.true then
                      if Decidable.decide (Go.IntKind.wrap Go.IntKind.i64 (t1 + t16) ≤ (65536 : Int)) = Bool.true then
                        if (!t15) = Bool.false then
                          ((if Decidable.decide (t16 > (1 : Int)) = Bool.true then
                                Go.Am.holds
                                    (Option.bind (Go.Am.Tryd.driver_tellable k b1 b1_1) fun r3 =>
                                      Option.some (Option.some ((t16, (), Prod.fst r3, ()), (b1, b1_1, ()), (b1, b1_1, ()), ()) = Option.some o ∧ True)) ∧
                                  True
                              else (Option.some ((t16, (), Bool.false, ()), (b1, b1_1, ()), (b1, b1_1, ()), ()) = Option.some o ∧ True) ∧ True) ∧
                              True) ∧
                            (if Decidable.decide (t16 > (1 : Int)) = Bool.true then
                                (Go.Am.holds
                                      (Option.bind (Go.Am.Tryd.driver_tellable k b1 b1_1) fun r2 =>
                                        Option.some (Option.some ((t16, (), Prod.fst r2, ()), (b1, b1_1, ()), (b1, b1_1, ()), ()) = Option.some o ∧ True)) ∧
                                    True) ∧
                                  Go.Am.holds
                                      (Option.bind (Go.Am.Tryd.driver_tellable k b1 b1_1) fun r1 =>
                                        Option.some
                                          ((Option.some ((t16, (), Prod.fst r1, ()), (b1, b1_1, ()), (b1, b1_1, ()), ()) = Option.some o ∧ True) ∧ True)) ∧
                                    True
                              else
                                ((Option.some ((t16, (), Bool.false, ()), (b1, b1_1, ()), (b1, b1_1, ()), ()) = Option.some o ∧ True) ∧ True) ∧
                                  ((Option.some ((t16, (), Bool.false, ()), (b1, b1_1, ()), (b1, b1_1, ()), ()) = Option.some o ∧ True) ∧ True) ∧ True) ∧
                              True
                        else
                          ((Go.Am.holds
                                  (Option.bind (Go.Am.Tryd.driver_tellable k b1 b1_1) fun r6 =>
                                    Option.some (Option.some ((t16, (), Prod.fst r6, ()), (b1, b1_1, ()), (b1, b1_1, ()), ()) = Option.some o ∧ True)) ∧
                                True) ∧
                              True) ∧
                            ((Go.Am.holds
                                    (Option.bind (Go.Am.Tryd.driver_tellable k b1 b1_1) fun r5 =>
                                      Option.some (Option.some ((t16, (), Prod.fst r5, ()), (b1, b1_1, ()), (b1, b1_1, ()), ()) = Option.some o ∧ True)) ∧
                                  True) ∧
                                Go.Am.holds
                                    (Option.bind (Go.Am.Tryd.driver_tellable k b1 b1_1) fun r4 =>
                                      Option.some ((Option.some ((t16, (), Prod.fst r4, ()), (b1, b1_1, ()), (b1, b1_1, ()), ()) = Option.some o ∧ True) ∧ True)) ∧
                                  True) ∧
                              True
                      else
                        (((Option.some ((t16, (), Bool.false, ()), (b1, b1_1, ()), (b1, b1_1, ()), ()) = Option.some o ∧ True) ∧ True) ∧ True) ∧
                          (((Option.some ((t16, (), Bool.false, ()), (b1, b1_1, ()), (b1, b1_1, ()), ()) = Option.some o ∧ True) ∧ True) ∧
                              ((Option.some ((t16, (), Bool.false, ()), (b1, b1_1, ()), (b1, b1_1, ()), ()) = Option.some o ∧ True) ∧ True) ∧ True) ∧
                            True
                    else
                      (((Option.some ((t16, (), Bool.false, ()), (b1, b1_1, ()), (b1, b1_1, ()), ()) = Option.some o ∧ True) ∧ True) ∧ True) ∧
                        (((Option.some ((t16, (), Bool.false, ()), (b1, b1_1, ()), (b1, b1_1, ()), ()) = Option.some o ∧ True) ∧ True) ∧
                            ((Option.some ((t16, (), Bool.false, ()), (b1, b1_1, ()), (b1, b1_1, ()), ()) = Option.some o ∧ True) ∧ True) ∧ True) ∧
                          True
                  else
                    (((Option.some ((t16, (), Bool.false, ()), (b1, b1_1, ()), (b1, b1_1, ()), ()) = Option.some o ∧ True) ∧ True) ∧ True) ∧
                      (((Option.some ((t16, (), Bool.false, ()), (b1, b1_1, ()), (b1, b1_1, ()), ()) = Option.some o ∧ True) ∧ True) ∧
                          ((Option.some ((t16, (), Bool.false, ()), (b1, b1_1, ()), (b1, b1_1, ()), ()) = Option.some o ∧ True) ∧ True) ∧ True) ∧
                        True)) ∧
            True
      else
        ((((Option.some ((t16, (), Bool.false, ()), (b1, b1_1, ()), (b1, b1_1, ()), ()) = Option.some o ∧ True) ∧ True) ∧ True) ∧ True) ∧
          ((((Option.some ((t16, (), Bool.false, ()), (b1, b1_1, ()), (b1, b1_1, ()), ()) = Option.some o ∧ True) ∧ True) ∧ True) ∧
              (((Option.some ((t16, (), Bool.false, ()), (b1, b1_1, ()), (b1, b1_1, ()), ()) = Option.some o ∧ True) ∧ True) ∧
                  ((Option.some ((t16, (), Bool.false, ()), (b1, b1_1, ()), (b1, b1_1, ()), ()) = Option.some o ∧ True) ∧ True) ∧ True) ∧
                True) ∧
            True
    else
      ((((Option.some ((t16, (), Bool.false, ()), (b1, b1_1, ()), (b1, b1_1, ()), ()) = Option.some o ∧ True) ∧ True) ∧ True) ∧ True) ∧
        ((((Option.some ((t16, (), Bool.false, ()), (b1, b1_1, ()), (b1, b1_1, ()), ()) = Option.some o ∧ True) ∧ True) ∧ True) ∧
            (((Option.some ((t16, (), Bool.false, ()), (b1, b1_1, ()), (b1, b1_1, ()), ()) = Option.some o ∧ True) ∧ True) ∧
                ((Option.some ((t16, (), Bool.false, ()), (b1, b1_1, ()), (b1, b1_1, ()), ()) = Option.some o ∧ True) ∧ True) ∧ True) ∧
              True) ∧
          True
theorem driver_stretch.q3 (k : Nat) (t1 : Int) (t9 : Bool) (t12 : Bool) (t13 : ByteArray) (t15 : Bool) (t16 : Int) (b0 : ByteArray) (b0_1 : Int) (b1 : ByteArray) (b1_1 : Int) (o : (Int × Unit × Bool × Unit) × (ByteArray × Int × Unit) × (ByteArray × Int × Unit) × Unit) (h : driver_stretch.l3 k t1 t9 t12 t13 t15 t16 b0 b0_1 b1 b1_1 = some o) : driver_stretch.p3 k t1 t9 t12 t13 t15 t16 b0 b0_1 b1 b1_1 o := by
  unfold driver_stretch.l3 at h
  unfold driver_stretch.p3
  repeat' (first | split at h | (rw [Option.bind_eq_some_iff] at h; obtain ⟨_, _, h⟩ := h) | (rw [room_some] at h; obtain ⟨_, h⟩ := h) | (rw [tooLong_some] at h; obtain ⟨_, h⟩ := h))
  all_goals first | (cases h; done) | (cases h; simp only [Option.bind_some, room_pos, tooLong_pos, if_true, and_self, and_true, not_false_eq_true, holds, *]; done) | (cases h; simp [holds, room_pos, tooLong_pos, *]; done) | (cases h; simp_all [holds, room_pos, tooLong_pos])
def driver_stretch.p : Pat κ := .tup [.int .i64, .agg [.str, .int .i64], .bool]
def driver_stretch.b : List (BPat κ) := []
noncomputable def driver_stretch (k : Nat) (t0 : ByteArray) (t1 : Int) : Option ((Int × (ByteArray × Int × Unit) × Bool × Unit) × Unit) :=
    Option.bind (Go.Am.Tryd.strings_Cut k t0 (ByteArray.mk #[(32 : UInt8)])) fun r0 =>
      Option.bind (Go.Am.Tryd.strings_Cut k (Prod.fst (Prod.snd (Prod.fst r0))) (ByteArray.mk #[(32 : UInt8)])) fun r1 =>
        Option.bind (Go.Am.Tryd.strings_Cut k (Prod.fst (Prod.fst r0)) (ByteArray.mk #[(45 : UInt8)])) fun r2 =>
          Option.bind (Go.Am.Tryd.driver_stretch.l0 k t1 (Prod.fst (Prod.snd (Prod.fst r2))) (Prod.fst (Prod.snd (Prod.snd (Prod.fst r2)))) (1 : Int)) fun r3 =>
            Option.bind (Go.Am.Tryd.driver_stretch.l1 k (Prod.fst (Prod.fst r1)) (Prod.fst (Prod.fst r1)) (-1 : Int)) fun r4 =>
              Option.bind
                (Go.Am.Tryd.driver_stretch.l2 k (Prod.fst (Prod.snd (Prod.fst r1))) (ByteArray.mk #[]) (0 : Int) (Prod.fst (Prod.fst (Prod.snd r4)))
                  (Prod.fst (Prod.snd (Prod.fst (Prod.snd r4)))))
                fun r5 =>
                Go.Am.onSum r5
                  (fun r6 =>
                    Option.some
                      ((Prod.fst (Prod.fst r6), (Prod.fst (Prod.fst (Prod.snd r6)), Prod.fst (Prod.snd (Prod.fst (Prod.snd r6))), ()),
                          Prod.fst (Prod.snd (Prod.snd (Prod.fst r6))), ()),
                        ()))
                  fun r6 =>
                  Option.bind
                    (Go.Am.Tryd.driver_stretch.l3 k t1 (Prod.fst (Prod.snd (Prod.snd (Prod.fst r0)))) (Prod.fst (Prod.snd (Prod.snd (Prod.fst r1))))
                      (Prod.fst (Prod.fst r2)) (Prod.fst (Prod.snd (Prod.snd (Prod.fst r2)))) (Prod.fst (Prod.fst r3)) (Prod.fst (Prod.fst (Prod.snd r6)))
                      (Prod.fst (Prod.snd (Prod.fst (Prod.snd r6)))) (Prod.fst (Prod.fst (Prod.snd (Prod.snd r6))))
                      (Prod.fst (Prod.snd (Prod.fst (Prod.snd (Prod.snd r6))))))
                    fun r7 =>
                    Option.some
                      ((Prod.fst (Prod.fst r7), (Prod.fst (Prod.fst (Prod.snd r7)), Prod.fst (Prod.snd (Prod.fst (Prod.snd r7))), ()),
                          Prod.fst (Prod.snd (Prod.snd (Prod.fst r7))), ()),
                        ())
noncomputable def driver_stretch.f (k : Nat) : dens driver_stretch.i → Option (driver_stretch.p.den × densB driver_stretch.b) := fun d => driver_stretch k d.1 d.2.1
noncomputable def driver_stretch.ctx (k : Nat) : Ctx κ := driver_stretch.x k [driver_stretch.m0 k, driver_stretch.m1 k, driver_stretch.m2 k, driver_stretch.m3 k]
theorem driver_stretch.xOk (k : Nat) : (driver_stretch.ctx k).Ok := ctxOk ⟨driver_tellable.entOk k, strings_Cut.entOk k, driver_number.entOk k, trivial⟩ ⟨driver_tellable.qentOk k, driver_number.qentOk k, trivial⟩
theorem driver_stretch.k0 (k : Nat) : LamOk (driver_stretch.ctx k) ((driver_stretch.ctx k).Λ 0) (sub [1, 1, 1, 1, 1, 0] driver_stretch.c) :=
  cut_ok (kindOf := kindOf) (C := driver_stretch.ctx k) (n := .none) (L := driver_stretch.e0 k) (driver_stretch.xOk k) (by kernel_rfl) (by kernel_rfl) (fits_of (l := []) (by kernel_rfl) trivial) (fun _ => by kernel_rfl)
theorem driver_stretch.k1 (k : Nat) : LamOk (driver_stretch.ctx k) ((driver_stretch.ctx k).Λ 1) (sub [1, 1, 1, 1, 1, 1, 1, 0] driver_stretch.c) :=
  cut_ok (kindOf := kindOf) (C := driver_stretch.ctx k) (n := .none) (L := driver_stretch.e1 k) (driver_stretch.xOk k) (by kernel_rfl) (by kernel_rfl) (fits_of (l := []) (by kernel_rfl) trivial) (fun _ => by kernel_rfl)
theorem driver_stretch.k2 (k : Nat) : LamOk (driver_stretch.ctx k) ((driver_stretch.ctx k).Λ 2) (sub [1, 1, 1, 1, 1, 1, 1, 1, 0] driver_stretch.c) :=
  cut_ok (kindOf := kindOf) (C := driver_stretch.ctx k) (n := (.pair .none (.pair (.pair .none (.pair .none (.pair (.pair (.ops [] 2) .none) .none))) .none))) (L := driver_stretch.e2 k) (driver_stretch.xOk k) (by kernel_rfl) (by kernel_rfl) (fits_of (l := []) (by kernel_rfl) trivial) (fun _ => by kernel_rfl)
theorem driver_stretch.k3 (k : Nat) : LamOk (driver_stretch.ctx k) ((driver_stretch.ctx k).Λ 3) (sub [1, 1, 1, 1, 1, 1, 1, 1, 1, 0] driver_stretch.c) :=
  tree_ok (kindOf := kindOf) (C := driver_stretch.ctx k) (L := driver_stretch.e3 k) (tr := driver_stretch.t3) (driver_stretch.xOk k) (by kernel_rfl) (by kernel_rfl) (by kernel_rfl) (by kernel_rfl) fun d o h => (show runs (driver_stretch.ctx k) kindOf _ driver_stretch.t3 _ _ = driver_stretch.p3 k d.1.1 d.1.2.2.1 d.1.2.2.2.1 d.1.2.2.2.2.1 d.1.2.2.2.2.2.1 d.1.2.2.2.2.2.2.1 d.2.1.1 d.2.1.2.1 d.2.2.1.1 d.2.2.1.2.1 o by kernel_rfl).mpr (driver_stretch.q3 k d.1.1 d.1.2.2.1 d.1.2.2.2.1 d.1.2.2.2.2.1 d.1.2.2.2.2.2.1 d.1.2.2.2.2.2.2.1 d.2.1.1 d.2.1.2.1 d.2.2.1.1 d.2.2.1.2.1 o (by unfold driver_stretch.e3 at h; exact h))
theorem driver_stretch.call (k : Nat) : CallV Tryd.prog E glob 29 driver_stretch.i driver_stretch.p driver_stretch.b (driver_stretch.f k) :=
  fn_okZ (kindOf := kindOf) (C := driver_stretch.ctx k) (n := (.pair .none (.pair .none (.pair .none (.pair .none (.pair .none (.pair (.cut 0) (.pair .none (.pair (.cut 1) (.pair (.cut 2) (.pair (.cut 3) .none))))))))))) (driver_stretch.xOk k) Tryd.func29 driver_stretch.hb (fits_of (l := [(0, (sub [1, 1, 1, 1, 1, 0] driver_stretch.c)), (1, (sub [1, 1, 1, 1, 1, 1, 1, 0] driver_stretch.c)), (2, (sub [1, 1, 1, 1, 1, 1, 1, 1, 0] driver_stretch.c)), (3, (sub [1, 1, 1, 1, 1, 1, 1, 1, 1, 0] driver_stretch.c))]) (by kernel_rfl) ⟨driver_stretch.k0 k, driver_stretch.k1 k, driver_stretch.k2 k, driver_stretch.k3 k, trivial⟩) (fun _ => by kernel_rfl)
noncomputable def driver_stretch.ent (k : Nat) : EntS κ := ⟨29, [], entOf driver_stretch.i driver_stretch.p driver_stretch.b true (driver_stretch.f k) E⟩
theorem driver_stretch.entOk (k : Nat) : EntOk Tryd.prog E glob 29 (driver_stretch.ent k).run := ent_free encOk (callable_of Tryd.func29 (by kernel_rfl) (by kernel_rfl)) (by rfl) trivial (driver_stretch.call k)
noncomputable def driver_Retrace.c : Go.Code := match Tryd.f16.body with | some c => c | none => .skip
theorem driver_Retrace.hb : Tryd.f16.body = some driver_Retrace.c := by kernel_rfl
noncomputable def driver_Retrace.x (k : Nat) (ls : List (LamS κ)) : Ctx κ := mkCtx [driver_Trace.ent k, strings_Cut.ent k, driver_stretch.ent k] [] ls
def driver_Retrace.i : List (Pat κ) := [.str]
def driver_Retrace.s2 : Sh κ := ⟨0, [4, 5], [.own .T38 0, .str], [.rows .T38]⟩
def driver_Retrace.s0 : Sh κ := ⟨0, [8, 11], [.bool, .bool], []⟩
def driver_Retrace.o0 : List (Ex × Sh κ) := [(.ret, ⟨0, [2, 3], [.own .T38 0, .int .i64], [.rows .T38]⟩), (.normal, ⟨0, [], [], []⟩)]
noncomputable def driver_Retrace.l0 (k : Nat) (t8 : Bool) (t11 : Bool) : Option ((Unit × Int × Unit) × List Go.Am.Tryd.S38 × Unit ⊕ Unit × Unit) :=
    if (!t11) = Bool.false then if (!t8) = Bool.true then Option.some (Sum.inl (((), (140 : Int), ()), [], ())) else Option.some (Sum.inr ((), ()))
    else Option.some (Sum.inl (((), (140 : Int), ()), [], ()))
def driver_Retrace.w0 : List Nat := [31, 32, 33, 34, 35, 36, 2, 3]
noncomputable def driver_Retrace.e0 (k : Nat) : driver_Retrace.s0.den → Option (OutT driver_Retrace.o0) := fun d => driver_Retrace.l0 k d.1.1 d.1.2.1
noncomputable def driver_Retrace.m0 (k : Nat) : LamS κ := ⟨lamK 59 driver_Retrace.w0 driver_Retrace.s0 driver_Retrace.o0 (driver_Retrace.e0 k)⟩
def driver_Retrace.s1 : Sh κ := ⟨0, [4, 10, 37, 38], [.own .T38 0, .ptr 1 0, .int .i64, .int .i64], [.rows .T38, .raw 38 [.str, .int .i64]]⟩
def driver_Retrace.o1 : List (Ex × Sh κ) := [(.exit 2, ⟨2, [4], [.own .T38 0], [.rows .T38, .raw 38 [.str, .int .i64]]⟩)]
noncomputable def driver_Retrace.l1 (k : Nat) : Nat → Int → Int → (List S38) → ByteArray → Int → Option ((Unit × Unit) × List Go.Am.Tryd.S38 × (ByteArray × Int × Unit) × Unit)
  | 0, _, _, _, _, _ => none
  | j + 1, t37, t38, b0, b1, b1_1 =>
    if Decidable.decide (t38 < t37) = Bool.true then
      Go.Am.room ((List.length b0 + List.length [Go.Am.Tryd.S38.mk b1 b1_1]) * (24 : Nat))
        (driver_Retrace.l1 k j t37 (Go.IntKind.wrap Go.IntKind.i64 (t38 + (1 : Int))) (b0 ++ [Go.Am.Tryd.S38.mk b1 b1_1]) b1 b1_1)
    else Option.some (((), ()), b0, (b1, b1_1, ()), ())
def driver_Retrace.w1 : List Nat := [39, 40, 41, 42, 43, 4, 44, 38]
noncomputable def driver_Retrace.e1 (k j : Nat) : driver_Retrace.s1.den → Option (OutT driver_Retrace.o1) := fun d => driver_Retrace.l1 k j d.1.2.2.1 d.1.2.2.2.1 d.2.1 d.2.2.1.1 d.2.2.1.2.1
noncomputable def driver_Retrace.m1 (k : Nat) : LamS κ := ⟨lamK 59 driver_Retrace.w1 driver_Retrace.s1 driver_Retrace.o1 (driver_Retrace.e1 k k)⟩
def driver_Retrace.o2 : List (Ex × Sh κ) := [(.ret, ⟨1, [2, 3], [.own .T38 1, .int .i64], [.rows .T38, .rows .T38]⟩), (.exit 0, ⟨1, [4], [.own .T38 0], [.rows .T38]⟩)]
noncomputable def driver_Retrace.l2 (k : Nat) : Nat → ByteArray → (List S38) → Option ((Unit × Int × Unit) × List Go.Am.Tryd.S38 × List Go.Am.Tryd.S38 × Unit ⊕ (Unit × Unit) × List Go.Am.Tryd.S38 × Unit)
  | 0, _, _ => none
  | j + 1, t5, b0 =>
    if (!ByteArray.toList t5 == ByteArray.toList (ByteArray.mk #[])) = Bool.true then
      Option.bind (Go.Am.Tryd.strings_Cut k t5 (ByteArray.mk #[(10 : UInt8)])) fun r0 =>
        Option.bind (Go.Am.Tryd.driver_stretch k (Prod.fst (Prod.fst r0)) (↑(List.length b0) : Int)) fun r1 =>
          Option.bind (Go.Am.Tryd.driver_Retrace.l0 k (Prod.fst (Prod.snd (Prod.snd (Prod.fst r0)))) (Prod.fst (Prod.snd (Prod.snd (Prod.fst r1))))) fun r2 =>
            Go.Am.onSum r2 (fun r3 => Option.some (Sum.inl (((), Prod.fst (Prod.snd (Prod.fst r3)), ()), b0, Prod.fst (Prod.snd r3), ()))) fun r3 =>
              Option.bind
                (Go.Am.Tryd.driver_Retrace.l1 k k (Prod.fst (Prod.fst r1)) (0 : Int) b0 (Prod.fst (Prod.fst (Prod.snd (Prod.fst r1))))
                  (Prod.fst (Prod.snd (Prod.fst (Prod.snd (Prod.fst r1))))))
                fun r4 => driver_Retrace.l2 k j (Prod.fst (Prod.snd (Prod.fst r0))) (Prod.fst (Prod.snd r4))
    else Option.some (Sum.inr (((), ()), b0, ()))
def driver_Retrace.w2 : List Nat := [15, 16, 18, 19, 17, 20, 21, 22, 6, 7, 8, 24, 25, 26, 27, 23, 28, 29, 30, 10, 9, 11, 31, 32, 33, 34, 35, 36, 2, 3, 37, 38, 39, 40, 41, 42, 43, 4, 44, 45, 5]
noncomputable def driver_Retrace.e2 (k j : Nat) : driver_Retrace.s2.den → Option (OutT driver_Retrace.o2) := fun d => driver_Retrace.l2 k j d.1.2.1 d.2.1
noncomputable def driver_Retrace.m2 (k : Nat) : LamS κ := ⟨lamK 59 driver_Retrace.w2 driver_Retrace.s2 driver_Retrace.o2 (driver_Retrace.e2 k k)⟩
def driver_Retrace.s3 : Sh κ := ⟨0, [0, 4], [.str, .own .T38 0], [.rows .T38]⟩
def driver_Retrace.o3 : List (Ex × Sh κ) := [(.ret, ⟨1, [2, 3], [.own .T38 1, .int .i64], [.rows .T38, .rows .T38]⟩), (.normal, ⟨1, [4], [.own .T38 0], [.rows .T38]⟩)]
noncomputable def driver_Retrace.l3 (k : Nat) (t0 : ByteArray) (b0 : List S38) : Option ((Unit × Int × Unit) × List Go.Am.Tryd.S38 × List Go.Am.Tryd.S38 × Unit ⊕ (Unit × Unit) × List Go.Am.Tryd.S38 × Unit) :=
    Option.bind (Go.Am.Tryd.driver_Trace k b0) fun r0 =>
      if (Prod.fst (Prod.snd (Prod.fst r0)) != (0 : Int)) = Bool.false then
        if (!ByteArray.toList (Prod.fst (Prod.fst r0)) == ByteArray.toList t0) = Bool.true then Option.some (Sum.inl (((), (140 : Int), ()), b0, [], ()))
        else Option.some (Sum.inr (((), ()), b0, ()))
      else Option.some (Sum.inl (((), (140 : Int), ()), b0, [], ()))
def driver_Retrace.w3 : List Nat := [47, 48, 46, 49, 50, 12, 13, 51, 52, 53, 54, 55, 56, 57, 2, 3]
noncomputable def driver_Retrace.e3 (k : Nat) : driver_Retrace.s3.den → Option (OutT driver_Retrace.o3) := fun d => driver_Retrace.l3 k d.1.1 d.2.1
noncomputable def driver_Retrace.m3 (k : Nat) : LamS κ := ⟨lamK 59 driver_Retrace.w3 driver_Retrace.s3 driver_Retrace.o3 (driver_Retrace.e3 k)⟩
def driver_Retrace.p : Pat κ := .tup [.ro .T38, .int .i64]
def driver_Retrace.b : List (BPat κ) := []
noncomputable def driver_Retrace (k : Nat) (t0 : ByteArray) : Option ((List Go.Am.Tryd.S38 × Int × Unit) × Unit) :=
    Option.bind (Go.Am.Tryd.driver_Retrace.l2 k k t0 []) fun r0 =>
      Go.Am.onSum r0 (fun r1 => Option.some ((Prod.fst (Prod.snd (Prod.snd r1)), Prod.fst (Prod.snd (Prod.fst r1)), ()), ())) fun r1 =>
        Option.bind (Go.Am.Tryd.driver_Retrace.l3 k t0 (Prod.fst (Prod.snd r1))) fun r2 =>
          Go.Am.onSum r2 (fun r3 => Option.some ((Prod.fst (Prod.snd (Prod.snd r3)), Prod.fst (Prod.snd (Prod.fst r3)), ()), ())) fun r3 =>
            Option.some ((Prod.fst (Prod.snd r3), (0 : Int), ()), ())
noncomputable def driver_Retrace.f (k : Nat) : dens driver_Retrace.i → Option (driver_Retrace.p.den × densB driver_Retrace.b) := fun d => driver_Retrace k d.1
noncomputable def driver_Retrace.ctx (k : Nat) : Ctx κ := driver_Retrace.x k [driver_Retrace.m0 k, driver_Retrace.m1 k, driver_Retrace.m2 k, driver_Retrace.m3 k]
theorem driver_Retrace.xOk (k : Nat) : (driver_Retrace.ctx k).Ok := ctxOk ⟨driver_Trace.entOk k, strings_Cut.entOk k, driver_stretch.entOk k, trivial⟩ trivial
theorem driver_Retrace.k0 (k : Nat) : LamOk (driver_Retrace.ctx k) ((driver_Retrace.ctx k).Λ 0) (sub [1, 1, 0, 1, 0, 0, 1, 0, 1, 1, 0] driver_Retrace.c) :=
  cut_ok (kindOf := kindOf) (C := driver_Retrace.ctx k) (n := .none) (L := driver_Retrace.e0 k) (driver_Retrace.xOk k) (by kernel_rfl) (by kernel_rfl) (fits_of (l := []) (by kernel_rfl) trivial) (fun _ => by kernel_rfl)
theorem driver_Retrace.k1 (k : Nat) : LamOk (driver_Retrace.ctx k) ((driver_Retrace.ctx k).Λ 1) (.loop (sub [1, 1, 0, 1, 0, 0, 1, 0, 1, 1, 1, 0, 1, 0, 0] driver_Retrace.c)) :=
  loop_ok (kindOf := kindOf) (C := driver_Retrace.ctx k) (n := .none) (L := driver_Retrace.e1 k) (driver_Retrace.xOk k) (by kernel_rfl) (by kernel_rfl) (fits_of (l := []) (by kernel_rfl) trivial) (fun _ => by kernel_rfl) (fun _ _ => by kernel_rfl) k
theorem driver_Retrace.k2 (k : Nat) : LamOk (driver_Retrace.ctx k) ((driver_Retrace.ctx k).Λ 2) (.loop (sub [1, 1, 0, 1, 0, 0] driver_Retrace.c)) :=
  loop_ok (kindOf := kindOf) (C := driver_Retrace.ctx k) (n := (.pair .none (.pair (.pair .none (.pair .none (.pair (.cut 0) (.pair (.pair .none (.pair (.cut 1) .none)) .none)))) .none))) (L := driver_Retrace.e2 k) (driver_Retrace.xOk k) (by kernel_rfl) (by kernel_rfl) (fits_of (l := [(0, (sub [1, 1, 0, 1, 0, 0, 1, 0, 1, 1, 0] driver_Retrace.c)), (1, .loop (sub [1, 1, 0, 1, 0, 0, 1, 0, 1, 1, 1, 0, 1, 0, 0] driver_Retrace.c))]) (by kernel_rfl) ⟨driver_Retrace.k0 k, driver_Retrace.k1 k, trivial⟩) (fun _ => by kernel_rfl) (fun _ _ => by kernel_rfl) k
theorem driver_Retrace.k3 (k : Nat) : LamOk (driver_Retrace.ctx k) ((driver_Retrace.ctx k).Λ 3) (sub [1, 1, 1, 0] driver_Retrace.c) :=
  cut_ok (kindOf := kindOf) (C := driver_Retrace.ctx k) (n := .none) (L := driver_Retrace.e3 k) (driver_Retrace.xOk k) (by kernel_rfl) (by kernel_rfl) (fits_of (l := []) (by kernel_rfl) trivial) (fun _ => by kernel_rfl)
theorem driver_Retrace.call (k : Nat) : CallV Tryd.prog E glob 16 driver_Retrace.i driver_Retrace.p driver_Retrace.b (driver_Retrace.f k) :=
  fn_okZ (kindOf := kindOf) (C := driver_Retrace.ctx k) (n := (.pair .none (.pair .none (.pair (.pair .none (.pair (.cut 2) .none)) (.pair (.cut 3) .none))))) (driver_Retrace.xOk k) Tryd.func16 driver_Retrace.hb (fits_of (l := [(2, .loop (sub [1, 1, 0, 1, 0, 0] driver_Retrace.c)), (3, (sub [1, 1, 1, 0] driver_Retrace.c))]) (by kernel_rfl) ⟨driver_Retrace.k2 k, driver_Retrace.k3 k, trivial⟩) (fun _ => by kernel_rfl)
noncomputable def driver_Retrace.ent (k : Nat) : EntS κ := ⟨16, [], entOf driver_Retrace.i driver_Retrace.p driver_Retrace.b false (driver_Retrace.f k) E⟩
theorem driver_Retrace.entOk (k : Nat) : EntOk Tryd.prog E glob 16 (driver_Retrace.ent k).run := ent_bound encOk (callable_of Tryd.func16 (by kernel_rfl) (by kernel_rfl)) (driver_Retrace.call k)
noncomputable def junctionref14_upTo.c : Go.Code := match Tryd.f30.body with | some c => c | none => .skip
theorem junctionref14_upTo.hb : Tryd.f30.body = some junctionref14_upTo.c := by kernel_rfl
noncomputable def junctionref14_upTo.x (k : Nat) (ls : List (LamS κ)) : Ctx κ := mkCtx [] [] ls
def junctionref14_upTo.i : List (Pat κ) := [.str, .int .i64, .int .u8]
def junctionref14_upTo.s1 : Sh κ := ⟨0, [0, 1, 2], [.str, .int .i64, .int .u8], []⟩
def junctionref14_upTo.s0 : Sh κ := ⟨0, [0, 1, 2], [.str, .int .i64, .int .u8], []⟩
def junctionref14_upTo.o0 : List (Ex × Sh κ) := [(.exit 0, ⟨0, [], [], []⟩), (.normal, ⟨0, [], [], []⟩)]
noncomputable def junctionref14_upTo.l0 (k : Nat) (t0 : ByteArray) (t1 : Int) (t2 : Int) : Option (Unit × Unit ⊕ Unit × Unit) :=
    if Decidable.decide (t1 < (↑(ByteArray.size t0) : Int)) = Bool.true then
      if (0 : Int) ≤ t1 ∧ t1 < (↑(ByteArray.size t0) : Int) then
        if (Go.Am.bt t0 t1 != t2) = Bool.true then Option.some (Sum.inr ((), ())) else Option.some (Sum.inl ((), ()))
      else Option.none
    else Option.some (Sum.inl ((), ()))
def junctionref14_upTo.w0 : List Nat := [7, 8, 9, 10, 11, 12, 13, 14, 15, 16, 17]
noncomputable def junctionref14_upTo.e0 (k : Nat) : junctionref14_upTo.s0.den → Option (OutT junctionref14_upTo.o0) := fun d => junctionref14_upTo.l0 k d.1.1 d.1.2.1 d.1.2.2.1
noncomputable def junctionref14_upTo.m0 (k : Nat) : LamS κ := ⟨lamK 21 junctionref14_upTo.w0 junctionref14_upTo.s0 junctionref14_upTo.o0 (junctionref14_upTo.e0 k)⟩
def junctionref14_upTo.o1 : List (Ex × Sh κ) := [(.exit 0, ⟨0, [1], [.int .i64], []⟩)]
noncomputable def junctionref14_upTo.l1 (k : Nat) : Nat → ByteArray → Int → Int → Option ((Int × Unit) × Unit)
  | 0, _, _, _ => none
  | j + 1, t0, t1, t2 =>
    Option.bind (Go.Am.Tryd.junctionref14_upTo.l0 k t0 t1 t2) fun r0 =>
      Go.Am.onSum r0 (fun r1 => Option.some ((t1, ()), ())) fun r1 => junctionref14_upTo.l1 k j t0 (Go.IntKind.wrap Go.IntKind.i64 (t1 + (1 : Int))) t2
def junctionref14_upTo.w1 : List Nat := [7, 8, 9, 10, 11, 12, 13, 14, 15, 16, 17, 18, 19, 1]
noncomputable def junctionref14_upTo.e1 (k j : Nat) : junctionref14_upTo.s1.den → Option (OutT junctionref14_upTo.o1) := fun d => junctionref14_upTo.l1 k j d.1.1 d.1.2.1 d.1.2.2.1
noncomputable def junctionref14_upTo.m1 (k : Nat) : LamS κ := ⟨lamK 21 junctionref14_upTo.w1 junctionref14_upTo.s1 junctionref14_upTo.o1 (junctionref14_upTo.e1 k k)⟩
def junctionref14_upTo.p : Pat κ := .int .i64
def junctionref14_upTo.b : List (BPat κ) := []
noncomputable def junctionref14_upTo (k : Nat) (t0 : ByteArray) (t1 : Int) (t2 : Int) : Option (Int × Unit) :=
    Option.bind (Go.Am.Tryd.junctionref14_upTo.l1 k k t0 t1 t2) fun r0 => Option.some (Prod.fst (Prod.fst r0), ())
noncomputable def junctionref14_upTo.f (k : Nat) : dens junctionref14_upTo.i → Option (junctionref14_upTo.p.den × densB junctionref14_upTo.b) := fun d => junctionref14_upTo k d.1 d.2.1 d.2.2.1
noncomputable def junctionref14_upTo.ctx (k : Nat) : Ctx κ := junctionref14_upTo.x k [junctionref14_upTo.m0 k, junctionref14_upTo.m1 k]
theorem junctionref14_upTo.xOk (k : Nat) : (junctionref14_upTo.ctx k).Ok := ctxOk trivial trivial
theorem junctionref14_upTo.k0 (k : Nat) : LamOk (junctionref14_upTo.ctx k) ((junctionref14_upTo.ctx k).Λ 0) (sub [1, 0, 0, 0, 0] junctionref14_upTo.c) :=
  cut_ok (kindOf := kindOf) (C := junctionref14_upTo.ctx k) (n := .none) (L := junctionref14_upTo.e0 k) (junctionref14_upTo.xOk k) (by kernel_rfl) (by kernel_rfl) (fits_of (l := []) (by kernel_rfl) trivial) (fun _ => by kernel_rfl)
theorem junctionref14_upTo.k1 (k : Nat) : LamOk (junctionref14_upTo.ctx k) ((junctionref14_upTo.ctx k).Λ 1) (.loop (sub [1, 0, 0, 0] junctionref14_upTo.c)) :=
  loop_ok (kindOf := kindOf) (C := junctionref14_upTo.ctx k) (n := (.pair (.cut 0) .none)) (L := junctionref14_upTo.e1 k) (junctionref14_upTo.xOk k) (by kernel_rfl) (by kernel_rfl) (fits_of (l := [(0, (sub [1, 0, 0, 0, 0] junctionref14_upTo.c))]) (by kernel_rfl) ⟨junctionref14_upTo.k0 k, trivial⟩) (fun _ => by kernel_rfl) (fun _ _ => by kernel_rfl) k
theorem junctionref14_upTo.call (k : Nat) : CallV Tryd.prog E glob 30 junctionref14_upTo.i junctionref14_upTo.p junctionref14_upTo.b (junctionref14_upTo.f k) :=
  fn_okZ (kindOf := kindOf) (C := junctionref14_upTo.ctx k) (n := (.pair .none (.pair (.pair (.cut 1) .none) .none))) (junctionref14_upTo.xOk k) Tryd.func30 junctionref14_upTo.hb (fits_of (l := [(1, .loop (sub [1, 0, 0, 0] junctionref14_upTo.c))]) (by kernel_rfl) ⟨junctionref14_upTo.k1 k, trivial⟩) (fun _ => by kernel_rfl)
noncomputable def junctionref14_upTo.ent (k : Nat) : EntS κ := ⟨30, [], entOf junctionref14_upTo.i junctionref14_upTo.p junctionref14_upTo.b true (junctionref14_upTo.f k) E⟩
theorem junctionref14_upTo.entOk (k : Nat) : EntOk Tryd.prog E glob 30 (junctionref14_upTo.ent k).run := ent_free encOk (callable_of Tryd.func30 (by kernel_rfl) (by kernel_rfl)) (by rfl) trivial (junctionref14_upTo.call k)
noncomputable def junctionref14_upTo.qent (k : Nat) : QEntS κ := ⟨30, qentOf junctionref14_upTo.i junctionref14_upTo.p (junctionref14_upTo.f k) E⟩
theorem junctionref14_upTo.qentOk (k : Nat) : QEntOk Tryd.prog E glob 30 (junctionref14_upTo.qent k).run := qent_ok encOk (callable_of Tryd.func30 (by kernel_rfl) (by kernel_rfl)) (junctionref14_upTo.call k)
noncomputable def junctionref14_digits.c : Go.Code := match Tryd.f31.body with | some c => c | none => .skip
theorem junctionref14_digits.hb : Tryd.f31.body = some junctionref14_digits.c := by kernel_rfl
noncomputable def junctionref14_digits.x (k : Nat) (ls : List (LamS κ)) : Ctx κ := mkCtx [] [] ls
def junctionref14_digits.i : List (Pat κ) := [.str, .int .i64]
def junctionref14_digits.s1 : Sh κ := ⟨0, [0, 6, 7], [.str, .int .i64, .int .i64], []⟩
def junctionref14_digits.s0 : Sh κ := ⟨0, [0, 7], [.str, .int .i64], []⟩
def junctionref14_digits.o0 : List (Ex × Sh κ) := [(.exit 0, ⟨0, [], [], []⟩), (.normal, ⟨0, [], [], []⟩)]
noncomputable def junctionref14_digits.l0 (k : Nat) (t0 : ByteArray) (t7 : Int) : Option (Unit × Unit ⊕ Unit × Unit) :=
    if Decidable.decide (t7 < (↑(ByteArray.size t0) : Int)) = Bool.true then
      if (0 : Int) ≤ t7 ∧ t7 < (↑(ByteArray.size t0) : Int) then
        if Decidable.decide (Go.Am.bt t0 t7 ≥ (48 : Int)) = Bool.true then
          if (0 : Int) ≤ t7 ∧ t7 < (↑(ByteArray.size t0) : Int) then
            if Decidable.decide (Go.Am.bt t0 t7 ≤ (57 : Int)) = Bool.true then Option.some (Sum.inr ((), ())) else Option.some (Sum.inl ((), ()))
          else Option.none
        else Option.some (Sum.inl ((), ()))
      else Option.none
    else Option.some (Sum.inl ((), ()))
def junctionref14_digits.w0 : List Nat := [9, 10, 11, 12, 13, 14, 15, 16, 17, 18, 19, 20, 21, 22, 23, 24]
noncomputable def junctionref14_digits.e0 (k : Nat) : junctionref14_digits.s0.den → Option (OutT junctionref14_digits.o0) := fun d => junctionref14_digits.l0 k d.1.1 d.1.2.1
noncomputable def junctionref14_digits.m0 (k : Nat) : LamS κ := ⟨lamK 44 junctionref14_digits.w0 junctionref14_digits.s0 junctionref14_digits.o0 (junctionref14_digits.e0 k)⟩
def junctionref14_digits.o1 : List (Ex × Sh κ) := [(.exit 0, ⟨0, [7, 6], [.int .i64, .int .i64], []⟩), (.ret, ⟨0, [4, 5], [.int .i64, .int .i64], []⟩)]
noncomputable def junctionref14_digits.l1 (k : Nat) : Nat → ByteArray → Int → Int → Option ((Int × Int × Unit) × Unit ⊕ (Int × Int × Unit) × Unit)
  | 0, _, _, _ => none
  | j + 1, t0, t6, t7 =>
    Option.bind (Go.Am.Tryd.junctionref14_digits.l0 k t0 t7) fun r0 =>
      Go.Am.onSum r0 (fun r1 => Option.some (Sum.inl ((t7, t6, ()), ()))) fun r1 =>
        if (0 : Int) ≤ t7 ∧ t7 < (↑(ByteArray.size t0) : Int) then
          if
              Decidable.decide
                  (Go.IntKind.wrap Go.IntKind.i64
                      (Go.IntKind.wrap Go.IntKind.i64 ((10 : Int) * t6) +
                        Go.IntKind.wrap Go.IntKind.i64 (Go.IntKind.wrap Go.IntKind.u8 (Go.Am.bt t0 t7 - (48 : Int)))) >
                    (1000000 : Int)) =
                Bool.true then
            Option.some (Sum.inr (((-1 : Int), t7, ()), ()))
          else
            junctionref14_digits.l1 k j t0
              (Go.IntKind.wrap Go.IntKind.i64
                (Go.IntKind.wrap Go.IntKind.i64 ((10 : Int) * t6) + Go.IntKind.wrap Go.IntKind.i64 (Go.IntKind.wrap Go.IntKind.u8 (Go.Am.bt t0 t7 - (48 : Int)))))
              (Go.IntKind.wrap Go.IntKind.i64 (t7 + (1 : Int)))
        else Option.none
def junctionref14_digits.w1 : List Nat := [9, 10, 11, 12, 13, 14, 15, 16, 17, 18, 19, 20, 21, 22, 23, 24, 25, 26, 27, 28, 29, 30, 31, 32, 6, 33, 34, 35, 4, 5, 36, 37, 7]
noncomputable def junctionref14_digits.e1 (k j : Nat) : junctionref14_digits.s1.den → Option (OutT junctionref14_digits.o1) := fun d => junctionref14_digits.l1 k j d.1.1 d.1.2.1 d.1.2.2.1
noncomputable def junctionref14_digits.m1 (k : Nat) : LamS κ := ⟨lamK 44 junctionref14_digits.w1 junctionref14_digits.s1 junctionref14_digits.o1 (junctionref14_digits.e1 k k)⟩
def junctionref14_digits.p : Pat κ := .tup [.int .i64, .int .i64]
def junctionref14_digits.b : List (BPat κ) := []
noncomputable def junctionref14_digits (k : Nat) (t0 : ByteArray) (t1 : Int) : Option ((Int × Int × Unit) × Unit) :=
    Option.bind (Go.Am.Tryd.junctionref14_digits.l1 k k t0 (0 : Int) t1) fun r0 =>
      Go.Am.onSum r0
        (fun r1 =>
          if (Prod.fst (Prod.fst r1) == t1) = Bool.true then Option.some (((-1 : Int), Prod.fst (Prod.fst r1), ()), ())
          else Option.some ((Prod.fst (Prod.snd (Prod.fst r1)), Prod.fst (Prod.fst r1), ()), ()))
        fun r1 => Option.some ((Prod.fst (Prod.fst r1), Prod.fst (Prod.snd (Prod.fst r1)), ()), ())
noncomputable def junctionref14_digits.f (k : Nat) : dens junctionref14_digits.i → Option (junctionref14_digits.p.den × densB junctionref14_digits.b) := fun d => junctionref14_digits k d.1 d.2.1
noncomputable def junctionref14_digits.ctx (k : Nat) : Ctx κ := junctionref14_digits.x k [junctionref14_digits.m0 k, junctionref14_digits.m1 k]
theorem junctionref14_digits.xOk (k : Nat) : (junctionref14_digits.ctx k).Ok := ctxOk trivial trivial
theorem junctionref14_digits.k0 (k : Nat) : LamOk (junctionref14_digits.ctx k) ((junctionref14_digits.ctx k).Λ 0) (sub [1, 1, 1, 0, 0, 0, 0] junctionref14_digits.c) :=
  cut_ok (kindOf := kindOf) (C := junctionref14_digits.ctx k) (n := .none) (L := junctionref14_digits.e0 k) (junctionref14_digits.xOk k) (by kernel_rfl) (by kernel_rfl) (fits_of (l := []) (by kernel_rfl) trivial) (fun _ => by kernel_rfl)
theorem junctionref14_digits.k1 (k : Nat) : LamOk (junctionref14_digits.ctx k) ((junctionref14_digits.ctx k).Λ 1) (.loop (sub [1, 1, 1, 0, 0, 0] junctionref14_digits.c)) :=
  loop_ok (kindOf := kindOf) (C := junctionref14_digits.ctx k) (n := (.pair (.cut 0) .none)) (L := junctionref14_digits.e1 k) (junctionref14_digits.xOk k) (by kernel_rfl) (by kernel_rfl) (fits_of (l := [(0, (sub [1, 1, 1, 0, 0, 0, 0] junctionref14_digits.c))]) (by kernel_rfl) ⟨junctionref14_digits.k0 k, trivial⟩) (fun _ => by kernel_rfl) (fun _ _ => by kernel_rfl) k
theorem junctionref14_digits.call (k : Nat) : CallV Tryd.prog E glob 31 junctionref14_digits.i junctionref14_digits.p junctionref14_digits.b (junctionref14_digits.f k) :=
  fn_okZ (kindOf := kindOf) (C := junctionref14_digits.ctx k) (n := (.pair .none (.pair .none (.pair .none (.pair (.pair (.cut 1) .none) .none))))) (junctionref14_digits.xOk k) Tryd.func31 junctionref14_digits.hb (fits_of (l := [(1, .loop (sub [1, 1, 1, 0, 0, 0] junctionref14_digits.c))]) (by kernel_rfl) ⟨junctionref14_digits.k1 k, trivial⟩) (fun _ => by kernel_rfl)
noncomputable def junctionref14_digits.ent (k : Nat) : EntS κ := ⟨31, [], entOf junctionref14_digits.i junctionref14_digits.p junctionref14_digits.b true (junctionref14_digits.f k) E⟩
theorem junctionref14_digits.entOk (k : Nat) : EntOk Tryd.prog E glob 31 (junctionref14_digits.ent k).run := ent_free encOk (callable_of Tryd.func31 (by kernel_rfl) (by kernel_rfl)) (by rfl) trivial (junctionref14_digits.call k)
noncomputable def junctionref14_Retrace.c : Go.Code := match Tryd.f17.body with | some c => c | none => .skip
theorem junctionref14_Retrace.hb : Tryd.f17.body = some junctionref14_Retrace.c := by kernel_rfl
noncomputable def junctionref14_Retrace.x (k : Nat) (ls : List (LamS κ)) : Ctx κ := mkCtx [junctionref14_Trace.ent k, junctionref14_upTo.ent k, junctionref14_digits.ent k] [junctionref14_upTo.qent k] ls
def junctionref14_Retrace.i : List (Pat κ) := [.str]
def junctionref14_Retrace.s5 : Sh κ := ⟨0, [0, 4, 5], [.str, .own .T38 0, .int .i64], [.rows .T38]⟩
def junctionref14_Retrace.s0 : Sh κ := ⟨0, [0, 7, 9, 11], [.str, .int .i64, .int .i64, .int .i64], []⟩
def junctionref14_Retrace.o0 : List (Ex × Sh κ) := [(.normal, ⟨0, [9], [.int .i64], []⟩)]
noncomputable def junctionref14_Retrace.l0 (k : Nat) (t0 : ByteArray) (t7 : Int) (t9 : Int) (t11 : Int) : Option ((Int × Unit) × Unit) :=
    if Decidable.decide (t11 < t7) = Bool.true then
      Option.bind (Go.Am.Tryd.junctionref14_digits k t0 (Go.IntKind.wrap Go.IntKind.i64 (t11 + (1 : Int)))) fun r0 => Option.some ((Prod.fst (Prod.fst r0), ()), ())
    else Option.some ((t9, ()), ())
def junctionref14_Retrace.w0 : List Nat := [45, 46, 47, 49, 50, 51, 52, 48, 53, 54, 9]
noncomputable def junctionref14_Retrace.e0 (k : Nat) : junctionref14_Retrace.s0.den → Option (OutT junctionref14_Retrace.o0) := fun d => junctionref14_Retrace.l0 k d.1.1 d.1.2.1 d.1.2.2.1 d.1.2.2.2.1
noncomputable def junctionref14_Retrace.m0 (k : Nat) : LamS κ := ⟨lamK 108 junctionref14_Retrace.w0 junctionref14_Retrace.s0 junctionref14_Retrace.o0 (junctionref14_Retrace.e0 k)⟩
def junctionref14_Retrace.s1 : Sh κ := ⟨0, [12], [.str], []⟩
def junctionref14_Retrace.o1 : List (Ex × Sh κ) := [(.normal, ⟨0, [12], [.str], []⟩)]
noncomputable def junctionref14_Retrace.l1 (k : Nat) (t12 : ByteArray) : Option ((ByteArray × Unit) × Unit) :=
    if (ByteArray.toList t12 == ByteArray.toList (ByteArray.mk #[(46 : UInt8)])) = Bool.true then Option.some ((ByteArray.mk #[], ()), ())
    else Option.some ((t12, ()), ())
def junctionref14_Retrace.w1 : List Nat := [60, 61, 12]
noncomputable def junctionref14_Retrace.e1 (k : Nat) : junctionref14_Retrace.s1.den → Option (OutT junctionref14_Retrace.o1) := fun d => junctionref14_Retrace.l1 k d.1.1
noncomputable def junctionref14_Retrace.m1 (k : Nat) : LamS κ := ⟨lamK 108 junctionref14_Retrace.w1 junctionref14_Retrace.s1 junctionref14_Retrace.o1 (junctionref14_Retrace.e1 k)⟩
def junctionref14_Retrace.s2 : Sh κ := ⟨0, [0, 6, 8, 13], [.str, .int .i64, .int .i64, .int .i64], []⟩
def junctionref14_Retrace.o2 : List (Ex × Sh κ) := [(.normal, ⟨0, [13], [.int .i64], []⟩)]
noncomputable def junctionref14_Retrace.l2 (k : Nat) (t0 : ByteArray) (t6 : Int) (t8 : Int) (t13 : Int) : Option ((Int × Unit) × Unit) :=
    if t6 ≤ (↑(ByteArray.size t0) : Int) ∧ (0 : Int) ≤ Go.IntKind.wrap Go.IntKind.i64 (t8 + (1 : Int)) ∧ Go.IntKind.wrap Go.IntKind.i64 (t8 + (1 : Int)) ≤ t6 then
      if
          (!ByteArray.toList (ByteArray.extract t0 (Int.toNat (Go.IntKind.wrap Go.IntKind.i64 (t8 + (1 : Int)))) (Int.toNat t6)) ==
                ByteArray.toList (ByteArray.mk #[(45 : UInt8)])) =
            Bool.true then
        Option.bind (Go.Am.Tryd.junctionref14_digits k t0 (Go.IntKind.wrap Go.IntKind.i64 (t8 + (1 : Int)))) fun r0 =>
          Option.some ((Prod.fst (Prod.fst r0), ()), ())
      else Option.some ((t13, ()), ())
    else Option.none
def junctionref14_Retrace.w2 : List Nat := [62, 63, 64, 65, 66, 67, 69, 70, 71, 72, 68, 73, 74, 13]
noncomputable def junctionref14_Retrace.e2 (k : Nat) : junctionref14_Retrace.s2.den → Option (OutT junctionref14_Retrace.o2) := fun d => junctionref14_Retrace.l2 k d.1.1 d.1.2.1 d.1.2.2.1 d.1.2.2.2.1
noncomputable def junctionref14_Retrace.m2 (k : Nat) : LamS κ := ⟨lamK 108 junctionref14_Retrace.w2 junctionref14_Retrace.s2 junctionref14_Retrace.o2 (junctionref14_Retrace.e2 k)⟩
def junctionref14_Retrace.s3 : Sh κ := ⟨0, [4, 9], [.own .T38 0, .int .i64], [.rows .T38]⟩
def junctionref14_Retrace.o3 : List (Ex × Sh κ) := [(.ret, ⟨1, [2, 3], [.own .T38 1, .int .i64], [.rows .T38, .rows .T38]⟩), (.normal, ⟨1, [4], [.own .T38 0], [.rows .T38]⟩)]
noncomputable def junctionref14_Retrace.l3 (k : Nat) (t9 : Int) (b0 : List S38) : Option ((Unit × Int × Unit) × List Go.Am.Tryd.S38 × List Go.Am.Tryd.S38 × Unit ⊕ (Unit × Unit) × List Go.Am.Tryd.S38 × Unit) :=
    if Decidable.decide (t9 < (↑(List.length b0) : Int)) = Bool.false then
      if Decidable.decide (t9 ≥ (65536 : Int)) = Bool.true then Option.some (Sum.inl (((), (140 : Int), ()), b0, [], ()))
      else Option.some (Sum.inr (((), ()), b0, ()))
    else Option.some (Sum.inl (((), (140 : Int), ()), b0, [], ()))
def junctionref14_Retrace.w3 : List Nat := [75, 76, 77, 78, 79, 80, 81, 82, 2, 3]
noncomputable def junctionref14_Retrace.e3 (k : Nat) : junctionref14_Retrace.s3.den → Option (OutT junctionref14_Retrace.o3) := fun d => junctionref14_Retrace.l3 k d.1.2.1 d.2.1
noncomputable def junctionref14_Retrace.m3 (k : Nat) : LamS κ := ⟨lamK 108 junctionref14_Retrace.w3 junctionref14_Retrace.s3 junctionref14_Retrace.o3 (junctionref14_Retrace.e3 k)⟩
def junctionref14_Retrace.s4 : Sh κ := ⟨0, [4, 9, 12, 13], [.own .T38 0, .int .i64, .str, .int .i64], [.rows .T38]⟩
def junctionref14_Retrace.o4 : List (Ex × Sh κ) := [(.exit 2, ⟨1, [4], [.own .T38 0], [.rows .T38]⟩)]
noncomputable def junctionref14_Retrace.l4 (k : Nat) : Nat → Int → ByteArray → Int → (List S38) → Option ((Unit × Unit) × List Go.Am.Tryd.S38 × Unit)
  | 0, _, _, _, _ => none
  | j + 1, t9, t12, t13, b0 =>
    if Decidable.decide ((↑(List.length b0) : Int) ≤ t9) = Bool.true then
      Go.Am.room ((List.length b0 + List.length [Go.Am.Tryd.S38.mk t12 t13]) * (24 : Nat)) (junctionref14_Retrace.l4 k j t9 t12 t13 (b0 ++ [Go.Am.Tryd.S38.mk t12 t13]))
    else Option.some (((), ()), b0, ())
def junctionref14_Retrace.w4 : List Nat := [83, 84, 85, 86, 87, 88, 89, 90, 91, 92, 4]
noncomputable def junctionref14_Retrace.e4 (k j : Nat) : junctionref14_Retrace.s4.den → Option (OutT junctionref14_Retrace.o4) := fun d => junctionref14_Retrace.l4 k j d.1.2.1 d.1.2.2.1 d.1.2.2.2.1 d.2.1
noncomputable def junctionref14_Retrace.m4 (k : Nat) : LamS κ := ⟨lamK 108 junctionref14_Retrace.w4 junctionref14_Retrace.s4 junctionref14_Retrace.o4 (junctionref14_Retrace.e4 k k)⟩
def junctionref14_Retrace.o5 : List (Ex × Sh κ) := [(.ret, ⟨1, [2, 3], [.own .T38 1, .int .i64], [.rows .T38, .rows .T38]⟩), (.exit 0, ⟨1, [4], [.own .T38 0], [.rows .T38]⟩)]
noncomputable def junctionref14_Retrace.l5 (k : Nat) : Nat → ByteArray → Int → (List S38) → Option ((Unit × Int × Unit) × List Go.Am.Tryd.S38 × List Go.Am.Tryd.S38 × Unit ⊕ (Unit × Unit) × List Go.Am.Tryd.S38 × Unit)
  | 0, _, _, _ => none
  | j + 1, t0, t5, b0 =>
    if Decidable.decide (t5 < (↑(ByteArray.size t0) : Int)) = Bool.true then
      Option.bind (Go.Am.Tryd.junctionref14_upTo k t0 t5 (10 : Int)) fun r0 =>
        Option.bind (Go.Am.Tryd.junctionref14_upTo k t0 t5 (32 : Int)) fun r1 =>
          if Decidable.decide (Prod.fst r1 ≥ Prod.fst r0) = Bool.true then Option.some (Sum.inl (((), (140 : Int), ()), b0, [], ()))
          else
            Option.bind (Go.Am.Tryd.junctionref14_upTo k t0 (Go.IntKind.wrap Go.IntKind.i64 (Prod.fst r1 + (1 : Int))) (32 : Int)) fun r2 =>
              if Decidable.decide (Prod.fst r2 ≥ Prod.fst r0) = Bool.true then Option.some (Sum.inl (((), (140 : Int), ()), b0, [], ()))
              else
                Option.bind (Go.Am.Tryd.junctionref14_digits k t0 t5) fun r3 =>
                  Option.bind (Go.Am.Tryd.junctionref14_upTo k t0 t5 (45 : Int)) fun r4 =>
                    Option.bind (Go.Am.Tryd.junctionref14_Retrace.l0 k t0 (Prod.fst r1) (Prod.fst (Prod.fst r3)) (Prod.fst r4)) fun r5 =>
                      if
                          Prod.fst r2 ≤ (↑(ByteArray.size t0) : Int) ∧
                            (0 : Int) ≤ Go.IntKind.wrap Go.IntKind.i64 (Prod.fst r1 + (1 : Int)) ∧
                              Go.IntKind.wrap Go.IntKind.i64 (Prod.fst r1 + (1 : Int)) ≤ Prod.fst r2 then
                        Option.bind
                          (Go.Am.Tryd.junctionref14_Retrace.l1 k
                            (ByteArray.extract t0 (Int.toNat (Go.IntKind.wrap Go.IntKind.i64 (Prod.fst r1 + (1 : Int)))) (Int.toNat (Prod.fst r2))))
                          fun r6 =>
                          Option.bind (Go.Am.Tryd.junctionref14_Retrace.l2 k t0 (Prod.fst r0) (Prod.fst r2) (-1 : Int)) fun r7 =>
                            Option.bind (Go.Am.Tryd.junctionref14_Retrace.l3 k (Prod.fst (Prod.fst r5)) b0) fun r8 =>
                              Go.Am.onSum r8
                                (fun r9 =>
                                  Option.some
                                    (Sum.inl (((), Prod.fst (Prod.snd (Prod.fst r9)), ()), Prod.fst (Prod.snd r9), Prod.fst (Prod.snd (Prod.snd r9)), ())))
                                fun r9 =>
                                Option.bind
                                  (Go.Am.Tryd.junctionref14_Retrace.l4 k k (Prod.fst (Prod.fst r5)) (Prod.fst (Prod.fst r6)) (Prod.fst (Prod.fst r7))
                                    (Prod.fst (Prod.snd r9)))
                                  fun r10 => junctionref14_Retrace.l5 k j t0 (Go.IntKind.wrap Go.IntKind.i64 (Prod.fst r0 + (1 : Int))) (Prod.fst (Prod.snd r10))
                      else Option.none
    else Option.some (Sum.inr (((), ()), b0, ()))
def junctionref14_Retrace.w5 : List Nat := [16, 17, 18, 19, 20, 21, 22, 6, 23, 24, 25, 7, 26, 27, 28, 2, 3, 29, 30, 31, 32, 8, 33, 34, 35, 37, 38, 39, 36, 40, 41, 9, 10, 42, 43, 44, 11, 45, 46, 47, 49, 50, 51, 52, 48, 53, 54, 55, 56, 57, 58, 59, 12, 60, 61, 13, 62, 63, 64, 65, 66, 67, 69, 70, 71, 72, 68, 73, 74, 75, 76, 77, 78, 79, 80, 81, 82, 83, 84, 85, 86, 87, 88, 89, 90, 91, 92, 4, 93, 94, 5]
noncomputable def junctionref14_Retrace.e5 (k j : Nat) : junctionref14_Retrace.s5.den → Option (OutT junctionref14_Retrace.o5) := fun d => junctionref14_Retrace.l5 k j d.1.1 d.1.2.2.1 d.2.1
noncomputable def junctionref14_Retrace.m5 (k : Nat) : LamS κ := ⟨lamK 108 junctionref14_Retrace.w5 junctionref14_Retrace.s5 junctionref14_Retrace.o5 (junctionref14_Retrace.e5 k k)⟩
def junctionref14_Retrace.s6 : Sh κ := ⟨0, [0, 14, 15], [.str, .str, .int .i64], []⟩
def junctionref14_Retrace.o6 : List (Ex × Sh κ) := [(.ret, ⟨0, [2, 3], [.own .T38 0, .int .i64], [.rows .T38]⟩), (.normal, ⟨0, [], [], []⟩)]
noncomputable def junctionref14_Retrace.l6 (k : Nat) (t0 : ByteArray) (t14 : ByteArray) (t15 : Int) : Option ((Unit × Int × Unit) × List Go.Am.Tryd.S38 × Unit ⊕ Unit × Unit) :=
    if (t15 != (0 : Int)) = Bool.false then
      if (!ByteArray.toList t14 == ByteArray.toList t0) = Bool.true then Option.some (Sum.inl (((), (140 : Int), ()), [], ())) else Option.some (Sum.inr ((), ()))
    else Option.some (Sum.inl (((), (140 : Int), ()), [], ()))
def junctionref14_Retrace.w6 : List Nat := [100, 101, 102, 103, 104, 105, 106, 2, 3]
noncomputable def junctionref14_Retrace.e6 (k : Nat) : junctionref14_Retrace.s6.den → Option (OutT junctionref14_Retrace.o6) := fun d => junctionref14_Retrace.l6 k d.1.1 d.1.2.1 d.1.2.2.1
noncomputable def junctionref14_Retrace.m6 (k : Nat) : LamS κ := ⟨lamK 108 junctionref14_Retrace.w6 junctionref14_Retrace.s6 junctionref14_Retrace.o6 (junctionref14_Retrace.e6 k)⟩
def junctionref14_Retrace.p : Pat κ := .tup [.ro .T38, .int .i64]
def junctionref14_Retrace.b : List (BPat κ) := []
noncomputable def junctionref14_Retrace (k : Nat) (t0 : ByteArray) : Option ((List Go.Am.Tryd.S38 × Int × Unit) × Unit) :=
    Option.bind (Go.Am.Tryd.junctionref14_Retrace.l5 k k t0 (0 : Int) []) fun r0 =>
      Go.Am.onSum r0 (fun r1 => Option.some ((Prod.fst (Prod.snd (Prod.snd r1)), Prod.fst (Prod.snd (Prod.fst r1)), ()), ())) fun r1 =>
        Option.bind (Go.Am.Tryd.junctionref14_Trace k (Prod.fst (Prod.snd r1))) fun r2 =>
          Option.bind (Go.Am.Tryd.junctionref14_Retrace.l6 k t0 (Prod.fst (Prod.fst r2)) (Prod.fst (Prod.snd (Prod.fst r2)))) fun r3 =>
            Go.Am.onSum r3 (fun r4 => Option.some ((Prod.fst (Prod.snd r4), Prod.fst (Prod.snd (Prod.fst r4)), ()), ())) fun r4 =>
              Option.some ((Prod.fst (Prod.snd r1), (0 : Int), ()), ())
noncomputable def junctionref14_Retrace.f (k : Nat) : dens junctionref14_Retrace.i → Option (junctionref14_Retrace.p.den × densB junctionref14_Retrace.b) := fun d => junctionref14_Retrace k d.1
noncomputable def junctionref14_Retrace.ctx (k : Nat) : Ctx κ := junctionref14_Retrace.x k [junctionref14_Retrace.m0 k, junctionref14_Retrace.m1 k, junctionref14_Retrace.m2 k, junctionref14_Retrace.m3 k, junctionref14_Retrace.m4 k, junctionref14_Retrace.m5 k, junctionref14_Retrace.m6 k]
theorem junctionref14_Retrace.xOk (k : Nat) : (junctionref14_Retrace.ctx k).Ok := ctxOk ⟨junctionref14_Trace.entOk k, junctionref14_upTo.entOk k, junctionref14_digits.entOk k, trivial⟩ ⟨junctionref14_upTo.qentOk k, trivial⟩
theorem junctionref14_Retrace.k0 (k : Nat) : LamOk (junctionref14_Retrace.ctx k) ((junctionref14_Retrace.ctx k).Λ 0) (sub [1, 1, 1, 0, 0, 0, 1, 0, 1, 1, 1, 1, 1, 1, 1, 0] junctionref14_Retrace.c) :=
  cut_ok (kindOf := kindOf) (C := junctionref14_Retrace.ctx k) (n := .none) (L := junctionref14_Retrace.e0 k) (junctionref14_Retrace.xOk k) (by kernel_rfl) (by kernel_rfl) (fits_of (l := []) (by kernel_rfl) trivial) (fun _ => by kernel_rfl)
theorem junctionref14_Retrace.k1 (k : Nat) : LamOk (junctionref14_Retrace.ctx k) ((junctionref14_Retrace.ctx k).Λ 1) (sub [1, 1, 1, 0, 0, 0, 1, 0, 1, 1, 1, 1, 1, 1, 1, 1, 1, 0] junctionref14_Retrace.c) :=
  cut_ok (kindOf := kindOf) (C := junctionref14_Retrace.ctx k) (n := .none) (L := junctionref14_Retrace.e1 k) (junctionref14_Retrace.xOk k) (by kernel_rfl) (by kernel_rfl) (fits_of (l := []) (by kernel_rfl) trivial) (fun _ => by kernel_rfl)
theorem junctionref14_Retrace.k2 (k : Nat) : LamOk (junctionref14_Retrace.ctx k) ((junctionref14_Retrace.ctx k).Λ 2) (sub [1, 1, 1, 0, 0, 0, 1, 0, 1, 1, 1, 1, 1, 1, 1, 1, 1, 1, 1, 0] junctionref14_Retrace.c) :=
  cut_ok (kindOf := kindOf) (C := junctionref14_Retrace.ctx k) (n := .none) (L := junctionref14_Retrace.e2 k) (junctionref14_Retrace.xOk k) (by kernel_rfl) (by kernel_rfl) (fits_of (l := []) (by kernel_rfl) trivial) (fun _ => by kernel_rfl)
theorem junctionref14_Retrace.k3 (k : Nat) : LamOk (junctionref14_Retrace.ctx k) ((junctionref14_Retrace.ctx k).Λ 3) (sub [1, 1, 1, 0, 0, 0, 1, 0, 1, 1, 1, 1, 1, 1, 1, 1, 1, 1, 1, 1, 0] junctionref14_Retrace.c) :=
  cut_ok (kindOf := kindOf) (C := junctionref14_Retrace.ctx k) (n := .none) (L := junctionref14_Retrace.e3 k) (junctionref14_Retrace.xOk k) (by kernel_rfl) (by kernel_rfl) (fits_of (l := []) (by kernel_rfl) trivial) (fun _ => by kernel_rfl)
theorem junctionref14_Retrace.k4 (k : Nat) : LamOk (junctionref14_Retrace.ctx k) ((junctionref14_Retrace.ctx k).Λ 4) (.loop (sub [1, 1, 1, 0, 0, 0, 1, 0, 1, 1, 1, 1, 1, 1, 1, 1, 1, 1, 1, 1, 1, 0, 0, 0] junctionref14_Retrace.c)) :=
  loop_ok (kindOf := kindOf) (C := junctionref14_Retrace.ctx k) (n := .none) (L := junctionref14_Retrace.e4 k) (junctionref14_Retrace.xOk k) (by kernel_rfl) (by kernel_rfl) (fits_of (l := []) (by kernel_rfl) trivial) (fun _ => by kernel_rfl) (fun _ _ => by kernel_rfl) k
theorem junctionref14_Retrace.k5 (k : Nat) : LamOk (junctionref14_Retrace.ctx k) ((junctionref14_Retrace.ctx k).Λ 5) (.loop (sub [1, 1, 1, 0, 0, 0] junctionref14_Retrace.c)) :=
  loop_ok (kindOf := kindOf) (C := junctionref14_Retrace.ctx k) (n := (.pair .none (.pair (.pair .none (.pair .none (.pair .none (.pair .none (.pair .none (.pair .none (.pair .none (.pair (.cut 0) (.pair .none (.pair (.cut 1) (.pair .none (.pair (.cut 2) (.pair (.cut 3) (.pair (.pair (.cut 4) .none) .none)))))))))))))) .none))) (L := junctionref14_Retrace.e5 k) (junctionref14_Retrace.xOk k) (by kernel_rfl) (by kernel_rfl) (fits_of (l := [(0, (sub [1, 1, 1, 0, 0, 0, 1, 0, 1, 1, 1, 1, 1, 1, 1, 0] junctionref14_Retrace.c)), (1, (sub [1, 1, 1, 0, 0, 0, 1, 0, 1, 1, 1, 1, 1, 1, 1, 1, 1, 0] junctionref14_Retrace.c)), (2, (sub [1, 1, 1, 0, 0, 0, 1, 0, 1, 1, 1, 1, 1, 1, 1, 1, 1, 1, 1, 0] junctionref14_Retrace.c)), (3, (sub [1, 1, 1, 0, 0, 0, 1, 0, 1, 1, 1, 1, 1, 1, 1, 1, 1, 1, 1, 1, 0] junctionref14_Retrace.c)), (4, .loop (sub [1, 1, 1, 0, 0, 0, 1, 0, 1, 1, 1, 1, 1, 1, 1, 1, 1, 1, 1, 1, 1, 0, 0, 0] junctionref14_Retrace.c))]) (by kernel_rfl) ⟨junctionref14_Retrace.k0 k, junctionref14_Retrace.k1 k, junctionref14_Retrace.k2 k, junctionref14_Retrace.k3 k, junctionref14_Retrace.k4 k, trivial⟩) (fun _ => by kernel_rfl) (fun _ _ => by kernel_rfl) k
theorem junctionref14_Retrace.k6 (k : Nat) : LamOk (junctionref14_Retrace.ctx k) ((junctionref14_Retrace.ctx k).Λ 6) (sub [1, 1, 1, 1, 1, 0] junctionref14_Retrace.c) :=
  cut_ok (kindOf := kindOf) (C := junctionref14_Retrace.ctx k) (n := .none) (L := junctionref14_Retrace.e6 k) (junctionref14_Retrace.xOk k) (by kernel_rfl) (by kernel_rfl) (fits_of (l := []) (by kernel_rfl) trivial) (fun _ => by kernel_rfl)
theorem junctionref14_Retrace.call (k : Nat) : CallV Tryd.prog E glob 17 junctionref14_Retrace.i junctionref14_Retrace.p junctionref14_Retrace.b (junctionref14_Retrace.f k) :=
  fn_okZ (kindOf := kindOf) (C := junctionref14_Retrace.ctx k) (n := (.pair .none (.pair .none (.pair .none (.pair (.pair (.cut 5) .none) (.pair .none (.pair (.cut 6) .none))))))) (junctionref14_Retrace.xOk k) Tryd.func17 junctionref14_Retrace.hb (fits_of (l := [(5, .loop (sub [1, 1, 1, 0, 0, 0] junctionref14_Retrace.c)), (6, (sub [1, 1, 1, 1, 1, 0] junctionref14_Retrace.c))]) (by kernel_rfl) ⟨junctionref14_Retrace.k5 k, junctionref14_Retrace.k6 k, trivial⟩) (fun _ => by kernel_rfl)
noncomputable def junctionref14_Retrace.ent (k : Nat) : EntS κ := ⟨17, [], entOf junctionref14_Retrace.i junctionref14_Retrace.p junctionref14_Retrace.b false (junctionref14_Retrace.f k) E⟩
theorem junctionref14_Retrace.entOk (k : Nat) : EntOk Tryd.prog E glob 17 (junctionref14_Retrace.ent k).run := ent_bound encOk (callable_of Tryd.func17 (by kernel_rfl) (by kernel_rfl)) (junctionref14_Retrace.call k)
noncomputable def junctionlaw14_DriverRetraces.c : Go.Code := match Tryd.f6.body with | some c => c | none => .skip
theorem junctionlaw14_DriverRetraces.hb : Tryd.f6.body = some junctionlaw14_DriverRetraces.c := by kernel_rfl
noncomputable def junctionlaw14_DriverRetraces.x (k : Nat) (ls : List (LamS κ)) : Ctx κ := mkCtx [junctionlaw14_SameEntries.ent k, driver_Retrace.ent k, junctionref14_Retrace.ent k] [junctionlaw14_SameEntries.qent k] ls
def junctionlaw14_DriverRetraces.i : List (Pat κ) := [.str]
def junctionlaw14_DriverRetraces.p : Pat κ := .bool
def junctionlaw14_DriverRetraces.b : List (BPat κ) := []
noncomputable def junctionlaw14_DriverRetraces (k : Nat) (t0 : ByteArray) : Option (Bool × Unit) :=
    Option.bind (Go.Am.Tryd.driver_Retrace k t0) fun r0 =>
      Option.bind (Go.Am.Tryd.junctionref14_Retrace k t0) fun r1 =>
        if (Prod.fst (Prod.snd (Prod.fst r0)) == Prod.fst (Prod.snd (Prod.fst r1))) = Bool.true then
          Option.bind (Go.Am.Tryd.junctionlaw14_SameEntries k (Prod.fst (Prod.fst r0)) (Prod.fst (Prod.fst r1))) fun r2 => Option.some (Prod.fst r2, ())
        else Option.some (Bool.false, ())
noncomputable def junctionlaw14_DriverRetraces.f (k : Nat) : dens junctionlaw14_DriverRetraces.i → Option (junctionlaw14_DriverRetraces.p.den × densB junctionlaw14_DriverRetraces.b) := fun d => junctionlaw14_DriverRetraces k d.1
noncomputable def junctionlaw14_DriverRetraces.ctx (k : Nat) : Ctx κ := junctionlaw14_DriverRetraces.x k []
theorem junctionlaw14_DriverRetraces.xOk (k : Nat) : (junctionlaw14_DriverRetraces.ctx k).Ok := ctxOk ⟨junctionlaw14_SameEntries.entOk k, driver_Retrace.entOk k, junctionref14_Retrace.entOk k, trivial⟩ ⟨junctionlaw14_SameEntries.qentOk k, trivial⟩
theorem junctionlaw14_DriverRetraces.call (k : Nat) : CallV Tryd.prog E glob 6 junctionlaw14_DriverRetraces.i junctionlaw14_DriverRetraces.p junctionlaw14_DriverRetraces.b (junctionlaw14_DriverRetraces.f k) :=
  fn_okZ (kindOf := kindOf) (C := junctionlaw14_DriverRetraces.ctx k) (n := .none) (junctionlaw14_DriverRetraces.xOk k) Tryd.func6 junctionlaw14_DriverRetraces.hb (fits_of (l := []) (by kernel_rfl) trivial) (fun _ => by kernel_rfl)
noncomputable def junctionlaw14_DriverRetraces.ent (k : Nat) : EntS κ := ⟨6, [], entOf junctionlaw14_DriverRetraces.i junctionlaw14_DriverRetraces.p junctionlaw14_DriverRetraces.b true (junctionlaw14_DriverRetraces.f k) E⟩
theorem junctionlaw14_DriverRetraces.entOk (k : Nat) : EntOk Tryd.prog E glob 6 (junctionlaw14_DriverRetraces.ent k).run := ent_free encOk (callable_of Tryd.func6 (by kernel_rfl) (by kernel_rfl)) (by rfl) trivial (junctionlaw14_DriverRetraces.call k)
noncomputable def junctionlaw14_DriverRetraces.qent (k : Nat) : QEntS κ := ⟨6, qentOf junctionlaw14_DriverRetraces.i junctionlaw14_DriverRetraces.p (junctionlaw14_DriverRetraces.f k) E⟩
theorem junctionlaw14_DriverRetraces.qentOk (k : Nat) : QEntOk Tryd.prog E glob 6 (junctionlaw14_DriverRetraces.qent k).run := qent_ok encOk (callable_of Tryd.func6 (by kernel_rfl) (by kernel_rfl)) (junctionlaw14_DriverRetraces.call k)
noncomputable def junctionlaw14_plain.c : Go.Code := match Tryd.f18.body with | some c => c | none => .skip
theorem junctionlaw14_plain.hb : Tryd.f18.body = some junctionlaw14_plain.c := by kernel_rfl
noncomputable def junctionlaw14_plain.x (k : Nat) (ls : List (LamS κ)) : Ctx κ := mkCtx [] [] ls
def junctionlaw14_plain.i : List (Pat κ) := [.ro .T38]
def junctionlaw14_plain.s4 : Sh κ := ⟨0, [0, 3, 4], [.ro .T38, .own .T38 0, .int .i64], [.rows .T38]⟩
def junctionlaw14_plain.s0 : Sh κ := ⟨0, [0, 4], [.ro .T38, .int .i64], []⟩
def junctionlaw14_plain.o0 : List (Ex × Sh κ) := [(.exit 0, ⟨0, [], [], []⟩), (.normal, ⟨0, [], [], []⟩)]
noncomputable def junctionlaw14_plain.l0 (k : Nat) (t0 : List S38) (t4 : Int) : Option (Unit × Unit ⊕ Unit × Unit) :=
    if Decidable.decide (t4 < (↑(List.length t0) : Int)) = Bool.true then
      if Decidable.decide (t4 < (65536 : Int)) = Bool.true then Option.some (Sum.inr ((), ())) else Option.some (Sum.inl ((), ()))
    else Option.some (Sum.inl ((), ()))
def junctionlaw14_plain.w0 : List Nat := [8, 9, 10, 11, 12, 13, 14, 15]
noncomputable def junctionlaw14_plain.e0 (k : Nat) : junctionlaw14_plain.s0.den → Option (OutT junctionlaw14_plain.o0) := fun d => junctionlaw14_plain.l0 k d.1.1 d.1.2.1
noncomputable def junctionlaw14_plain.m0 (k : Nat) : LamS κ := ⟨lamK 60 junctionlaw14_plain.w0 junctionlaw14_plain.s0 junctionlaw14_plain.o0 (junctionlaw14_plain.e0 k)⟩
def junctionlaw14_plain.s2 : Sh κ := ⟨0, [0, 4, 5, 6], [.ro .T38, .int .i64, .str, .int .i64], []⟩
def junctionlaw14_plain.s1 : Sh κ := ⟨0, [0, 4, 6], [.ro .T38, .int .i64, .int .i64], []⟩
def junctionlaw14_plain.o1 : List (Ex × Sh κ) := [(.exit 2, ⟨0, [], [], []⟩), (.normal, ⟨0, [], [], []⟩)]
noncomputable def junctionlaw14_plain.l1 (k : Nat) (t0 : List S38) (t4 : Int) (t6 : Int) : Option (Unit × Unit ⊕ Unit × Unit) :=
    if (0 : Int) ≤ t4 ∧ t4 < (↑(List.length t0) : Int) then
      if
          Decidable.decide (t6 < (↑(ByteArray.size (Go.Am.Tryd.S38.f0 (List.getD t0 (Int.toNat t4) (Go.Am.Tryd.S38.mk ByteArray.empty (0 : Int))))) : Int)) =
            Bool.true then
        if Decidable.decide (t6 < (64 : Int)) = Bool.true then Option.some (Sum.inr ((), ())) else Option.some (Sum.inl ((), ()))
      else Option.some (Sum.inl ((), ()))
    else Option.none
def junctionlaw14_plain.w1 : List Nat := [18, 19, 20, 21, 22, 23, 24, 25, 26, 27, 28, 29]
noncomputable def junctionlaw14_plain.e1 (k : Nat) : junctionlaw14_plain.s1.den → Option (OutT junctionlaw14_plain.o1) := fun d => junctionlaw14_plain.l1 k d.1.1 d.1.2.1 d.1.2.2.1
noncomputable def junctionlaw14_plain.m1 (k : Nat) : LamS κ := ⟨lamK 60 junctionlaw14_plain.w1 junctionlaw14_plain.s1 junctionlaw14_plain.o1 (junctionlaw14_plain.e1 k)⟩
def junctionlaw14_plain.o2 : List (Ex × Sh κ) := [(.exit 2, ⟨0, [5], [.str], []⟩)]
noncomputable def junctionlaw14_plain.l2 (k : Nat) : Nat → (List S38) → Int → ByteArray → Int → Option ((ByteArray × Unit) × Unit)
  | 0, _, _, _, _ => none
  | j + 1, t0, t4, t5, t6 =>
    Option.bind (Go.Am.Tryd.junctionlaw14_plain.l1 k t0 t4 t6) fun r0 =>
      Go.Am.onSum r0 (fun r1 => Option.some ((t5, ()), ())) fun r1 =>
        if (0 : Int) ≤ t4 ∧ t4 < (↑(List.length t0) : Int) then
          if (0 : Int) ≤ t6 ∧ t6 < (↑(ByteArray.size (Go.Am.Tryd.S38.f0 (List.getD t0 (Int.toNat t4) (Go.Am.Tryd.S38.mk ByteArray.empty (0 : Int))))) : Int) then
            if
                (0 : Int) ≤ Go.Am.rem (Go.Am.bt (Go.Am.Tryd.S38.f0 (List.getD t0 (Int.toNat t4) (Go.Am.Tryd.S38.mk ByteArray.empty (0 : Int)))) t6) (4 : Int) ∧
                  Go.Am.rem (Go.Am.bt (Go.Am.Tryd.S38.f0 (List.getD t0 (Int.toNat t4) (Go.Am.Tryd.S38.mk ByteArray.empty (0 : Int)))) t6) (4 : Int) <
                    (↑(ByteArray.size (ByteArray.mk #[(114 : UInt8), (108 : UInt8), (103 : UInt8), (97 : UInt8)])) : Int) then
              Go.Am.tooLong
                (ByteArray.size t5 +
                  ByteArray.size
                    (Go.strOfNums
                      (List.map (fun x => x)
                        [Go.Am.bt (ByteArray.mk #[(114 : UInt8), (108 : UInt8), (103 : UInt8), (97 : UInt8)])
                            (Go.Am.rem (Go.Am.bt (Go.Am.Tryd.S38.f0 (List.getD t0 (Int.toNat t4) (Go.Am.Tryd.S38.mk ByteArray.empty (0 : Int)))) t6) (4 : Int))])))
                (junctionlaw14_plain.l2 k j t0 t4
                  (t5 ++
                    Go.strOfNums
                      (List.map (fun x => x)
                        [Go.Am.bt (ByteArray.mk #[(114 : UInt8), (108 : UInt8), (103 : UInt8), (97 : UInt8)])
                            (Go.Am.rem (Go.Am.bt (Go.Am.Tryd.S38.f0 (List.getD t0 (Int.toNat t4) (Go.Am.Tryd.S38.mk ByteArray.empty (0 : Int)))) t6) (4 : Int))]))
                  (Go.IntKind.wrap Go.IntKind.i64 (t6 + (1 : Int))))
            else Option.none
          else Option.none
        else Option.none
def junctionlaw14_plain.w2 : List Nat := [18, 19, 20, 21, 22, 23, 24, 25, 26, 27, 28, 29, 32, 33, 34, 35, 36, 37, 38, 39, 40, 41, 42, 43, 44, 5, 30, 31, 6]
noncomputable def junctionlaw14_plain.e2 (k j : Nat) : junctionlaw14_plain.s2.den → Option (OutT junctionlaw14_plain.o2) := fun d => junctionlaw14_plain.l2 k j d.1.1 d.1.2.1 d.1.2.2.1 d.1.2.2.2.1
noncomputable def junctionlaw14_plain.m2 (k : Nat) : LamS κ := ⟨lamK 60 junctionlaw14_plain.w2 junctionlaw14_plain.s2 junctionlaw14_plain.o2 (junctionlaw14_plain.e2 k k)⟩
def junctionlaw14_plain.s3 : Sh κ := ⟨0, [7], [.int .i64], []⟩
def junctionlaw14_plain.o3 : List (Ex × Sh κ) := [(.normal, ⟨0, [7], [.int .i64], []⟩)]
noncomputable def junctionlaw14_plain.l3 (k : Nat) (t7 : Int) : Option ((Int × Unit) × Unit) :=
    if Decidable.decide (t7 < (0 : Int)) = Bool.true then Option.some (((-1 : Int), ()), ()) else Option.some ((t7, ()), ())
def junctionlaw14_plain.w3 : List Nat := [51, 52, 7]
noncomputable def junctionlaw14_plain.e3 (k : Nat) : junctionlaw14_plain.s3.den → Option (OutT junctionlaw14_plain.o3) := fun d => junctionlaw14_plain.l3 k d.1.1
noncomputable def junctionlaw14_plain.m3 (k : Nat) : LamS κ := ⟨lamK 60 junctionlaw14_plain.w3 junctionlaw14_plain.s3 junctionlaw14_plain.o3 (junctionlaw14_plain.e3 k)⟩
def junctionlaw14_plain.o4 : List (Ex × Sh κ) := [(.exit 0, ⟨1, [3], [.own .T38 0], [.rows .T38]⟩)]
noncomputable def junctionlaw14_plain.l4 (k : Nat) : Nat → (List S38) → Int → (List S38) → Option ((Unit × Unit) × List Go.Am.Tryd.S38 × Unit)
  | 0, _, _, _ => none
  | j + 1, t0, t4, b0 =>
    Option.bind (Go.Am.Tryd.junctionlaw14_plain.l0 k t0 t4) fun r0 =>
      Go.Am.onSum r0 (fun r1 => Option.some (((), ()), b0, ())) fun r1 =>
        Option.bind (Go.Am.Tryd.junctionlaw14_plain.l2 k k t0 t4 (ByteArray.mk #[]) (0 : Int)) fun r2 =>
          if (0 : Int) ≤ t4 ∧ t4 < (↑(List.length t0) : Int) then
            Option.bind
              (Go.Am.Tryd.junctionlaw14_plain.l3 k
                (Go.Am.rem (Go.Am.Tryd.S38.f1 (List.getD t0 (Int.toNat t4) (Go.Am.Tryd.S38.mk ByteArray.empty (0 : Int)))) (256 : Int)))
              fun r3 =>
              Go.Am.room ((List.length b0 + List.length [Go.Am.Tryd.S38.mk (Prod.fst (Prod.fst r2)) (Prod.fst (Prod.fst r3))]) * (24 : Nat))
                (junctionlaw14_plain.l4 k j t0 (Go.IntKind.wrap Go.IntKind.i64 (t4 + (1 : Int))) (b0 ++ [Go.Am.Tryd.S38.mk (Prod.fst (Prod.fst r2)) (Prod.fst (Prod.fst r3))]))
          else Option.none
def junctionlaw14_plain.w4 : List Nat := [8, 9, 10, 11, 12, 13, 14, 15, 5, 6, 18, 19, 20, 21, 22, 23, 24, 25, 26, 27, 28, 29, 32, 33, 34, 35, 36, 37, 38, 39, 40, 41, 42, 43, 44, 30, 31, 45, 46, 47, 48, 49, 50, 7, 51, 52, 53, 54, 55, 56, 57, 58, 3, 16, 17, 4]
noncomputable def junctionlaw14_plain.e4 (k j : Nat) : junctionlaw14_plain.s4.den → Option (OutT junctionlaw14_plain.o4) := fun d => junctionlaw14_plain.l4 k j d.1.1 d.1.2.2.1 d.2.1
noncomputable def junctionlaw14_plain.m4 (k : Nat) : LamS κ := ⟨lamK 60 junctionlaw14_plain.w4 junctionlaw14_plain.s4 junctionlaw14_plain.o4 (junctionlaw14_plain.e4 k k)⟩
def junctionlaw14_plain.p : Pat κ := .ro .T38
def junctionlaw14_plain.b : List (BPat κ) := []
noncomputable def junctionlaw14_plain (k : Nat) (t0 : List S38) : Option (List Go.Am.Tryd.S38 × Unit) :=
    Option.bind (Go.Am.Tryd.junctionlaw14_plain.l4 k k t0 (0 : Int) []) fun r0 => Option.some (Prod.fst (Prod.snd r0), ())
noncomputable def junctionlaw14_plain.f (k : Nat) : dens junctionlaw14_plain.i → Option (junctionlaw14_plain.p.den × densB junctionlaw14_plain.b) := fun d => junctionlaw14_plain k d.1
noncomputable def junctionlaw14_plain.ctx (k : Nat) : Ctx κ := junctionlaw14_plain.x k [junctionlaw14_plain.m0 k, junctionlaw14_plain.m1 k, junctionlaw14_plain.m2 k, junctionlaw14_plain.m3 k, junctionlaw14_plain.m4 k]
theorem junctionlaw14_plain.xOk (k : Nat) : (junctionlaw14_plain.ctx k).Ok := ctxOk trivial trivial
theorem junctionlaw14_plain.k0 (k : Nat) : LamOk (junctionlaw14_plain.ctx k) ((junctionlaw14_plain.ctx k).Λ 0) (sub [1, 1, 0, 1, 0, 0, 0] junctionlaw14_plain.c) :=
  cut_ok (kindOf := kindOf) (C := junctionlaw14_plain.ctx k) (n := .none) (L := junctionlaw14_plain.e0 k) (junctionlaw14_plain.xOk k) (by kernel_rfl) (by kernel_rfl) (fits_of (l := []) (by kernel_rfl) trivial) (fun _ => by kernel_rfl)
theorem junctionlaw14_plain.k1 (k : Nat) : LamOk (junctionlaw14_plain.ctx k) ((junctionlaw14_plain.ctx k).Λ 1) (sub [1, 1, 0, 1, 0, 0, 1, 0, 0, 1, 0, 1, 0, 0, 0] junctionlaw14_plain.c) :=
  cut_ok (kindOf := kindOf) (C := junctionlaw14_plain.ctx k) (n := .none) (L := junctionlaw14_plain.e1 k) (junctionlaw14_plain.xOk k) (by kernel_rfl) (by kernel_rfl) (fits_of (l := []) (by kernel_rfl) trivial) (fun _ => by kernel_rfl)
theorem junctionlaw14_plain.k2 (k : Nat) : LamOk (junctionlaw14_plain.ctx k) ((junctionlaw14_plain.ctx k).Λ 2) (.loop (sub [1, 1, 0, 1, 0, 0, 1, 0, 0, 1, 0, 1, 0, 0] junctionlaw14_plain.c)) :=
  loop_ok (kindOf := kindOf) (C := junctionlaw14_plain.ctx k) (n := (.pair (.cut 1) .none)) (L := junctionlaw14_plain.e2 k) (junctionlaw14_plain.xOk k) (by kernel_rfl) (by kernel_rfl) (fits_of (l := [(1, (sub [1, 1, 0, 1, 0, 0, 1, 0, 0, 1, 0, 1, 0, 0, 0] junctionlaw14_plain.c))]) (by kernel_rfl) ⟨junctionlaw14_plain.k1 k, trivial⟩) (fun _ => by kernel_rfl) (fun _ _ => by kernel_rfl) k
theorem junctionlaw14_plain.k3 (k : Nat) : LamOk (junctionlaw14_plain.ctx k) ((junctionlaw14_plain.ctx k).Λ 3) (sub [1, 1, 0, 1, 0, 0, 1, 0, 0, 1, 1, 1, 0] junctionlaw14_plain.c) :=
  cut_ok (kindOf := kindOf) (C := junctionlaw14_plain.ctx k) (n := .none) (L := junctionlaw14_plain.e3 k) (junctionlaw14_plain.xOk k) (by kernel_rfl) (by kernel_rfl) (fits_of (l := []) (by kernel_rfl) trivial) (fun _ => by kernel_rfl)
theorem junctionlaw14_plain.k4 (k : Nat) : LamOk (junctionlaw14_plain.ctx k) ((junctionlaw14_plain.ctx k).Λ 4) (.loop (sub [1, 1, 0, 1, 0, 0] junctionlaw14_plain.c)) :=
  loop_ok (kindOf := kindOf) (C := junctionlaw14_plain.ctx k) (n := (.pair (.cut 0) (.pair (.pair (.pair .none (.pair (.pair .none (.pair (.cut 2) .none)) (.pair .none (.pair (.cut 3) .none)))) .none) .none))) (L := junctionlaw14_plain.e4 k) (junctionlaw14_plain.xOk k) (by kernel_rfl) (by kernel_rfl) (fits_of (l := [(0, (sub [1, 1, 0, 1, 0, 0, 0] junctionlaw14_plain.c)), (2, .loop (sub [1, 1, 0, 1, 0, 0, 1, 0, 0, 1, 0, 1, 0, 0] junctionlaw14_plain.c)), (3, (sub [1, 1, 0, 1, 0, 0, 1, 0, 0, 1, 1, 1, 0] junctionlaw14_plain.c))]) (by kernel_rfl) ⟨junctionlaw14_plain.k0 k, junctionlaw14_plain.k2 k, junctionlaw14_plain.k3 k, trivial⟩) (fun _ => by kernel_rfl) (fun _ _ => by kernel_rfl) k
theorem junctionlaw14_plain.call (k : Nat) : CallV Tryd.prog E glob 18 junctionlaw14_plain.i junctionlaw14_plain.p junctionlaw14_plain.b (junctionlaw14_plain.f k) :=
  fn_okZ (kindOf := kindOf) (C := junctionlaw14_plain.ctx k) (n := (.pair .none (.pair .none (.pair (.pair .none (.pair (.cut 4) .none)) .none)))) (junctionlaw14_plain.xOk k) Tryd.func18 junctionlaw14_plain.hb (fits_of (l := [(4, .loop (sub [1, 1, 0, 1, 0, 0] junctionlaw14_plain.c))]) (by kernel_rfl) ⟨junctionlaw14_plain.k4 k, trivial⟩) (fun _ => by kernel_rfl)
noncomputable def junctionlaw14_plain.ent (k : Nat) : EntS κ := ⟨18, [], entOf junctionlaw14_plain.i junctionlaw14_plain.p junctionlaw14_plain.b false (junctionlaw14_plain.f k) E⟩
theorem junctionlaw14_plain.entOk (k : Nat) : EntOk Tryd.prog E glob 18 (junctionlaw14_plain.ent k).run := ent_bound encOk (callable_of Tryd.func18 (by kernel_rfl) (by kernel_rfl)) (junctionlaw14_plain.call k)
noncomputable def junctionlaw14_DriverThere.c : Go.Code := match Tryd.f7.body with | some c => c | none => .skip
theorem junctionlaw14_DriverThere.hb : Tryd.f7.body = some junctionlaw14_DriverThere.c := by kernel_rfl
noncomputable def junctionlaw14_DriverThere.x (k : Nat) (ls : List (LamS κ)) : Ctx κ := mkCtx [driver_Trace.ent k, junctionlaw14_SameEntries.ent k, driver_Retrace.ent k, junctionlaw14_plain.ent k] [junctionlaw14_SameEntries.qent k] ls
def junctionlaw14_DriverThere.i : List (Pat κ) := [.ro .T38]
def junctionlaw14_DriverThere.s0 : Sh κ := ⟨0, [3, 4], [.str, .int .i64], []⟩
def junctionlaw14_DriverThere.o0 : List (Ex × Sh κ) := [(.ret, ⟨0, [2], [.bool], []⟩), (.normal, ⟨0, [], [], []⟩)]
noncomputable def junctionlaw14_DriverThere.l0 (k : Nat) (t3 : ByteArray) (t4 : Int) : Option ((Bool × Unit) × Unit ⊕ Unit × Unit) :=
    if
        (!ByteArray.toList t3 == ByteArray.toList (ByteArray.mk #[(48 : UInt8), (32 : UInt8), (114 : UInt8), (32 : UInt8), (45 : UInt8), (10 : UInt8)])) =
          Bool.false then
      if (t4 != (0 : Int)) = Bool.true then Option.some (Sum.inl ((Bool.false, ()), ())) else Option.some (Sum.inr ((), ()))
    else Option.some (Sum.inl ((Bool.false, ()), ()))
def junctionlaw14_DriverThere.w0 : List Nat := [15, 16, 17, 18, 19, 20, 2]
noncomputable def junctionlaw14_DriverThere.e0 (k : Nat) : junctionlaw14_DriverThere.s0.den → Option (OutT junctionlaw14_DriverThere.o0) := fun d => junctionlaw14_DriverThere.l0 k d.1.1 d.1.2.1
noncomputable def junctionlaw14_DriverThere.m0 (k : Nat) : LamS κ := ⟨lamK 42 junctionlaw14_DriverThere.w0 junctionlaw14_DriverThere.s0 junctionlaw14_DriverThere.o0 (junctionlaw14_DriverThere.e0 k)⟩
def junctionlaw14_DriverThere.p : Pat κ := .bool
def junctionlaw14_DriverThere.b : List (BPat κ) := []
noncomputable def junctionlaw14_DriverThere (k : Nat) (t0 : List S38) : Option (Bool × Unit) :=
    Option.bind (Go.Am.Tryd.driver_Trace k [Go.Am.Tryd.S38.mk (ByteArray.mk #[(114 : UInt8)]) (-1 : Int)]) fun r0 =>
      Option.bind (Go.Am.Tryd.junctionlaw14_DriverThere.l0 k (Prod.fst (Prod.fst r0)) (Prod.fst (Prod.snd (Prod.fst r0)))) fun r1 =>
        Go.Am.onSum r1 (fun r2 => Option.some (Prod.fst (Prod.fst r2), ())) fun r2 =>
          Option.bind (Go.Am.Tryd.junctionlaw14_plain k t0) fun r3 =>
            Option.bind (Go.Am.Tryd.driver_Trace k (Prod.fst r3)) fun r4 =>
              if (Prod.fst (Prod.snd (Prod.fst r4)) != (0 : Int)) = Bool.true then Option.some (Bool.false, ())
              else
                Option.bind (Go.Am.Tryd.driver_Retrace k (Prod.fst (Prod.fst r4))) fun r5 =>
                  if (Prod.fst (Prod.snd (Prod.fst r5)) == (0 : Int)) = Bool.true then
                    Option.bind (Go.Am.Tryd.junctionlaw14_SameEntries k (Prod.fst r3) (Prod.fst (Prod.fst r5))) fun r6 => Option.some (Prod.fst r6, ())
                  else Option.some (Bool.false, ())
noncomputable def junctionlaw14_DriverThere.f (k : Nat) : dens junctionlaw14_DriverThere.i → Option (junctionlaw14_DriverThere.p.den × densB junctionlaw14_DriverThere.b) := fun d => junctionlaw14_DriverThere k d.1
noncomputable def junctionlaw14_DriverThere.ctx (k : Nat) : Ctx κ := junctionlaw14_DriverThere.x k [junctionlaw14_DriverThere.m0 k]
theorem junctionlaw14_DriverThere.xOk (k : Nat) : (junctionlaw14_DriverThere.ctx k).Ok := ctxOk ⟨driver_Trace.entOk k, junctionlaw14_SameEntries.entOk k, driver_Retrace.entOk k, junctionlaw14_plain.entOk k, trivial⟩ ⟨junctionlaw14_SameEntries.qentOk k, trivial⟩
theorem junctionlaw14_DriverThere.k0 (k : Nat) : LamOk (junctionlaw14_DriverThere.ctx k) ((junctionlaw14_DriverThere.ctx k).Λ 0) (sub [1, 1, 0] junctionlaw14_DriverThere.c) :=
  cut_ok (kindOf := kindOf) (C := junctionlaw14_DriverThere.ctx k) (n := .none) (L := junctionlaw14_DriverThere.e0 k) (junctionlaw14_DriverThere.xOk k) (by kernel_rfl) (by kernel_rfl) (fits_of (l := []) (by kernel_rfl) trivial) (fun _ => by kernel_rfl)
theorem junctionlaw14_DriverThere.call (k : Nat) : CallV Tryd.prog E glob 7 junctionlaw14_DriverThere.i junctionlaw14_DriverThere.p junctionlaw14_DriverThere.b (junctionlaw14_DriverThere.f k) :=
  fn_okZ (kindOf := kindOf) (C := junctionlaw14_DriverThere.ctx k) (n := (.pair .none (.pair .none (.pair (.cut 0) .none)))) (junctionlaw14_DriverThere.xOk k) Tryd.func7 junctionlaw14_DriverThere.hb (fits_of (l := [(0, (sub [1, 1, 0] junctionlaw14_DriverThere.c))]) (by kernel_rfl) ⟨junctionlaw14_DriverThere.k0 k, trivial⟩) (fun _ => by kernel_rfl)
noncomputable def junctionlaw14_DriverThere.ent (k : Nat) : EntS κ := ⟨7, [], entOf junctionlaw14_DriverThere.i junctionlaw14_DriverThere.p junctionlaw14_DriverThere.b true (junctionlaw14_DriverThere.f k) E⟩
theorem junctionlaw14_DriverThere.entOk (k : Nat) : EntOk Tryd.prog E glob 7 (junctionlaw14_DriverThere.ent k).run := ent_free encOk (callable_of Tryd.func7 (by kernel_rfl) (by kernel_rfl)) (by rfl) trivial (junctionlaw14_DriverThere.call k)
noncomputable def junctionlaw14_DriverThere.qent (k : Nat) : QEntS κ := ⟨7, qentOf junctionlaw14_DriverThere.i junctionlaw14_DriverThere.p (junctionlaw14_DriverThere.f k) E⟩
theorem junctionlaw14_DriverThere.qentOk (k : Nat) : QEntOk Tryd.prog E glob 7 (junctionlaw14_DriverThere.qent k).run := qent_ok encOk (callable_of Tryd.func7 (by kernel_rfl) (by kernel_rfl)) (junctionlaw14_DriverThere.call k)
noncomputable def junctionlaw14_DriverBack.c : Go.Code := match Tryd.f8.body with | some c => c | none => .skip
theorem junctionlaw14_DriverBack.hb : Tryd.f8.body = some junctionlaw14_DriverBack.c := by kernel_rfl
noncomputable def junctionlaw14_DriverBack.x (k : Nat) (ls : List (LamS κ)) : Ctx κ := mkCtx [driver_Trace.ent k, driver_Retrace.ent k] [] ls
def junctionlaw14_DriverBack.i : List (Pat κ) := [.str]
def junctionlaw14_DriverBack.s0 : Sh κ := ⟨0, [3, 4], [.ro .T38, .int .i64], []⟩
def junctionlaw14_DriverBack.o0 : List (Ex × Sh κ) := [(.ret, ⟨0, [2], [.bool], []⟩), (.normal, ⟨0, [], [], []⟩)]
noncomputable def junctionlaw14_DriverBack.l0 (k : Nat) (t3 : List S38) (t4 : Int) : Option ((Bool × Unit) × Unit ⊕ Unit × Unit) :=
    if (t4 != (0 : Int)) = Bool.false then
      if ((↑(List.length t3) : Int) != (2 : Int)) = Bool.true then Option.some (Sum.inl ((Bool.false, ()), ())) else Option.some (Sum.inr ((), ()))
    else Option.some (Sum.inl ((Bool.false, ()), ()))
def junctionlaw14_DriverBack.w0 : List Nat := [13, 14, 15, 16, 17, 18, 19, 2]
noncomputable def junctionlaw14_DriverBack.e0 (k : Nat) : junctionlaw14_DriverBack.s0.den → Option (OutT junctionlaw14_DriverBack.o0) := fun d => junctionlaw14_DriverBack.l0 k d.1.1 d.1.2.1
noncomputable def junctionlaw14_DriverBack.m0 (k : Nat) : LamS κ := ⟨lamK 46 junctionlaw14_DriverBack.w0 junctionlaw14_DriverBack.s0 junctionlaw14_DriverBack.o0 (junctionlaw14_DriverBack.e0 k)⟩
def junctionlaw14_DriverBack.p : Pat κ := .bool
def junctionlaw14_DriverBack.b : List (BPat κ) := []
noncomputable def junctionlaw14_DriverBack (k : Nat) (t0 : ByteArray) : Option (Bool × Unit) :=
    Option.bind
      (Go.Am.Tryd.driver_Retrace k
        (ByteArray.mk #[(48 : UInt8), (45 : UInt8), (49 : UInt8), (32 : UInt8), (114 : UInt8), (32 : UInt8), (45 : UInt8), (10 : UInt8)]))
      fun r0 =>
      Option.bind (Go.Am.Tryd.junctionlaw14_DriverBack.l0 k (Prod.fst (Prod.fst r0)) (Prod.fst (Prod.snd (Prod.fst r0)))) fun r1 =>
        Go.Am.onSum r1 (fun r2 => Option.some (Prod.fst (Prod.fst r2), ())) fun r2 =>
          Option.bind (Go.Am.Tryd.driver_Retrace k t0) fun r3 =>
            if (Prod.fst (Prod.snd (Prod.fst r3)) != (0 : Int)) = Bool.true then
              if (Prod.fst (Prod.snd (Prod.fst r3)) == (140 : Int)) = Bool.true then Option.some ((↑(List.length (Prod.fst (Prod.fst r3))) : Int) == (0 : Int), ())
              else Option.some (Bool.false, ())
            else
              Option.bind (Go.Am.Tryd.driver_Trace k (Prod.fst (Prod.fst r3))) fun r4 =>
                if (Prod.fst (Prod.snd (Prod.fst r4)) == (0 : Int)) = Bool.true then
                  Option.some (ByteArray.toList (Prod.fst (Prod.fst r4)) == ByteArray.toList t0, ())
                else Option.some (Bool.false, ())
noncomputable def junctionlaw14_DriverBack.f (k : Nat) : dens junctionlaw14_DriverBack.i → Option (junctionlaw14_DriverBack.p.den × densB junctionlaw14_DriverBack.b) := fun d => junctionlaw14_DriverBack k d.1
noncomputable def junctionlaw14_DriverBack.ctx (k : Nat) : Ctx κ := junctionlaw14_DriverBack.x k [junctionlaw14_DriverBack.m0 k]
theorem junctionlaw14_DriverBack.xOk (k : Nat) : (junctionlaw14_DriverBack.ctx k).Ok := ctxOk ⟨driver_Trace.entOk k, driver_Retrace.entOk k, trivial⟩ trivial
theorem junctionlaw14_DriverBack.k0 (k : Nat) : LamOk (junctionlaw14_DriverBack.ctx k) ((junctionlaw14_DriverBack.ctx k).Λ 0) (sub [1, 1, 0] junctionlaw14_DriverBack.c) :=
  cut_ok (kindOf := kindOf) (C := junctionlaw14_DriverBack.ctx k) (n := .none) (L := junctionlaw14_DriverBack.e0 k) (junctionlaw14_DriverBack.xOk k) (by kernel_rfl) (by kernel_rfl) (fits_of (l := []) (by kernel_rfl) trivial) (fun _ => by kernel_rfl)
theorem junctionlaw14_DriverBack.call (k : Nat) : CallV Tryd.prog E glob 8 junctionlaw14_DriverBack.i junctionlaw14_DriverBack.p junctionlaw14_DriverBack.b (junctionlaw14_DriverBack.f k) :=
  fn_okZ (kindOf := kindOf) (C := junctionlaw14_DriverBack.ctx k) (n := (.pair .none (.pair .none (.pair (.cut 0) .none)))) (junctionlaw14_DriverBack.xOk k) Tryd.func8 junctionlaw14_DriverBack.hb (fits_of (l := [(0, (sub [1, 1, 0] junctionlaw14_DriverBack.c))]) (by kernel_rfl) ⟨junctionlaw14_DriverBack.k0 k, trivial⟩) (fun _ => by kernel_rfl)
noncomputable def junctionlaw14_DriverBack.ent (k : Nat) : EntS κ := ⟨8, [], entOf junctionlaw14_DriverBack.i junctionlaw14_DriverBack.p junctionlaw14_DriverBack.b true (junctionlaw14_DriverBack.f k) E⟩
theorem junctionlaw14_DriverBack.entOk (k : Nat) : EntOk Tryd.prog E glob 8 (junctionlaw14_DriverBack.ent k).run := ent_free encOk (callable_of Tryd.func8 (by kernel_rfl) (by kernel_rfl)) (by rfl) trivial (junctionlaw14_DriverBack.call k)
noncomputable def junctionlaw14_DriverBack.qent (k : Nat) : QEntS κ := ⟨8, qentOf junctionlaw14_DriverBack.i junctionlaw14_DriverBack.p (junctionlaw14_DriverBack.f k) E⟩
theorem junctionlaw14_DriverBack.qentOk (k : Nat) : QEntOk Tryd.prog E glob 8 (junctionlaw14_DriverBack.qent k).run := qent_ok encOk (callable_of Tryd.func8 (by kernel_rfl) (by kernel_rfl)) (junctionlaw14_DriverBack.call k)

end Go.Am.Tryd
