/- Written by a program of this work's (wip/am/Gen.tpl over the seat's translation); Lean checks it. -/
import Derived.Test.YtebbipofemjnmaaDoorHand14
namespace Go.Am.Tryd
open Go.Proofs Go.Am
set_option maxRecDepth 1000000
noncomputable def driver_words1.c : Go.Code := match Tryd.f32.body with | some c => c | none => .skip
theorem driver_words1.hb : Tryd.f32.body = some driver_words1.c := by kernel_rfl
noncomputable def driver_words1.x (k : Nat) (ls : List (LamS κ)) : Ctx κ := mkCtx [] [] ls
def driver_words1.i : List (Pat κ) := [.int .i64]
def driver_words1.p : Pat κ := .str
def driver_words1.b : List (BPat κ) := []
noncomputable def driver_words1 (k : Nat) (t0 : Int) : Option (ByteArray × Unit) :=
    if (t0 == (10 : Int)) = Bool.true then
      Option.some
        (ByteArray.mk
            #[(110 : UInt8), (111 : UInt8), (32 : UInt8), (115 : UInt8), (117 : UInt8), (99 : UInt8), (104 : UInt8), (32 : UInt8), (111 : UInt8), (112 : UInt8),
              (101 : UInt8), (114 : UInt8), (97 : UInt8), (116 : UInt8), (111 : UInt8), (114 : UInt8)],
          ())
    else
      if (t0 == (11 : Int)) = Bool.true then
        Option.some
          (ByteArray.mk #[(110 : UInt8), (111 : UInt8), (32 : UInt8), (110 : UInt8), (117 : UInt8), (109 : UInt8), (98 : UInt8), (101 : UInt8), (114 : UInt8)], ())
      else
        if (t0 == (12 : Int)) = Bool.true then
          Option.some
            (ByteArray.mk
                #[(110 : UInt8), (111 : UInt8), (32 : UInt8), (115 : UInt8), (117 : UInt8), (99 : UInt8), (104 : UInt8), (32 : UInt8), (109 : UInt8), (101 : UInt8),
                  (109 : UInt8), (98 : UInt8), (101 : UInt8), (114 : UInt8)],
              ())
        else
          if (t0 == (20 : Int)) = Bool.true then
            Option.some (ByteArray.mk #[(116 : UInt8), (111 : UInt8), (111 : UInt8), (32 : UInt8), (108 : UInt8), (111 : UInt8), (110 : UInt8), (103 : UInt8)], ())
          else
            if (t0 == (21 : Int)) = Bool.true then
              Option.some
                (ByteArray.mk
                    #[(97 : UInt8), (32 : UInt8), (98 : UInt8), (121 : UInt8), (116 : UInt8), (101 : UInt8), (32 : UInt8), (116 : UInt8), (104 : UInt8),
                      (97 : UInt8), (116 : UInt8), (32 : UInt8), (98 : UInt8), (101 : UInt8), (103 : UInt8), (105 : UInt8), (110 : UInt8), (115 : UInt8),
                      (32 : UInt8), (110 : UInt8), (111 : UInt8), (116 : UInt8), (104 : UInt8), (105 : UInt8), (110 : UInt8), (103 : UInt8)],
                  ())
            else
              if (t0 == (22 : Int)) = Bool.true then
                Option.some
                  (ByteArray.mk
                      #[(97 : UInt8), (32 : UInt8), (110 : UInt8), (117 : UInt8), (109 : UInt8), (98 : UInt8), (101 : UInt8), (114 : UInt8), (32 : UInt8),
                        (111 : UInt8), (102 : UInt8), (32 : UInt8), (97 : UInt8), (32 : UInt8), (119 : UInt8), (114 : UInt8), (111 : UInt8), (110 : UInt8),
                        (103 : UInt8), (32 : UInt8), (102 : UInt8), (111 : UInt8), (114 : UInt8), (109 : UInt8)],
                    ())
              else
                if (t0 == (23 : Int)) = Bool.true then
                  Option.some
                    (ByteArray.mk
                        #[(97 : UInt8), (32 : UInt8), (110 : UInt8), (117 : UInt8), (109 : UInt8), (98 : UInt8), (101 : UInt8), (114 : UInt8), (32 : UInt8),
                          (116 : UInt8), (111 : UInt8), (111 : UInt8), (32 : UInt8), (103 : UInt8), (114 : UInt8), (101 : UInt8), (97 : UInt8), (116 : UInt8)],
                      ())
                else
                  if (t0 == (24 : Int)) = Bool.true then
                    Option.some
                      (ByteArray.mk
                          #[(97 : UInt8), (32 : UInt8), (110 : UInt8), (97 : UInt8), (109 : UInt8), (101 : UInt8), (32 : UInt8), (116 : UInt8), (111 : UInt8),
                            (111 : UInt8), (32 : UInt8), (108 : UInt8), (111 : UInt8), (110 : UInt8), (103 : UInt8)],
                        ())
                  else
                    if (t0 == (25 : Int)) = Bool.true then
                      Option.some
                        (ByteArray.mk
                            #[(97 : UInt8), (32 : UInt8), (116 : UInt8), (111 : UInt8), (107 : UInt8), (101 : UInt8), (110 : UInt8), (32 : UInt8), (116 : UInt8),
                              (104 : UInt8), (97 : UInt8), (116 : UInt8), (32 : UInt8), (99 : UInt8), (97 : UInt8), (110 : UInt8), (110 : UInt8), (111 : UInt8),
                              (116 : UInt8), (32 : UInt8), (98 : UInt8), (101 : UInt8), (32 : UInt8), (119 : UInt8), (114 : UInt8), (105 : UInt8), (116 : UInt8),
                              (116 : UInt8), (101 : UInt8), (110 : UInt8)],
                          ())
                    else
                      if (t0 == (30 : Int)) = Bool.true then
                        Option.some
                          (ByteArray.mk
                              #[(97 : UInt8), (32 : UInt8), (116 : UInt8), (111 : UInt8), (107 : UInt8), (101 : UInt8), (110 : UInt8), (32 : UInt8), (116 : UInt8),
                                (104 : UInt8), (97 : UInt8), (116 : UInt8), (32 : UInt8), (99 : UInt8), (97 : UInt8), (110 : UInt8), (110 : UInt8), (111 : UInt8),
                                (116 : UInt8), (32 : UInt8), (115 : UInt8), (116 : UInt8), (97 : UInt8), (110 : UInt8), (100 : UInt8), (32 : UInt8), (104 : UInt8),
                                (101 : UInt8), (114 : UInt8), (101 : UInt8)],
                            ())
                      else
                        if (t0 == (31 : Int)) = Bool.true then
                          Option.some
                            (ByteArray.mk
                                #[(110 : UInt8), (101 : UInt8), (115 : UInt8), (116 : UInt8), (101 : UInt8), (100 : UInt8), (32 : UInt8), (116 : UInt8),
                                  (111 : UInt8), (111 : UInt8), (32 : UInt8), (100 : UInt8), (101 : UInt8), (101 : UInt8), (112 : UInt8), (108 : UInt8),
                                  (121 : UInt8)],
                              ())
                        else
                          if (t0 == (32 : Int)) = Bool.true then
                            Option.some
                              (ByteArray.mk
                                  #[(97 : UInt8), (110 : UInt8), (32 : UInt8), (101 : UInt8), (120 : UInt8), (112 : UInt8), (114 : UInt8), (101 : UInt8),
                                    (115 : UInt8), (115 : UInt8), (105 : UInt8), (111 : UInt8), (110 : UInt8), (32 : UInt8), (116 : UInt8), (111 : UInt8),
                                    (111 : UInt8), (32 : UInt8), (108 : UInt8), (111 : UInt8), (110 : UInt8), (103 : UInt8)],
                                ())
                          else
                            if (t0 == (33 : Int)) = Bool.true then
                              Option.some
                                (ByteArray.mk
                                    #[(110 : UInt8), (111 : UInt8), (116 : UInt8), (32 : UInt8), (119 : UInt8), (101 : UInt8), (108 : UInt8), (108 : UInt8),
                                      (32 : UInt8), (102 : UInt8), (111 : UInt8), (114 : UInt8), (109 : UInt8), (101 : UInt8), (100 : UInt8)],
                                  ())
                            else
                              if (t0 == (50 : Int)) = Bool.true then
                                Option.some
                                  (ByteArray.mk
                                      #[(100 : UInt8), (101 : UInt8), (99 : UInt8), (108 : UInt8), (97 : UInt8), (114 : UInt8), (101 : UInt8), (100 : UInt8),
                                        (32 : UInt8), (116 : UInt8), (119 : UInt8), (105 : UInt8), (99 : UInt8), (101 : UInt8)],
                                    ())
                              else
                                if (t0 == (51 : Int)) = Bool.true then
                                  Option.some
                                    (ByteArray.mk
                                        #[(110 : UInt8), (111 : UInt8), (116 : UInt8), (32 : UInt8), (100 : UInt8), (101 : UInt8), (99 : UInt8), (108 : UInt8),
                                          (97 : UInt8), (114 : UInt8), (101 : UInt8), (100 : UInt8)],
                                      ())
                                else
                                  if (t0 == (52 : Int)) = Bool.true then
                                    Option.some
                                      (ByteArray.mk
                                          #[(97 : UInt8), (32 : UInt8), (110 : UInt8), (97 : UInt8), (109 : UInt8), (101 : UInt8), (32 : UInt8), (111 : UInt8),
                                            (102 : UInt8), (32 : UInt8), (97 : UInt8), (110 : UInt8), (111 : UInt8), (116 : UInt8), (104 : UInt8), (101 : UInt8),
                                            (114 : UInt8), (32 : UInt8), (107 : UInt8), (105 : UInt8), (110 : UInt8), (100 : UInt8)],
                                        ())
                                  else
                                    if (t0 == (53 : Int)) = Bool.true then
                                      Option.some
                                        (ByteArray.mk
                                            #[(97 : UInt8), (32 : UInt8), (110 : UInt8), (117 : UInt8), (109 : UInt8), (98 : UInt8), (101 : UInt8), (114 : UInt8),
                                              (32 : UInt8), (97 : UInt8), (110 : UInt8), (100 : UInt8), (32 : UInt8), (97 : UInt8), (32 : UInt8), (116 : UInt8),
                                              (114 : UInt8), (117 : UInt8), (116 : UInt8), (104 : UInt8), (32 : UInt8), (99 : UInt8), (111 : UInt8), (110 : UInt8),
                                              (102 : UInt8), (117 : UInt8), (115 : UInt8), (101 : UInt8), (100 : UInt8)],
                                          ())
                                    else
                                      if (t0 == (54 : Int)) = Bool.true then
                                        Option.some
                                          (ByteArray.mk
                                              #[(97 : UInt8), (32 : UInt8), (110 : UInt8), (117 : UInt8), (109 : UInt8), (98 : UInt8), (101 : UInt8), (114 : UInt8),
                                                (32 : UInt8), (111 : UInt8), (117 : UInt8), (116 : UInt8), (32 : UInt8), (111 : UInt8), (102 : UInt8), (32 : UInt8),
                                                (105 : UInt8), (116 : UInt8), (115 : UInt8), (32 : UInt8), (114 : UInt8), (97 : UInt8), (110 : UInt8),
                                                (103 : UInt8), (101 : UInt8)],
                                            ())
                                      else
                                        if (t0 == (55 : Int)) = Bool.true then
                                          Option.some
                                            (ByteArray.mk
                                                #[(116 : UInt8), (111 : UInt8), (111 : UInt8), (32 : UInt8), (109 : UInt8), (97 : UInt8), (110 : UInt8),
                                                  (121 : UInt8)],
                                              ())
                                        else
                                          if (t0 == (56 : Int)) = Bool.true then
                                            Option.some
                                              (ByteArray.mk
                                                  #[(110 : UInt8), (111 : UInt8), (116 : UInt8), (32 : UInt8), (106 : UInt8), (117 : UInt8), (115 : UInt8),
                                                    (116 : UInt8), (32 : UInt8), (111 : UInt8), (110 : UInt8), (101 : UInt8), (32 : UInt8), (115 : UInt8),
                                                    (116 : UInt8), (97 : UInt8), (114 : UInt8), (116 : UInt8)],
                                                ())
                                          else
                                            if (t0 == (57 : Int)) = Bool.true then
                                              Option.some
                                                (ByteArray.mk
                                                    #[(97 : UInt8), (32 : UInt8), (112 : UInt8), (97 : UInt8), (105 : UInt8), (114 : UInt8), (32 : UInt8),
                                                      (116 : UInt8), (104 : UInt8), (97 : UInt8), (116 : UInt8), (32 : UInt8), (109 : UInt8), (97 : UInt8),
                                                      (121 : UInt8), (32 : UInt8), (110 : UInt8), (111 : UInt8), (116 : UInt8), (32 : UInt8), (98 : UInt8),
                                                      (101 : UInt8)],
                                                  ())
                                            else
                                              if (t0 == (58 : Int)) = Bool.true then
                                                Option.some
                                                  (ByteArray.mk
                                                      #[(97 : UInt8), (32 : UInt8), (115 : UInt8), (116 : UInt8), (97 : UInt8), (103 : UInt8), (101 : UInt8),
                                                        (32 : UInt8), (116 : UInt8), (104 : UInt8), (97 : UInt8), (116 : UInt8), (32 : UInt8), (103 : UInt8),
                                                        (111 : UInt8), (101 : UInt8), (115 : UInt8), (32 : UInt8), (116 : UInt8), (111 : UInt8), (32 : UInt8),
                                                        (105 : UInt8), (116 : UInt8), (115 : UInt8), (101 : UInt8), (108 : UInt8), (102 : UInt8)],
                                                    ())
                                              else
                                                if (t0 == (59 : Int)) = Bool.true then
                                                  Option.some
                                                    (ByteArray.mk
                                                        #[(116 : UInt8), (111 : UInt8), (111 : UInt8), (32 : UInt8), (108 : UInt8), (97 : UInt8), (114 : UInt8),
                                                          (103 : UInt8), (101 : UInt8), (32 : UInt8), (119 : UInt8), (105 : UInt8), (116 : UInt8), (104 : UInt8),
                                                          (32 : UInt8), (105 : UInt8), (116 : UInt8), (115 : UInt8), (32 : UInt8), (99 : UInt8), (111 : UInt8),
                                                          (110 : UInt8), (100 : UInt8), (105 : UInt8), (116 : UInt8), (105 : UInt8), (111 : UInt8), (110 : UInt8),
                                                          (115 : UInt8), (32 : UInt8), (112 : UInt8), (117 : UInt8), (116 : UInt8), (32 : UInt8), (105 : UInt8),
                                                          (110 : UInt8)],
                                                      ())
                                                else
                                                  if (t0 == (60 : Int)) = Bool.true then
                                                    Option.some
                                                      (ByteArray.mk
                                                          #[(103 : UInt8), (114 : UInt8), (111 : UInt8), (117 : UInt8), (112 : UInt8), (115 : UInt8), (32 : UInt8),
                                                            (105 : UInt8), (110 : UInt8), (32 : UInt8), (99 : UInt8), (111 : UInt8), (110 : UInt8), (102 : UInt8),
                                                            (108 : UInt8), (105 : UInt8), (99 : UInt8), (116 : UInt8)],
                                                        ())
                                                  else
                                                    if (t0 == (61 : Int)) = Bool.true then
                                                      Option.some
                                                        (ByteArray.mk
                                                            #[(97 : UInt8), (110 : UInt8), (32 : UInt8), (105 : UInt8), (110 : UInt8), (116 : UInt8), (101 : UInt8),
                                                              (114 : UInt8), (103 : UInt8), (114 : UInt8), (101 : UInt8), (101 : UInt8), (110 : UInt8),
                                                              (32 : UInt8), (115 : UInt8), (104 : UInt8), (111 : UInt8), (114 : UInt8), (116 : UInt8),
                                                              (101 : UInt8), (114 : UInt8), (32 : UInt8), (116 : UInt8), (104 : UInt8), (97 : UInt8), (110 : UInt8),
                                                              (32 : UInt8), (116 : UInt8), (104 : UInt8), (101 : UInt8), (32 : UInt8), (97 : UInt8), (109 : UInt8),
                                                              (98 : UInt8), (101 : UInt8), (114 : UInt8)],
                                                          ())
                                                    else
                                                      if (t0 == (62 : Int)) = Bool.true then
                                                        Option.some
                                                          (ByteArray.mk
                                                              #[(97 : UInt8), (32 : UInt8), (109 : UInt8), (105 : UInt8), (110 : UInt8), (105 : UInt8),
                                                                (109 : UInt8), (117 : UInt8), (109 : UInt8), (32 : UInt8), (116 : UInt8), (111 : UInt8),
                                                                (111 : UInt8), (32 : UInt8), (115 : UInt8), (104 : UInt8), (111 : UInt8), (114 : UInt8),
                                                                (116 : UInt8)],
                                                            ())
                                                      else
                                                        if (t0 == (63 : Int)) = Bool.true then
                                                          Option.some
                                                            (ByteArray.mk
                                                                #[(97 : UInt8), (110 : UInt8), (32 : UInt8), (97 : UInt8), (109 : UInt8), (98 : UInt8),
                                                                  (101 : UInt8), (114 : UInt8), (32 : UInt8), (116 : UInt8), (111 : UInt8), (111 : UInt8),
                                                                  (32 : UInt8), (115 : UInt8), (104 : UInt8), (111 : UInt8), (114 : UInt8), (116 : UInt8)],
                                                              ())
                                                        else
                                                          if (t0 == (64 : Int)) = Bool.true then
                                                            Option.some
                                                              (ByteArray.mk
                                                                  #[(97 : UInt8), (32 : UInt8), (108 : UInt8), (101 : UInt8), (97 : UInt8), (100 : UInt8),
                                                                    (32 : UInt8), (116 : UInt8), (111 : UInt8), (111 : UInt8), (32 : UInt8), (108 : UInt8),
                                                                    (111 : UInt8), (110 : UInt8), (103 : UInt8)],
                                                                ())
                                                          else
                                                            if (t0 == (65 : Int)) = Bool.true then
                                                              Option.some
                                                                (ByteArray.mk
                                                                    #[(97 : UInt8), (32 : UInt8), (115 : UInt8), (116 : UInt8), (97 : UInt8), (103 : UInt8),
                                                                      (101 : UInt8), (32 : UInt8), (119 : UInt8), (105 : UInt8), (116 : UInt8), (104 : UInt8),
                                                                      (111 : UInt8), (117 : UInt8), (116 : UInt8), (32 : UInt8), (97 : UInt8), (32 : UInt8),
                                                                      (119 : UInt8), (97 : UInt8), (121 : UInt8), (32 : UInt8), (111 : UInt8), (117 : UInt8),
                                                                      (116 : UInt8)],
                                                                  ())
                                                            else Option.some (ByteArray.mk #[], ())
noncomputable def driver_words1.f (k : Nat) : dens driver_words1.i → Option (driver_words1.p.den × densB driver_words1.b) := fun d => driver_words1 k d.1
noncomputable def driver_words1.ctx (k : Nat) : Ctx κ := driver_words1.x k []
theorem driver_words1.xOk (k : Nat) : (driver_words1.ctx k).Ok := ctxOk trivial trivial
theorem driver_words1.call (k : Nat) : CallV Tryd.prog E glob 32 driver_words1.i driver_words1.p driver_words1.b (driver_words1.f k) :=
  fn_okZ (kindOf := kindOf) (C := driver_words1.ctx k) (n := .none) (driver_words1.xOk k) Tryd.func32 driver_words1.hb (fits_of (l := []) (by kernel_rfl) trivial) (fun _ => by kernel_rfl)
noncomputable def driver_words1.ent (k : Nat) : EntS κ := ⟨32, [], entOf driver_words1.i driver_words1.p driver_words1.b true (driver_words1.f k) E⟩
theorem driver_words1.entOk (k : Nat) : EntOk Tryd.prog E glob 32 (driver_words1.ent k).run := ent_free encOk (callable_of Tryd.func32 (by kernel_rfl) (by kernel_rfl)) (by rfl) trivial (driver_words1.call k)
noncomputable def driver_words1.qent (k : Nat) : QEntS κ := ⟨32, qentOf driver_words1.i driver_words1.p (driver_words1.f k) E⟩
theorem driver_words1.qentOk (k : Nat) : QEntOk Tryd.prog E glob 32 (driver_words1.qent k).run := qent_ok encOk (callable_of Tryd.func32 (by kernel_rfl) (by kernel_rfl)) (driver_words1.call k)
noncomputable def driver_words2.c : Go.Code := match Tryd.f33.body with | some c => c | none => .skip
theorem driver_words2.hb : Tryd.f33.body = some driver_words2.c := by kernel_rfl
noncomputable def driver_words2.x (k : Nat) (ls : List (LamS κ)) : Ctx κ := mkCtx [] [] ls
def driver_words2.i : List (Pat κ) := [.int .i64]
def driver_words2.p : Pat κ := .str
def driver_words2.b : List (BPat κ) := []
noncomputable def driver_words2 (k : Nat) (t0 : Int) : Option (ByteArray × Unit) :=
    if (t0 == (66 : Int)) = Bool.true then
      Option.some
        (ByteArray.mk
            #[(97 : UInt8), (32 : UInt8), (103 : UInt8), (114 : UInt8), (111 : UInt8), (117 : UInt8), (112 : UInt8), (32 : UInt8), (116 : UInt8), (104 : UInt8),
              (97 : UInt8), (116 : UInt8), (32 : UInt8), (105 : UInt8), (115 : UInt8), (32 : UInt8), (110 : UInt8), (101 : UInt8), (118 : UInt8), (101 : UInt8),
              (114 : UInt8), (32 : UInt8), (103 : UInt8), (114 : UInt8), (101 : UInt8), (101 : UInt8), (110 : UInt8)],
          ())
    else
      if (t0 == (67 : Int)) = Bool.true then
        Option.some
          (ByteArray.mk
              #[(97 : UInt8), (32 : UInt8), (109 : UInt8), (111 : UInt8), (118 : UInt8), (101 : UInt8), (32 : UInt8), (116 : UInt8), (111 : UInt8), (111 : UInt8),
                (32 : UInt8), (108 : UInt8), (111 : UInt8), (110 : UInt8), (103 : UInt8)],
            ())
      else
        if (t0 == (70 : Int)) = Bool.true then
          Option.some
            (ByteArray.mk
                #[(116 : UInt8), (97 : UInt8), (98 : UInt8), (108 : UInt8), (101 : UInt8), (115 : UInt8), (32 : UInt8), (110 : UInt8), (111 : UInt8), (116 : UInt8),
                  (32 : UInt8), (115 : UInt8), (111 : UInt8), (117 : UInt8), (110 : UInt8), (100 : UInt8)],
              ())
        else
          if (t0 == (71 : Int)) = Bool.true then
            Option.some
              (ByteArray.mk
                  #[(104 : UInt8), (101 : UInt8), (97 : UInt8), (100 : UInt8), (115 : UInt8), (32 : UInt8), (110 : UInt8), (111 : UInt8), (116 : UInt8),
                    (32 : UInt8), (111 : UInt8), (102 : UInt8), (32 : UInt8), (116 : UInt8), (104 : UInt8), (101 : UInt8), (32 : UInt8), (116 : UInt8),
                    (97 : UInt8), (98 : UInt8), (108 : UInt8), (101 : UInt8), (115 : UInt8)],
                ())
          else
            if (t0 == (80 : Int)) = Bool.true then
              Option.some
                (ByteArray.mk
                    #[(97 : UInt8), (32 : UInt8), (116 : UInt8), (121 : UInt8), (112 : UInt8), (101 : UInt8), (100 : UInt8), (32 : UInt8), (112 : UInt8),
                      (108 : UInt8), (97 : UInt8), (110 : UInt8), (32 : UInt8), (110 : UInt8), (111 : UInt8), (116 : UInt8), (32 : UInt8), (115 : UInt8),
                      (111 : UInt8), (117 : UInt8), (110 : UInt8), (100 : UInt8)],
                  ())
            else
              if (t0 == (81 : Int)) = Bool.true then
                Option.some
                  (ByteArray.mk
                      #[(97 : UInt8), (32 : UInt8), (115 : UInt8), (116 : UInt8), (97 : UInt8), (116 : UInt8), (101 : UInt8), (32 : UInt8), (110 : UInt8),
                        (111 : UInt8), (116 : UInt8), (32 : UInt8), (111 : UInt8), (102 : UInt8), (32 : UInt8), (116 : UInt8), (104 : UInt8), (101 : UInt8),
                        (32 : UInt8), (112 : UInt8), (108 : UInt8), (97 : UInt8), (110 : UInt8)],
                    ())
              else
                if (t0 == (82 : Int)) = Bool.true then
                  Option.some
                    (ByteArray.mk
                        #[(97 : UInt8), (110 : UInt8), (32 : UInt8), (101 : UInt8), (120 : UInt8), (112 : UInt8), (114 : UInt8), (101 : UInt8), (115 : UInt8),
                          (115 : UInt8), (105 : UInt8), (111 : UInt8), (110 : UInt8), (32 : UInt8), (110 : UInt8), (111 : UInt8), (116 : UInt8), (32 : UInt8),
                          (111 : UInt8), (102 : UInt8), (32 : UInt8), (116 : UInt8), (104 : UInt8), (101 : UInt8), (32 : UInt8), (112 : UInt8), (108 : UInt8),
                          (97 : UInt8), (110 : UInt8)],
                      ())
                else
                  if (t0 == (100 : Int)) = Bool.true then
                    Option.some
                      (ByteArray.mk
                          #[(97 : UInt8), (110 : UInt8), (32 : UInt8), (105 : UInt8), (109 : UInt8), (97 : UInt8), (103 : UInt8), (101 : UInt8), (32 : UInt8),
                            (110 : UInt8), (111 : UInt8), (116 : UInt8), (32 : UInt8), (119 : UInt8), (101 : UInt8), (108 : UInt8), (108 : UInt8), (32 : UInt8),
                            (102 : UInt8), (111 : UInt8), (114 : UInt8), (109 : UInt8), (101 : UInt8), (100 : UInt8)],
                        ())
                  else
                    if (t0 == (101 : Int)) = Bool.true then
                      Option.some
                        (ByteArray.mk #[(110 : UInt8), (111 : UInt8), (32 : UInt8), (105 : UInt8), (109 : UInt8), (97 : UInt8), (103 : UInt8), (101 : UInt8)], ())
                    else
                      if (t0 == (102 : Int)) = Bool.true then
                        Option.some
                          (ByteArray.mk
                              #[(97 : UInt8), (110 : UInt8), (111 : UInt8), (116 : UInt8), (104 : UInt8), (101 : UInt8), (114 : UInt8), (32 : UInt8), (118 : UInt8),
                                (101 : UInt8), (114 : UInt8), (115 : UInt8), (105 : UInt8), (111 : UInt8), (110 : UInt8)],
                            ())
                      else
                        if (t0 == (103 : Int)) = Bool.true then
                          Option.some (ByteArray.mk #[(99 : UInt8), (117 : UInt8), (116 : UInt8), (32 : UInt8), (111 : UInt8), (102 : UInt8), (102 : UInt8)], ())
                        else
                          if (t0 == (104 : Int)) = Bool.true then
                            Option.some
                              (ByteArray.mk
                                  #[(98 : UInt8), (121 : UInt8), (116 : UInt8), (101 : UInt8), (115 : UInt8), (32 : UInt8), (108 : UInt8), (101 : UInt8),
                                    (102 : UInt8), (116 : UInt8), (32 : UInt8), (111 : UInt8), (118 : UInt8), (101 : UInt8), (114 : UInt8)],
                                ())
                          else
                            if (t0 == (105 : Int)) = Bool.true then
                              Option.some
                                (ByteArray.mk
                                    #[(97 : UInt8), (32 : UInt8), (119 : UInt8), (114 : UInt8), (111 : UInt8), (110 : UInt8), (103 : UInt8), (32 : UInt8),
                                      (115 : UInt8), (117 : UInt8), (109 : UInt8)],
                                  ())
                            else
                              if (t0 == (106 : Int)) = Bool.true then
                                Option.some
                                  (ByteArray.mk
                                      #[(97 : UInt8), (32 : UInt8), (102 : UInt8), (105 : UInt8), (101 : UInt8), (108 : UInt8), (100 : UInt8), (32 : UInt8),
                                        (111 : UInt8), (117 : UInt8), (116 : UInt8), (32 : UInt8), (111 : UInt8), (102 : UInt8), (32 : UInt8), (105 : UInt8),
                                        (116 : UInt8), (115 : UInt8), (32 : UInt8), (114 : UInt8), (97 : UInt8), (110 : UInt8), (103 : UInt8), (101 : UInt8)],
                                    ())
                              else
                                if (t0 == (107 : Int)) = Bool.true then
                                  Option.some
                                    (ByteArray.mk
                                        #[(110 : UInt8), (111 : UInt8), (32 : UInt8), (104 : UInt8), (101 : UInt8), (120 : UInt8), (32 : UInt8), (114 : UInt8),
                                          (101 : UInt8), (99 : UInt8), (111 : UInt8), (114 : UInt8), (100 : UInt8), (115 : UInt8)],
                                      ())
                                else
                                  if (t0 == (110 : Int)) = Bool.true then
                                    Option.some (ByteArray.mk #[(102 : UInt8), (117 : UInt8), (108 : UInt8), (108 : UInt8)], ())
                                  else
                                    if (t0 == (120 : Int)) = Bool.true then
                                      Option.some
                                        (ByteArray.mk
                                            #[(110 : UInt8), (111 : UInt8), (32 : UInt8), (105 : UInt8), (110 : UInt8), (115 : UInt8), (116 : UInt8), (114 : UInt8),
                                              (117 : UInt8), (99 : UInt8), (116 : UInt8), (105 : UInt8), (111 : UInt8), (110 : UInt8)],
                                          ())
                                    else
                                      if (t0 == (121 : Int)) = Bool.true then
                                        Option.some
                                          (ByteArray.mk
                                              #[(97 : UInt8), (32 : UInt8), (119 : UInt8), (114 : UInt8), (111 : UInt8), (110 : UInt8), (103 : UInt8), (32 : UInt8),
                                                (106 : UInt8), (117 : UInt8), (109 : UInt8), (112 : UInt8)],
                                            ())
                                      else
                                        if (t0 == (122 : Int)) = Bool.true then
                                          Option.some
                                            (ByteArray.mk
                                                #[(97 : UInt8), (32 : UInt8), (119 : UInt8), (114 : UInt8), (111 : UInt8), (110 : UInt8), (103 : UInt8),
                                                  (32 : UInt8), (115 : UInt8), (116 : UInt8), (97 : UInt8), (99 : UInt8), (107 : UInt8)],
                                              ())
                                        else
                                          if (t0 == (123 : Int)) = Bool.true then
                                            Option.some
                                              (ByteArray.mk
                                                  #[(112 : UInt8), (97 : UInt8), (116 : UInt8), (104 : UInt8), (115 : UInt8), (32 : UInt8), (116 : UInt8),
                                                    (104 : UInt8), (97 : UInt8), (116 : UInt8), (32 : UInt8), (109 : UInt8), (101 : UInt8), (101 : UInt8),
                                                    (116 : UInt8), (32 : UInt8), (117 : UInt8), (110 : UInt8), (108 : UInt8), (105 : UInt8), (107 : UInt8),
                                                    (101 : UInt8)],
                                                ())
                                          else
                                            if (t0 == (124 : Int)) = Bool.true then
                                              Option.some
                                                (ByteArray.mk
                                                    #[(97 : UInt8), (32 : UInt8), (119 : UInt8), (114 : UInt8), (111 : UInt8), (110 : UInt8), (103 : UInt8),
                                                      (32 : UInt8), (105 : UInt8), (110 : UInt8), (100 : UInt8), (101 : UInt8), (120 : UInt8)],
                                                  ())
                                            else
                                              if (t0 == (125 : Int)) = Bool.true then
                                                Option.some
                                                  (ByteArray.mk #[(110 : UInt8), (111 : UInt8), (32 : UInt8), (101 : UInt8), (110 : UInt8), (100 : UInt8)], ())
                                              else
                                                if (t0 == (126 : Int)) = Bool.true then
                                                  Option.some
                                                    (ByteArray.mk
                                                        #[(110 : UInt8), (101 : UInt8), (118 : UInt8), (101 : UInt8), (114 : UInt8), (32 : UInt8), (114 : UInt8),
                                                          (101 : UInt8), (97 : UInt8), (99 : UInt8), (104 : UInt8), (101 : UInt8), (100 : UInt8)],
                                                      ())
                                                else
                                                  if (t0 == (127 : Int)) = Bool.true then
                                                    Option.some
                                                      (ByteArray.mk
                                                          #[(119 : UInt8), (114 : UInt8), (111 : UInt8), (110 : UInt8), (103 : UInt8), (32 : UInt8), (115 : UInt8),
                                                            (101 : UInt8), (99 : UInt8), (116 : UInt8), (105 : UInt8), (111 : UInt8), (110 : UInt8), (115 : UInt8)],
                                                        ())
                                                  else
                                                    if (t0 == (128 : Int)) = Bool.true then
                                                      Option.some
                                                        (ByteArray.mk
                                                            #[(97 : UInt8), (32 : UInt8), (112 : UInt8), (105 : UInt8), (99 : UInt8), (107 : UInt8), (32 : UInt8),
                                                              (111 : UInt8), (117 : UInt8), (116 : UInt8), (32 : UInt8), (111 : UInt8), (102 : UInt8), (32 : UInt8),
                                                              (112 : UInt8), (108 : UInt8), (97 : UInt8), (99 : UInt8), (101 : UInt8)],
                                                          ())
                                                    else
                                                      if (t0 == (129 : Int)) = Bool.true then
                                                        Option.some
                                                          (ByteArray.mk
                                                              #[(97 : UInt8), (110 : UInt8), (32 : UInt8), (111 : UInt8), (112 : UInt8), (101 : UInt8),
                                                                (114 : UInt8), (97 : UInt8), (110 : UInt8), (100 : UInt8), (32 : UInt8), (111 : UInt8),
                                                                (102 : UInt8), (32 : UInt8), (116 : UInt8), (104 : UInt8), (101 : UInt8), (32 : UInt8),
                                                                (119 : UInt8), (114 : UInt8), (111 : UInt8), (110 : UInt8), (103 : UInt8), (32 : UInt8),
                                                                (115 : UInt8), (111 : UInt8), (114 : UInt8), (116 : UInt8)],
                                                            ())
                                                      else
                                                        if (t0 == (140 : Int)) = Bool.true then
                                                          Option.some
                                                            (ByteArray.mk
                                                                #[(110 : UInt8), (111 : UInt8), (32 : UInt8), (116 : UInt8), (114 : UInt8), (97 : UInt8),
                                                                  (99 : UInt8), (101 : UInt8)],
                                                              ())
                                                        else
                                                          if (t0 == (141 : Int)) = Bool.true then
                                                            Option.some
                                                              (ByteArray.mk
                                                                  #[(110 : UInt8), (111 : UInt8), (32 : UInt8), (105 : UInt8), (110 : UInt8), (112 : UInt8),
                                                                    (117 : UInt8), (116 : UInt8), (115 : UInt8)],
                                                                ())
                                                          else
                                                            if (t0 == (150 : Int)) = Bool.true then
                                                              Option.some
                                                                (ByteArray.mk
                                                                    #[(97 : UInt8), (110 : UInt8), (32 : UInt8), (101 : UInt8), (110 : UInt8), (116 : UInt8),
                                                                      (114 : UInt8), (121 : UInt8), (32 : UInt8), (110 : UInt8), (111 : UInt8), (116 : UInt8),
                                                                      (32 : UInt8), (111 : UInt8), (102 : UInt8), (32 : UInt8), (116 : UInt8), (104 : UInt8),
                                                                      (101 : UInt8), (32 : UInt8), (116 : UInt8), (97 : UInt8), (98 : UInt8), (108 : UInt8),
                                                                      (101 : UInt8), (115 : UInt8)],
                                                                  ())
                                                            else Option.some (ByteArray.mk #[], ())
noncomputable def driver_words2.f (k : Nat) : dens driver_words2.i → Option (driver_words2.p.den × densB driver_words2.b) := fun d => driver_words2 k d.1
noncomputable def driver_words2.ctx (k : Nat) : Ctx κ := driver_words2.x k []
theorem driver_words2.xOk (k : Nat) : (driver_words2.ctx k).Ok := ctxOk trivial trivial
theorem driver_words2.call (k : Nat) : CallV Tryd.prog E glob 33 driver_words2.i driver_words2.p driver_words2.b (driver_words2.f k) :=
  fn_okZ (kindOf := kindOf) (C := driver_words2.ctx k) (n := .none) (driver_words2.xOk k) Tryd.func33 driver_words2.hb (fits_of (l := []) (by kernel_rfl) trivial) (fun _ => by kernel_rfl)
noncomputable def driver_words2.ent (k : Nat) : EntS κ := ⟨33, [], entOf driver_words2.i driver_words2.p driver_words2.b true (driver_words2.f k) E⟩
theorem driver_words2.entOk (k : Nat) : EntOk Tryd.prog E glob 33 (driver_words2.ent k).run := ent_free encOk (callable_of Tryd.func33 (by kernel_rfl) (by kernel_rfl)) (by rfl) trivial (driver_words2.call k)
noncomputable def driver_words2.qent (k : Nat) : QEntS κ := ⟨33, qentOf driver_words2.i driver_words2.p (driver_words2.f k) E⟩
theorem driver_words2.qentOk (k : Nat) : QEntOk Tryd.prog E glob 33 (driver_words2.qent k).run := qent_ok encOk (callable_of Tryd.func33 (by kernel_rfl) (by kernel_rfl)) (driver_words2.call k)
noncomputable def driver_words3.c : Go.Code := match Tryd.f34.body with | some c => c | none => .skip
theorem driver_words3.hb : Tryd.f34.body = some driver_words3.c := by kernel_rfl
noncomputable def driver_words3.x (k : Nat) (ls : List (LamS κ)) : Ctx κ := mkCtx [] [] ls
def driver_words3.i : List (Pat κ) := [.int .i64]
def driver_words3.p : Pat κ := .str
def driver_words3.b : List (BPat κ) := []
noncomputable def driver_words3 (k : Nat) (t0 : Int) : Option (ByteArray × Unit) :=
    if (t0 == (160 : Int)) = Bool.true then
      Option.some (ByteArray.mk #[(110 : UInt8), (111 : UInt8), (32 : UInt8), (102 : UInt8), (108 : UInt8), (97 : UInt8), (115 : UInt8), (104 : UInt8)], ())
    else
      if (t0 == (161 : Int)) = Bool.true then
        Option.some
          (ByteArray.mk
              #[(110 : UInt8), (111 : UInt8), (32 : UInt8), (115 : UInt8), (117 : UInt8), (99 : UInt8), (104 : UInt8), (32 : UInt8), (115 : UInt8), (108 : UInt8),
                (111 : UInt8), (116 : UInt8)],
            ())
      else
        if (t0 == (162 : Int)) = Bool.true then
          Option.some
            (ByteArray.mk
                #[(97 : UInt8), (110 : UInt8), (32 : UInt8), (101 : UInt8), (109 : UInt8), (112 : UInt8), (116 : UInt8), (121 : UInt8), (32 : UInt8), (115 : UInt8),
                  (108 : UInt8), (111 : UInt8), (116 : UInt8)],
              ())
        else
          if (t0 == (163 : Int)) = Bool.true then
            Option.some (ByteArray.mk #[(110 : UInt8), (111 : UInt8), (32 : UInt8), (114 : UInt8), (111 : UInt8), (111 : UInt8), (109 : UInt8)], ())
          else
            if (t0 == (164 : Int)) = Bool.true then
              Option.some
                (ByteArray.mk
                    #[(100 : UInt8), (97 : UInt8), (116 : UInt8), (97 : UInt8), (32 : UInt8), (116 : UInt8), (104 : UInt8), (97 : UInt8), (116 : UInt8),
                      (32 : UInt8), (99 : UInt8), (97 : UInt8), (110 : UInt8), (110 : UInt8), (111 : UInt8), (116 : UInt8), (32 : UInt8), (98 : UInt8),
                      (101 : UInt8), (32 : UInt8), (107 : UInt8), (101 : UInt8), (112 : UInt8), (116 : UInt8)],
                  ())
            else
              if (t0 == (165 : Int)) = Bool.true then
                Option.some (ByteArray.mk #[(105 : UInt8), (110 : UInt8), (32 : UInt8), (117 : UInt8), (115 : UInt8), (101 : UInt8)], ())
              else
                if (t0 == (166 : Int)) = Bool.true then
                  Option.some
                    (ByteArray.mk
                        #[(97 : UInt8), (110 : UInt8), (32 : UInt8), (97 : UInt8), (99 : UInt8), (116 : UInt8), (32 : UInt8), (116 : UInt8), (104 : UInt8),
                          (97 : UInt8), (116 : UInt8), (32 : UInt8), (99 : UInt8), (97 : UInt8), (110 : UInt8), (110 : UInt8), (111 : UInt8), (116 : UInt8),
                          (32 : UInt8), (98 : UInt8), (101 : UInt8), (32 : UInt8), (100 : UInt8), (111 : UInt8), (110 : UInt8), (101 : UInt8)],
                      ())
                else
                  if (t0 == (167 : Int)) = Bool.true then
                    Option.some
                      (ByteArray.mk #[(119 : UInt8), (111 : UInt8), (114 : UInt8), (110 : UInt8), (32 : UInt8), (111 : UInt8), (117 : UInt8), (116 : UInt8)], ())
                  else
                    if (t0 == (170 : Int)) = Bool.true then
                      Option.some
                        (ByteArray.mk #[(110 : UInt8), (111 : UInt8), (32 : UInt8), (102 : UInt8), (114 : UInt8), (97 : UInt8), (109 : UInt8), (101 : UInt8)], ())
                    else
                      if (t0 == (171 : Int)) = Bool.true then
                        Option.some
                          (ByteArray.mk
                              #[(97 : UInt8), (32 : UInt8), (119 : UInt8), (114 : UInt8), (111 : UInt8), (110 : UInt8), (103 : UInt8), (32 : UInt8), (115 : UInt8),
                                (117 : UInt8), (109 : UInt8)],
                            ())
                      else
                        if (t0 == (172 : Int)) = Bool.true then
                          Option.some
                            (ByteArray.mk
                                #[(110 : UInt8), (111 : UInt8), (116 : UInt8), (32 : UInt8), (115 : UInt8), (116 : UInt8), (117 : UInt8), (102 : UInt8),
                                  (102 : UInt8), (101 : UInt8), (100 : UInt8)],
                              ())
                        else
                          if (t0 == (173 : Int)) = Bool.true then
                            Option.some
                              (ByteArray.mk
                                  #[(110 : UInt8), (111 : UInt8), (32 : UInt8), (109 : UInt8), (101 : UInt8), (115 : UInt8), (115 : UInt8), (97 : UInt8),
                                    (103 : UInt8), (101 : UInt8)],
                                ())
                          else
                            if (t0 == (174 : Int)) = Bool.true then
                              Option.some
                                (ByteArray.mk
                                    #[(97 : UInt8), (32 : UInt8), (102 : UInt8), (117 : UInt8), (108 : UInt8), (108 : UInt8), (32 : UInt8), (113 : UInt8),
                                      (117 : UInt8), (101 : UInt8), (117 : UInt8), (101 : UInt8)],
                                  ())
                            else
                              if (t0 == (180 : Int)) = Bool.true then
                                Option.some
                                  (ByteArray.mk
                                      #[(116 : UInt8), (111 : UInt8), (111 : UInt8), (32 : UInt8), (108 : UInt8), (111 : UInt8), (110 : UInt8), (103 : UInt8)],
                                    ())
                              else
                                if (t0 == (181 : Int)) = Bool.true then
                                  Option.some
                                    (ByteArray.mk
                                        #[(97 : UInt8), (32 : UInt8), (108 : UInt8), (105 : UInt8), (110 : UInt8), (101 : UInt8), (32 : UInt8), (116 : UInt8),
                                          (104 : UInt8), (97 : UInt8), (116 : UInt8), (32 : UInt8), (105 : UInt8), (115 : UInt8), (32 : UInt8), (110 : UInt8),
                                          (111 : UInt8), (110 : UInt8), (101 : UInt8)],
                                      ())
                                else
                                  if (t0 == (182 : Int)) = Bool.true then
                                    Option.some
                                      (ByteArray.mk #[(110 : UInt8), (111 : UInt8), (32 : UInt8), (100 : UInt8), (97 : UInt8), (116 : UInt8), (101 : UInt8)], ())
                                  else
                                    if (t0 == (183 : Int)) = Bool.true then
                                      Option.some
                                        (ByteArray.mk
                                            #[(110 : UInt8), (111 : UInt8), (32 : UInt8), (116 : UInt8), (105 : UInt8), (109 : UInt8), (101 : UInt8), (32 : UInt8),
                                              (111 : UInt8), (102 : UInt8), (32 : UInt8), (100 : UInt8), (97 : UInt8), (121 : UInt8)],
                                          ())
                                    else
                                      if (t0 == (184 : Int)) = Bool.true then
                                        Option.some
                                          (ByteArray.mk
                                              #[(110 : UInt8), (111 : UInt8), (32 : UInt8), (115 : UInt8), (117 : UInt8), (99 : UInt8), (104 : UInt8), (32 : UInt8),
                                                (107 : UInt8), (105 : UInt8), (110 : UInt8), (100 : UInt8), (32 : UInt8), (111 : UInt8), (102 : UInt8),
                                                (32 : UInt8), (100 : UInt8), (97 : UInt8), (121 : UInt8)],
                                            ())
                                      else
                                        if (t0 == (185 : Int)) = Bool.true then
                                          Option.some (ByteArray.mk #[(116 : UInt8), (119 : UInt8), (105 : UInt8), (99 : UInt8), (101 : UInt8)], ())
                                        else
                                          if (t0 == (186 : Int)) = Bool.true then
                                            Option.some
                                              (ByteArray.mk
                                                  #[(111 : UInt8), (117 : UInt8), (116 : UInt8), (32 : UInt8), (111 : UInt8), (102 : UInt8), (32 : UInt8),
                                                    (111 : UInt8), (114 : UInt8), (100 : UInt8), (101 : UInt8), (114 : UInt8)],
                                                ())
                                          else
                                            if (t0 == (187 : Int)) = Bool.true then
                                              Option.some
                                                (ByteArray.mk
                                                    #[(116 : UInt8), (111 : UInt8), (111 : UInt8), (32 : UInt8), (109 : UInt8), (97 : UInt8), (110 : UInt8),
                                                      (121 : UInt8)],
                                                  ())
                                            else
                                              if (t0 == (188 : Int)) = Bool.true then
                                                Option.some
                                                  (ByteArray.mk
                                                      #[(115 : UInt8), (111 : UInt8), (109 : UInt8), (101 : UInt8), (116 : UInt8), (104 : UInt8), (105 : UInt8),
                                                        (110 : UInt8), (103 : UInt8), (32 : UInt8), (105 : UInt8), (115 : UInt8), (32 : UInt8), (109 : UInt8),
                                                        (105 : UInt8), (115 : UInt8), (115 : UInt8), (105 : UInt8), (110 : UInt8), (103 : UInt8)],
                                                    ())
                                              else
                                                if (t0 == (189 : Int)) = Bool.true then
                                                  Option.some
                                                    (ByteArray.mk
                                                        #[(111 : UInt8), (117 : UInt8), (116 : UInt8), (115 : UInt8), (105 : UInt8), (100 : UInt8), (101 : UInt8),
                                                          (32 : UInt8), (116 : UInt8), (104 : UInt8), (101 : UInt8), (32 : UInt8), (99 : UInt8), (97 : UInt8),
                                                          (108 : UInt8), (101 : UInt8), (110 : UInt8), (100 : UInt8), (97 : UInt8), (114 : UInt8)],
                                                      ())
                                                else
                                                  if (t0 == (190 : Int)) = Bool.true then
                                                    Option.some
                                                      (ByteArray.mk
                                                          #[(110 : UInt8), (111 : UInt8), (32 : UInt8), (99 : UInt8), (111 : UInt8), (109 : UInt8), (109 : UInt8),
                                                            (97 : UInt8), (110 : UInt8), (100 : UInt8)],
                                                        ())
                                                  else
                                                    if (t0 == (191 : Int)) = Bool.true then
                                                      Option.some
                                                        (ByteArray.mk
                                                            #[(97 : UInt8), (32 : UInt8), (119 : UInt8), (114 : UInt8), (111 : UInt8), (110 : UInt8), (103 : UInt8),
                                                              (32 : UInt8), (97 : UInt8), (114 : UInt8), (103 : UInt8), (117 : UInt8), (109 : UInt8), (101 : UInt8),
                                                              (110 : UInt8), (116 : UInt8)],
                                                          ())
                                                    else
                                                      if (t0 == (192 : Int)) = Bool.true then
                                                        Option.some (ByteArray.mk #[(111 : UInt8), (102 : UInt8), (102 : UInt8)], ())
                                                      else
                                                        if (t0 == (193 : Int)) = Bool.true then
                                                          Option.some
                                                            (ByteArray.mk
                                                                #[(97 : UInt8), (32 : UInt8), (119 : UInt8), (114 : UInt8), (111 : UInt8), (110 : UInt8),
                                                                  (103 : UInt8), (32 : UInt8), (117 : UInt8), (112 : UInt8), (108 : UInt8), (111 : UInt8),
                                                                  (97 : UInt8), (100 : UInt8)],
                                                              ())
                                                        else
                                                          if (t0 == (194 : Int)) = Bool.true then
                                                            Option.some
                                                              (ByteArray.mk
                                                                  #[(114 : UInt8), (101 : UInt8), (102 : UInt8), (117 : UInt8), (115 : UInt8), (101 : UInt8),
                                                                    (100 : UInt8)],
                                                                ())
                                                          else Option.some (ByteArray.mk #[], ())
noncomputable def driver_words3.f (k : Nat) : dens driver_words3.i → Option (driver_words3.p.den × densB driver_words3.b) := fun d => driver_words3 k d.1
noncomputable def driver_words3.ctx (k : Nat) : Ctx κ := driver_words3.x k []
theorem driver_words3.xOk (k : Nat) : (driver_words3.ctx k).Ok := ctxOk trivial trivial
theorem driver_words3.call (k : Nat) : CallV Tryd.prog E glob 34 driver_words3.i driver_words3.p driver_words3.b (driver_words3.f k) :=
  fn_okZ (kindOf := kindOf) (C := driver_words3.ctx k) (n := .none) (driver_words3.xOk k) Tryd.func34 driver_words3.hb (fits_of (l := []) (by kernel_rfl) trivial) (fun _ => by kernel_rfl)
noncomputable def driver_words3.ent (k : Nat) : EntS κ := ⟨34, [], entOf driver_words3.i driver_words3.p driver_words3.b true (driver_words3.f k) E⟩
theorem driver_words3.entOk (k : Nat) : EntOk Tryd.prog E glob 34 (driver_words3.ent k).run := ent_free encOk (callable_of Tryd.func34 (by kernel_rfl) (by kernel_rfl)) (by rfl) trivial (driver_words3.call k)
noncomputable def driver_words3.qent (k : Nat) : QEntS κ := ⟨34, qentOf driver_words3.i driver_words3.p (driver_words3.f k) E⟩
theorem driver_words3.qentOk (k : Nat) : QEntOk Tryd.prog E glob 34 (driver_words3.qent k).run := qent_ok encOk (callable_of Tryd.func34 (by kernel_rfl) (by kernel_rfl)) (driver_words3.call k)
noncomputable def driver_wordsOf.c : Go.Code := match Tryd.f19.body with | some c => c | none => .skip
theorem driver_wordsOf.hb : Tryd.f19.body = some driver_wordsOf.c := by kernel_rfl
noncomputable def driver_wordsOf.x (k : Nat) (ls : List (LamS κ)) : Ctx κ := mkCtx [driver_words1.ent k, driver_words2.ent k, driver_words3.ent k] [driver_words1.qent k, driver_words2.qent k, driver_words3.qent k] ls
def driver_wordsOf.i : List (Pat κ) := [.int .i64]
def driver_wordsOf.p : Pat κ := .str
def driver_wordsOf.b : List (BPat κ) := []
noncomputable def driver_wordsOf (k : Nat) (t0 : Int) : Option (ByteArray × Unit) :=
    Option.bind (Go.Am.Tryd.driver_words1 k t0) fun r0 =>
      Option.bind (Go.Am.Tryd.driver_words2 k t0) fun r1 =>
        Go.Am.tooLong (ByteArray.size (Prod.fst r0) + ByteArray.size (Prod.fst r1))
          (Option.bind (Go.Am.Tryd.driver_words3 k t0) fun r2 =>
            Go.Am.tooLong (ByteArray.size (Prod.fst r0 ++ Prod.fst r1) + ByteArray.size (Prod.fst r2))
              (Option.some (Prod.fst r0 ++ Prod.fst r1 ++ Prod.fst r2, ())))
noncomputable def driver_wordsOf.f (k : Nat) : dens driver_wordsOf.i → Option (driver_wordsOf.p.den × densB driver_wordsOf.b) := fun d => driver_wordsOf k d.1
noncomputable def driver_wordsOf.ctx (k : Nat) : Ctx κ := driver_wordsOf.x k []
theorem driver_wordsOf.xOk (k : Nat) : (driver_wordsOf.ctx k).Ok := ctxOk ⟨driver_words1.entOk k, driver_words2.entOk k, driver_words3.entOk k, trivial⟩ ⟨driver_words1.qentOk k, driver_words2.qentOk k, driver_words3.qentOk k, trivial⟩
theorem driver_wordsOf.call (k : Nat) : CallV Tryd.prog E glob 19 driver_wordsOf.i driver_wordsOf.p driver_wordsOf.b (driver_wordsOf.f k) :=
  fn_okZ (kindOf := kindOf) (C := driver_wordsOf.ctx k) (n := .none) (driver_wordsOf.xOk k) Tryd.func19 driver_wordsOf.hb (fits_of (l := []) (by kernel_rfl) trivial) (fun _ => by kernel_rfl)
noncomputable def driver_wordsOf.ent (k : Nat) : EntS κ := ⟨19, [], entOf driver_wordsOf.i driver_wordsOf.p driver_wordsOf.b true (driver_wordsOf.f k) E⟩
theorem driver_wordsOf.entOk (k : Nat) : EntOk Tryd.prog E glob 19 (driver_wordsOf.ent k).run := ent_free encOk (callable_of Tryd.func19 (by kernel_rfl) (by kernel_rfl)) (by rfl) trivial (driver_wordsOf.call k)
noncomputable def driver_wordsOf.qent (k : Nat) : QEntS κ := ⟨19, qentOf driver_wordsOf.i driver_wordsOf.p (driver_wordsOf.f k) E⟩
theorem driver_wordsOf.qentOk (k : Nat) : QEntOk Tryd.prog E glob 19 (driver_wordsOf.qent k).run := qent_ok encOk (callable_of Tryd.func19 (by kernel_rfl) (by kernel_rfl)) (driver_wordsOf.call k)
noncomputable def driver_Phase.c : Go.Code := match Tryd.f9.body with | some c => c | none => .skip
theorem driver_Phase.hb : Tryd.f9.body = some driver_Phase.c := by kernel_rfl
noncomputable def driver_Phase.x (k : Nat) (ls : List (LamS κ)) : Ctx κ := mkCtx [driver_wordsOf.ent k] [driver_wordsOf.qent k] ls
def driver_Phase.i : List (Pat κ) := [.agg [.int .i64, .int .i64, .int .i64]]
def driver_Phase.p : Pat κ := .str
def driver_Phase.b : List (BPat κ) := []
noncomputable def driver_Phase (k : Nat) (t0 : Int) (t0_1 : Int) (t0_2 : Int) : Option (ByteArray × Unit) :=
    if (t0 == (0 : Int)) = Bool.true then Option.some (ByteArray.mk #[(111 : UInt8), (107 : UInt8)], ())
    else
      Option.bind (Go.Am.Tryd.driver_wordsOf k t0) fun r0 =>
        if (ByteArray.toList (Prod.fst r0) == ByteArray.toList (ByteArray.mk #[])) = Bool.true then
          Option.some (ByteArray.mk #[(117 : UInt8), (110 : UInt8), (107 : UInt8), (110 : UInt8), (111 : UInt8), (119 : UInt8), (110 : UInt8)], ())
        else
          if (0 : Int) ≤ Go.Am.quo Go.IntKind.i64 t0 (10 : Int) ∧ Go.Am.quo Go.IntKind.i64 t0 (10 : Int) < (↑(20 : Nat) : Int) then
            Option.some (List.getD Go.Am.Tryd.tab0 (Int.toNat (Go.Am.quo Go.IntKind.i64 t0 (10 : Int))) ByteArray.empty, ())
          else Option.none
noncomputable def driver_Phase.f (k : Nat) : dens driver_Phase.i → Option (driver_Phase.p.den × densB driver_Phase.b) := fun d => driver_Phase k d.1.1 d.1.2.1 d.1.2.2.1
noncomputable def driver_Phase.ctx (k : Nat) : Ctx κ := driver_Phase.x k []
theorem driver_Phase.xOk (k : Nat) : (driver_Phase.ctx k).Ok := ctxOk ⟨driver_wordsOf.entOk k, trivial⟩ ⟨driver_wordsOf.qentOk k, trivial⟩
theorem driver_Phase.call (k : Nat) : CallV Tryd.prog E glob 9 driver_Phase.i driver_Phase.p driver_Phase.b (driver_Phase.f k) :=
  fn_okZ (kindOf := kindOf) (C := driver_Phase.ctx k) (n := (.pair (.ops [0] 0) .none)) (driver_Phase.xOk k) Tryd.func9 driver_Phase.hb (fits_of (l := []) (by kernel_rfl) trivial) (fun _ => by kernel_rfl)
noncomputable def driver_Phase.ent (k : Nat) : EntS κ := ⟨9, [], entOf driver_Phase.i driver_Phase.p driver_Phase.b true (driver_Phase.f k) E⟩
theorem driver_Phase.entOk (k : Nat) : EntOk Tryd.prog E glob 9 (driver_Phase.ent k).run := ent_free encOk (callable_of Tryd.func9 (by kernel_rfl) (by kernel_rfl)) (by rfl) trivial (driver_Phase.call k)
noncomputable def driver_Phase.qent (k : Nat) : QEntS κ := ⟨9, qentOf driver_Phase.i driver_Phase.p (driver_Phase.f k) E⟩
theorem driver_Phase.qentOk (k : Nat) : QEntOk Tryd.prog E glob 9 (driver_Phase.qent k).run := qent_ok encOk (callable_of Tryd.func9 (by kernel_rfl) (by kernel_rfl)) (driver_Phase.call k)
noncomputable def driver_Report.c : Go.Code := match Tryd.f14.body with | some c => c | none => .skip
theorem driver_Report.hb : Tryd.f14.body = some driver_Report.c := by kernel_rfl
noncomputable def driver_Report.x (k : Nat) (ls : List (LamS κ)) : Ctx κ := mkCtx [strconv_Itoa.ent k, driver_wordsOf.ent k, driver_Phase.ent k] [strconv_Itoa.qent k, driver_wordsOf.qent k, driver_Phase.qent k] ls
def driver_Report.i : List (Pat κ) := [.agg [.int .i64, .int .i64, .int .i64]]
def driver_Report.s0 : Sh κ := ⟨0, [1, 3], [.rop [.int .i64, .int .i64, .int .i64], .str], []⟩
def driver_Report.o0 : List (Ex × Sh κ) := [(.normal, ⟨0, [3], [.str], []⟩)]
noncomputable def driver_Report.l0 (k : Nat) (t1 : Int) (t1_1 : Int) (t1_2 : Int) (t3 : ByteArray) : Option ((ByteArray × Unit) × Unit) :=
    if
        Go.Program.eqGuardType (Go.Am.Ctx.P (Go.Am.Tryd.driver_Report.x k [])) (Go.Program.depth (Go.Am.Ctx.P (Go.Am.Tryd.driver_Report.x k []))) (24 : Nat) =
            Bool.false ∧
          Go.Program.stoodInHeld (Go.Am.Ctx.P (Go.Am.Tryd.driver_Report.x k [])) (24 : Nat) = Bool.false then
      if (!(t1_1 == (0 : Int) && (t1_2 == (0 : Int) && Bool.true))) = Bool.true then
        Option.bind (Go.Am.Tryd.strconv_Itoa k t1_1) fun r0 =>
          Go.Am.tooLong (ByteArray.size (Prod.fst r0) + ByteArray.size (ByteArray.mk #[(58 : UInt8)]))
            (Option.bind (Go.Am.Tryd.strconv_Itoa k t1_2) fun r1 =>
              Go.Am.tooLong (ByteArray.size (Prod.fst r0 ++ ByteArray.mk #[(58 : UInt8)]) + ByteArray.size (Prod.fst r1))
                (Go.Am.tooLong
                  (ByteArray.size (Prod.fst r0 ++ ByteArray.mk #[(58 : UInt8)] ++ Prod.fst r1) + ByteArray.size (ByteArray.mk #[(58 : UInt8), (32 : UInt8)]))
                  (Option.some ((Prod.fst r0 ++ ByteArray.mk #[(58 : UInt8)] ++ Prod.fst r1 ++ ByteArray.mk #[(58 : UInt8), (32 : UInt8)], ()), ()))))
      else Option.some ((t3, ()), ())
    else Option.none
def driver_Report.w0 : List Nat := [8, 9, 10, 11, 12, 13, 14, 15, 16, 17, 18, 19, 20, 21, 22, 3]
noncomputable def driver_Report.e0 (k : Nat) : driver_Report.s0.den → Option (OutT driver_Report.o0) := fun d => driver_Report.l0 k d.1.1.1 d.1.1.2.1 d.1.1.2.2.1 d.1.2.1
noncomputable def driver_Report.m0 (k : Nat) : LamS κ := ⟨lamK 39 driver_Report.w0 driver_Report.s0 driver_Report.o0 (driver_Report.e0 k)⟩
def driver_Report.s1 : Sh κ := ⟨0, [1, 4], [.rop [.int .i64, .int .i64, .int .i64], .str], []⟩
def driver_Report.o1 : List (Ex × Sh κ) := [(.normal, ⟨0, [4], [.str], []⟩)]
noncomputable def driver_Report.l1 (k : Nat) (t1 : Int) (t1_1 : Int) (t1_2 : Int) (t4 : ByteArray) : Option ((ByteArray × Unit) × Unit) :=
    if (ByteArray.toList t4 == ByteArray.toList (ByteArray.mk #[])) = Bool.true then
      Option.bind (Go.Am.Tryd.strconv_Itoa k t1) fun r0 =>
        Go.Am.tooLong
          (ByteArray.size (ByteArray.mk #[(101 : UInt8), (114 : UInt8), (114 : UInt8), (111 : UInt8), (114 : UInt8), (32 : UInt8)]) + ByteArray.size (Prod.fst r0))
          (Option.some ((ByteArray.mk #[(101 : UInt8), (114 : UInt8), (114 : UInt8), (111 : UInt8), (114 : UInt8), (32 : UInt8)] ++ Prod.fst r0, ()), ()))
    else Option.some ((t4, ()), ())
def driver_Report.w1 : List Nat := [26, 27, 28, 29, 30, 31, 4]
noncomputable def driver_Report.e1 (k : Nat) : driver_Report.s1.den → Option (OutT driver_Report.o1) := fun d => driver_Report.l1 k d.1.1.1 d.1.1.2.1 d.1.1.2.2.1 d.1.2.1
noncomputable def driver_Report.m1 (k : Nat) : LamS κ := ⟨lamK 39 driver_Report.w1 driver_Report.s1 driver_Report.o1 (driver_Report.e1 k)⟩
def driver_Report.p : Pat κ := .str
def driver_Report.b : List (BPat κ) := []
noncomputable def driver_Report (k : Nat) (t0 : Int) (t0_1 : Int) (t0_2 : Int) : Option (ByteArray × Unit) :=
    if (t0 == (0 : Int)) = Bool.true then Option.some (ByteArray.mk #[(111 : UInt8), (107 : UInt8)], ())
    else
      Option.bind (Go.Am.Tryd.driver_Report.l0 k t0 t0_1 t0_2 (ByteArray.mk #[])) fun r0 =>
        Option.bind (Go.Am.Tryd.driver_wordsOf k t0) fun r1 =>
          Option.bind (Go.Am.Tryd.driver_Report.l1 k t0 t0_1 t0_2 (Prod.fst r1)) fun r2 =>
            Option.bind (Go.Am.Tryd.driver_Phase k t0 t0_1 t0_2) fun r3 =>
              Go.Am.tooLong (ByteArray.size (Prod.fst (Prod.fst r0)) + ByteArray.size (Prod.fst r3))
                (Go.Am.tooLong (ByteArray.size (Prod.fst (Prod.fst r0) ++ Prod.fst r3) + ByteArray.size (ByteArray.mk #[(58 : UInt8), (32 : UInt8)]))
                  (Go.Am.tooLong
                    (ByteArray.size (Prod.fst (Prod.fst r0) ++ Prod.fst r3 ++ ByteArray.mk #[(58 : UInt8), (32 : UInt8)]) + ByteArray.size (Prod.fst (Prod.fst r2)))
                    (Option.some (Prod.fst (Prod.fst r0) ++ Prod.fst r3 ++ ByteArray.mk #[(58 : UInt8), (32 : UInt8)] ++ Prod.fst (Prod.fst r2), ()))))
noncomputable def driver_Report.f (k : Nat) : dens driver_Report.i → Option (driver_Report.p.den × densB driver_Report.b) := fun d => driver_Report k d.1.1 d.1.2.1 d.1.2.2.1
noncomputable def driver_Report.ctx (k : Nat) : Ctx κ := driver_Report.x k [driver_Report.m0 k, driver_Report.m1 k]
theorem driver_Report.xOk (k : Nat) : (driver_Report.ctx k).Ok := ctxOk ⟨strconv_Itoa.entOk k, driver_wordsOf.entOk k, driver_Phase.entOk k, trivial⟩ ⟨strconv_Itoa.qentOk k, driver_wordsOf.qentOk k, driver_Phase.qentOk k, trivial⟩
theorem driver_Report.k0 (k : Nat) : LamOk (driver_Report.ctx k) ((driver_Report.ctx k).Λ 0) (sub [1, 1, 1, 0] driver_Report.c) :=
  cut_ok (kindOf := kindOf) (C := driver_Report.ctx k) (n := (.pair .none (.pair (.ops [] 12) .none))) (L := driver_Report.e0 k) (driver_Report.xOk k) (by kernel_rfl) (by kernel_rfl) (fits_of (l := []) (by kernel_rfl) trivial) (fun _ => by kernel_rfl)
theorem driver_Report.k1 (k : Nat) : LamOk (driver_Report.ctx k) ((driver_Report.ctx k).Λ 1) (sub [1, 1, 1, 1, 1, 0] driver_Report.c) :=
  cut_ok (kindOf := kindOf) (C := driver_Report.ctx k) (n := .none) (L := driver_Report.e1 k) (driver_Report.xOk k) (by kernel_rfl) (by kernel_rfl) (fits_of (l := []) (by kernel_rfl) trivial) (fun _ => by kernel_rfl)
theorem driver_Report.call (k : Nat) : CallV Tryd.prog E glob 14 driver_Report.i driver_Report.p driver_Report.b (driver_Report.f k) :=
  fn_okZ (kindOf := kindOf) (C := driver_Report.ctx k) (n := (.pair (.ops [0] 0) (.pair .none (.pair .none (.pair (.cut 0) (.pair .none (.pair (.cut 1) .none))))))) (driver_Report.xOk k) Tryd.func14 driver_Report.hb (fits_of (l := [(0, (sub [1, 1, 1, 0] driver_Report.c)), (1, (sub [1, 1, 1, 1, 1, 0] driver_Report.c))]) (by kernel_rfl) ⟨driver_Report.k0 k, driver_Report.k1 k, trivial⟩) (fun _ => by kernel_rfl)
noncomputable def driver_Report.ent (k : Nat) : EntS κ := ⟨14, [], entOf driver_Report.i driver_Report.p driver_Report.b true (driver_Report.f k) E⟩
theorem driver_Report.entOk (k : Nat) : EntOk Tryd.prog E glob 14 (driver_Report.ent k).run := ent_free encOk (callable_of Tryd.func14 (by kernel_rfl) (by kernel_rfl)) (by rfl) trivial (driver_Report.call k)
noncomputable def driver_Report.qent (k : Nat) : QEntS κ := ⟨14, qentOf driver_Report.i driver_Report.p (driver_Report.f k) E⟩
theorem driver_Report.qentOk (k : Nat) : QEntOk Tryd.prog E glob 14 (driver_Report.qent k).run := qent_ok encOk (callable_of Tryd.func14 (by kernel_rfl) (by kernel_rfl)) (driver_Report.call k)
noncomputable def junctionref14_saying1.c : Go.Code := match Tryd.f35.body with | some c => c | none => .skip
theorem junctionref14_saying1.hb : Tryd.f35.body = some junctionref14_saying1.c := by kernel_rfl
noncomputable def junctionref14_saying1.x (k : Nat) (ls : List (LamS κ)) : Ctx κ := mkCtx [] [] ls
def junctionref14_saying1.i : List (Pat κ) := [.int .i64]
def junctionref14_saying1.p : Pat κ := .tup [.str, .bool]
def junctionref14_saying1.b : List (BPat κ) := []
noncomputable def junctionref14_saying1 (k : Nat) (t0 : Int) : Option ((ByteArray × Bool × Unit) × Unit) :=
    if (t0 == (10 : Int)) = Bool.true then
      Option.some
        ((ByteArray.mk
              #[(110 : UInt8), (111 : UInt8), (32 : UInt8), (115 : UInt8), (117 : UInt8), (99 : UInt8), (104 : UInt8), (32 : UInt8), (111 : UInt8), (112 : UInt8),
                (101 : UInt8), (114 : UInt8), (97 : UInt8), (116 : UInt8), (111 : UInt8), (114 : UInt8)],
            Bool.true, ()),
          ())
    else
      if (t0 == (11 : Int)) = Bool.true then
        Option.some
          ((ByteArray.mk #[(110 : UInt8), (111 : UInt8), (32 : UInt8), (110 : UInt8), (117 : UInt8), (109 : UInt8), (98 : UInt8), (101 : UInt8), (114 : UInt8)],
              Bool.true, ()),
            ())
      else
        if (t0 == (12 : Int)) = Bool.true then
          Option.some
            ((ByteArray.mk
                  #[(110 : UInt8), (111 : UInt8), (32 : UInt8), (115 : UInt8), (117 : UInt8), (99 : UInt8), (104 : UInt8), (32 : UInt8), (109 : UInt8),
                    (101 : UInt8), (109 : UInt8), (98 : UInt8), (101 : UInt8), (114 : UInt8)],
                Bool.true, ()),
              ())
        else
          if (t0 == (20 : Int)) = Bool.true then
            Option.some
              ((ByteArray.mk #[(116 : UInt8), (111 : UInt8), (111 : UInt8), (32 : UInt8), (108 : UInt8), (111 : UInt8), (110 : UInt8), (103 : UInt8)], Bool.true,
                  ()),
                ())
          else
            if (t0 == (21 : Int)) = Bool.true then
              Option.some
                ((ByteArray.mk
                      #[(97 : UInt8), (32 : UInt8), (98 : UInt8), (121 : UInt8), (116 : UInt8), (101 : UInt8), (32 : UInt8), (116 : UInt8), (104 : UInt8),
                        (97 : UInt8), (116 : UInt8), (32 : UInt8), (98 : UInt8), (101 : UInt8), (103 : UInt8), (105 : UInt8), (110 : UInt8), (115 : UInt8),
                        (32 : UInt8), (110 : UInt8), (111 : UInt8), (116 : UInt8), (104 : UInt8), (105 : UInt8), (110 : UInt8), (103 : UInt8)],
                    Bool.true, ()),
                  ())
            else
              if (t0 == (22 : Int)) = Bool.true then
                Option.some
                  ((ByteArray.mk
                        #[(97 : UInt8), (32 : UInt8), (110 : UInt8), (117 : UInt8), (109 : UInt8), (98 : UInt8), (101 : UInt8), (114 : UInt8), (32 : UInt8),
                          (111 : UInt8), (102 : UInt8), (32 : UInt8), (97 : UInt8), (32 : UInt8), (119 : UInt8), (114 : UInt8), (111 : UInt8), (110 : UInt8),
                          (103 : UInt8), (32 : UInt8), (102 : UInt8), (111 : UInt8), (114 : UInt8), (109 : UInt8)],
                      Bool.true, ()),
                    ())
              else
                if (t0 == (23 : Int)) = Bool.true then
                  Option.some
                    ((ByteArray.mk
                          #[(97 : UInt8), (32 : UInt8), (110 : UInt8), (117 : UInt8), (109 : UInt8), (98 : UInt8), (101 : UInt8), (114 : UInt8), (32 : UInt8),
                            (116 : UInt8), (111 : UInt8), (111 : UInt8), (32 : UInt8), (103 : UInt8), (114 : UInt8), (101 : UInt8), (97 : UInt8), (116 : UInt8)],
                        Bool.true, ()),
                      ())
                else
                  if (t0 == (24 : Int)) = Bool.true then
                    Option.some
                      ((ByteArray.mk
                            #[(97 : UInt8), (32 : UInt8), (110 : UInt8), (97 : UInt8), (109 : UInt8), (101 : UInt8), (32 : UInt8), (116 : UInt8), (111 : UInt8),
                              (111 : UInt8), (32 : UInt8), (108 : UInt8), (111 : UInt8), (110 : UInt8), (103 : UInt8)],
                          Bool.true, ()),
                        ())
                  else
                    if (t0 == (25 : Int)) = Bool.true then
                      Option.some
                        ((ByteArray.mk
                              #[(97 : UInt8), (32 : UInt8), (116 : UInt8), (111 : UInt8), (107 : UInt8), (101 : UInt8), (110 : UInt8), (32 : UInt8), (116 : UInt8),
                                (104 : UInt8), (97 : UInt8), (116 : UInt8), (32 : UInt8), (99 : UInt8), (97 : UInt8), (110 : UInt8), (110 : UInt8), (111 : UInt8),
                                (116 : UInt8), (32 : UInt8), (98 : UInt8), (101 : UInt8), (32 : UInt8), (119 : UInt8), (114 : UInt8), (105 : UInt8), (116 : UInt8),
                                (116 : UInt8), (101 : UInt8), (110 : UInt8)],
                            Bool.true, ()),
                          ())
                    else
                      if (t0 == (30 : Int)) = Bool.true then
                        Option.some
                          ((ByteArray.mk
                                #[(97 : UInt8), (32 : UInt8), (116 : UInt8), (111 : UInt8), (107 : UInt8), (101 : UInt8), (110 : UInt8), (32 : UInt8),
                                  (116 : UInt8), (104 : UInt8), (97 : UInt8), (116 : UInt8), (32 : UInt8), (99 : UInt8), (97 : UInt8), (110 : UInt8), (110 : UInt8),
                                  (111 : UInt8), (116 : UInt8), (32 : UInt8), (115 : UInt8), (116 : UInt8), (97 : UInt8), (110 : UInt8), (100 : UInt8),
                                  (32 : UInt8), (104 : UInt8), (101 : UInt8), (114 : UInt8), (101 : UInt8)],
                              Bool.true, ()),
                            ())
                      else
                        if (t0 == (31 : Int)) = Bool.true then
                          Option.some
                            ((ByteArray.mk
                                  #[(110 : UInt8), (101 : UInt8), (115 : UInt8), (116 : UInt8), (101 : UInt8), (100 : UInt8), (32 : UInt8), (116 : UInt8),
                                    (111 : UInt8), (111 : UInt8), (32 : UInt8), (100 : UInt8), (101 : UInt8), (101 : UInt8), (112 : UInt8), (108 : UInt8),
                                    (121 : UInt8)],
                                Bool.true, ()),
                              ())
                        else
                          if (t0 == (32 : Int)) = Bool.true then
                            Option.some
                              ((ByteArray.mk
                                    #[(97 : UInt8), (110 : UInt8), (32 : UInt8), (101 : UInt8), (120 : UInt8), (112 : UInt8), (114 : UInt8), (101 : UInt8),
                                      (115 : UInt8), (115 : UInt8), (105 : UInt8), (111 : UInt8), (110 : UInt8), (32 : UInt8), (116 : UInt8), (111 : UInt8),
                                      (111 : UInt8), (32 : UInt8), (108 : UInt8), (111 : UInt8), (110 : UInt8), (103 : UInt8)],
                                  Bool.true, ()),
                                ())
                          else
                            if (t0 == (33 : Int)) = Bool.true then
                              Option.some
                                ((ByteArray.mk
                                      #[(110 : UInt8), (111 : UInt8), (116 : UInt8), (32 : UInt8), (119 : UInt8), (101 : UInt8), (108 : UInt8), (108 : UInt8),
                                        (32 : UInt8), (102 : UInt8), (111 : UInt8), (114 : UInt8), (109 : UInt8), (101 : UInt8), (100 : UInt8)],
                                    Bool.true, ()),
                                  ())
                            else
                              if (t0 == (50 : Int)) = Bool.true then
                                Option.some
                                  ((ByteArray.mk
                                        #[(100 : UInt8), (101 : UInt8), (99 : UInt8), (108 : UInt8), (97 : UInt8), (114 : UInt8), (101 : UInt8), (100 : UInt8),
                                          (32 : UInt8), (116 : UInt8), (119 : UInt8), (105 : UInt8), (99 : UInt8), (101 : UInt8)],
                                      Bool.true, ()),
                                    ())
                              else
                                if (t0 == (51 : Int)) = Bool.true then
                                  Option.some
                                    ((ByteArray.mk
                                          #[(110 : UInt8), (111 : UInt8), (116 : UInt8), (32 : UInt8), (100 : UInt8), (101 : UInt8), (99 : UInt8), (108 : UInt8),
                                            (97 : UInt8), (114 : UInt8), (101 : UInt8), (100 : UInt8)],
                                        Bool.true, ()),
                                      ())
                                else
                                  if (t0 == (52 : Int)) = Bool.true then
                                    Option.some
                                      ((ByteArray.mk
                                            #[(97 : UInt8), (32 : UInt8), (110 : UInt8), (97 : UInt8), (109 : UInt8), (101 : UInt8), (32 : UInt8), (111 : UInt8),
                                              (102 : UInt8), (32 : UInt8), (97 : UInt8), (110 : UInt8), (111 : UInt8), (116 : UInt8), (104 : UInt8), (101 : UInt8),
                                              (114 : UInt8), (32 : UInt8), (107 : UInt8), (105 : UInt8), (110 : UInt8), (100 : UInt8)],
                                          Bool.true, ()),
                                        ())
                                  else
                                    if (t0 == (53 : Int)) = Bool.true then
                                      Option.some
                                        ((ByteArray.mk
                                              #[(97 : UInt8), (32 : UInt8), (110 : UInt8), (117 : UInt8), (109 : UInt8), (98 : UInt8), (101 : UInt8), (114 : UInt8),
                                                (32 : UInt8), (97 : UInt8), (110 : UInt8), (100 : UInt8), (32 : UInt8), (97 : UInt8), (32 : UInt8), (116 : UInt8),
                                                (114 : UInt8), (117 : UInt8), (116 : UInt8), (104 : UInt8), (32 : UInt8), (99 : UInt8), (111 : UInt8),
                                                (110 : UInt8), (102 : UInt8), (117 : UInt8), (115 : UInt8), (101 : UInt8), (100 : UInt8)],
                                            Bool.true, ()),
                                          ())
                                    else
                                      if (t0 == (54 : Int)) = Bool.true then
                                        Option.some
                                          ((ByteArray.mk
                                                #[(97 : UInt8), (32 : UInt8), (110 : UInt8), (117 : UInt8), (109 : UInt8), (98 : UInt8), (101 : UInt8),
                                                  (114 : UInt8), (32 : UInt8), (111 : UInt8), (117 : UInt8), (116 : UInt8), (32 : UInt8), (111 : UInt8),
                                                  (102 : UInt8), (32 : UInt8), (105 : UInt8), (116 : UInt8), (115 : UInt8), (32 : UInt8), (114 : UInt8),
                                                  (97 : UInt8), (110 : UInt8), (103 : UInt8), (101 : UInt8)],
                                              Bool.true, ()),
                                            ())
                                      else
                                        if (t0 == (55 : Int)) = Bool.true then
                                          Option.some
                                            ((ByteArray.mk
                                                  #[(116 : UInt8), (111 : UInt8), (111 : UInt8), (32 : UInt8), (109 : UInt8), (97 : UInt8), (110 : UInt8),
                                                    (121 : UInt8)],
                                                Bool.true, ()),
                                              ())
                                        else
                                          if (t0 == (56 : Int)) = Bool.true then
                                            Option.some
                                              ((ByteArray.mk
                                                    #[(110 : UInt8), (111 : UInt8), (116 : UInt8), (32 : UInt8), (106 : UInt8), (117 : UInt8), (115 : UInt8),
                                                      (116 : UInt8), (32 : UInt8), (111 : UInt8), (110 : UInt8), (101 : UInt8), (32 : UInt8), (115 : UInt8),
                                                      (116 : UInt8), (97 : UInt8), (114 : UInt8), (116 : UInt8)],
                                                  Bool.true, ()),
                                                ())
                                          else
                                            if (t0 == (57 : Int)) = Bool.true then
                                              Option.some
                                                ((ByteArray.mk
                                                      #[(97 : UInt8), (32 : UInt8), (112 : UInt8), (97 : UInt8), (105 : UInt8), (114 : UInt8), (32 : UInt8),
                                                        (116 : UInt8), (104 : UInt8), (97 : UInt8), (116 : UInt8), (32 : UInt8), (109 : UInt8), (97 : UInt8),
                                                        (121 : UInt8), (32 : UInt8), (110 : UInt8), (111 : UInt8), (116 : UInt8), (32 : UInt8), (98 : UInt8),
                                                        (101 : UInt8)],
                                                    Bool.true, ()),
                                                  ())
                                            else
                                              if (t0 == (58 : Int)) = Bool.true then
                                                Option.some
                                                  ((ByteArray.mk
                                                        #[(97 : UInt8), (32 : UInt8), (115 : UInt8), (116 : UInt8), (97 : UInt8), (103 : UInt8), (101 : UInt8),
                                                          (32 : UInt8), (116 : UInt8), (104 : UInt8), (97 : UInt8), (116 : UInt8), (32 : UInt8), (103 : UInt8),
                                                          (111 : UInt8), (101 : UInt8), (115 : UInt8), (32 : UInt8), (116 : UInt8), (111 : UInt8), (32 : UInt8),
                                                          (105 : UInt8), (116 : UInt8), (115 : UInt8), (101 : UInt8), (108 : UInt8), (102 : UInt8)],
                                                      Bool.true, ()),
                                                    ())
                                              else
                                                if (t0 == (59 : Int)) = Bool.true then
                                                  Option.some
                                                    ((ByteArray.mk
                                                          #[(116 : UInt8), (111 : UInt8), (111 : UInt8), (32 : UInt8), (108 : UInt8), (97 : UInt8), (114 : UInt8),
                                                            (103 : UInt8), (101 : UInt8), (32 : UInt8), (119 : UInt8), (105 : UInt8), (116 : UInt8), (104 : UInt8),
                                                            (32 : UInt8), (105 : UInt8), (116 : UInt8), (115 : UInt8), (32 : UInt8), (99 : UInt8), (111 : UInt8),
                                                            (110 : UInt8), (100 : UInt8), (105 : UInt8), (116 : UInt8), (105 : UInt8), (111 : UInt8), (110 : UInt8),
                                                            (115 : UInt8), (32 : UInt8), (112 : UInt8), (117 : UInt8), (116 : UInt8), (32 : UInt8), (105 : UInt8),
                                                            (110 : UInt8)],
                                                        Bool.true, ()),
                                                      ())
                                                else Option.some ((ByteArray.mk #[], Bool.false, ()), ())
noncomputable def junctionref14_saying1.f (k : Nat) : dens junctionref14_saying1.i → Option (junctionref14_saying1.p.den × densB junctionref14_saying1.b) := fun d => junctionref14_saying1 k d.1
noncomputable def junctionref14_saying1.ctx (k : Nat) : Ctx κ := junctionref14_saying1.x k []
theorem junctionref14_saying1.xOk (k : Nat) : (junctionref14_saying1.ctx k).Ok := ctxOk trivial trivial
theorem junctionref14_saying1.call (k : Nat) : CallV Tryd.prog E glob 35 junctionref14_saying1.i junctionref14_saying1.p junctionref14_saying1.b (junctionref14_saying1.f k) :=
  fn_okZ (kindOf := kindOf) (C := junctionref14_saying1.ctx k) (n := .none) (junctionref14_saying1.xOk k) Tryd.func35 junctionref14_saying1.hb (fits_of (l := []) (by kernel_rfl) trivial) (fun _ => by kernel_rfl)
noncomputable def junctionref14_saying1.ent (k : Nat) : EntS κ := ⟨35, [], entOf junctionref14_saying1.i junctionref14_saying1.p junctionref14_saying1.b true (junctionref14_saying1.f k) E⟩
theorem junctionref14_saying1.entOk (k : Nat) : EntOk Tryd.prog E glob 35 (junctionref14_saying1.ent k).run := ent_free encOk (callable_of Tryd.func35 (by kernel_rfl) (by kernel_rfl)) (by rfl) trivial (junctionref14_saying1.call k)
noncomputable def junctionref14_saying2.c : Go.Code := match Tryd.f36.body with | some c => c | none => .skip
theorem junctionref14_saying2.hb : Tryd.f36.body = some junctionref14_saying2.c := by kernel_rfl
noncomputable def junctionref14_saying2.x (k : Nat) (ls : List (LamS κ)) : Ctx κ := mkCtx [] [] ls
def junctionref14_saying2.i : List (Pat κ) := [.int .i64]
def junctionref14_saying2.p : Pat κ := .tup [.str, .bool]
def junctionref14_saying2.b : List (BPat κ) := []
noncomputable def junctionref14_saying2 (k : Nat) (t0 : Int) : Option ((ByteArray × Bool × Unit) × Unit) :=
    if (t0 == (60 : Int)) = Bool.true then
      Option.some
        ((ByteArray.mk
              #[(103 : UInt8), (114 : UInt8), (111 : UInt8), (117 : UInt8), (112 : UInt8), (115 : UInt8), (32 : UInt8), (105 : UInt8), (110 : UInt8), (32 : UInt8),
                (99 : UInt8), (111 : UInt8), (110 : UInt8), (102 : UInt8), (108 : UInt8), (105 : UInt8), (99 : UInt8), (116 : UInt8)],
            Bool.true, ()),
          ())
    else
      if (t0 == (61 : Int)) = Bool.true then
        Option.some
          ((ByteArray.mk
                #[(97 : UInt8), (110 : UInt8), (32 : UInt8), (105 : UInt8), (110 : UInt8), (116 : UInt8), (101 : UInt8), (114 : UInt8), (103 : UInt8),
                  (114 : UInt8), (101 : UInt8), (101 : UInt8), (110 : UInt8), (32 : UInt8), (115 : UInt8), (104 : UInt8), (111 : UInt8), (114 : UInt8),
                  (116 : UInt8), (101 : UInt8), (114 : UInt8), (32 : UInt8), (116 : UInt8), (104 : UInt8), (97 : UInt8), (110 : UInt8), (32 : UInt8), (116 : UInt8),
                  (104 : UInt8), (101 : UInt8), (32 : UInt8), (97 : UInt8), (109 : UInt8), (98 : UInt8), (101 : UInt8), (114 : UInt8)],
              Bool.true, ()),
            ())
      else
        if (t0 == (62 : Int)) = Bool.true then
          Option.some
            ((ByteArray.mk
                  #[(97 : UInt8), (32 : UInt8), (109 : UInt8), (105 : UInt8), (110 : UInt8), (105 : UInt8), (109 : UInt8), (117 : UInt8), (109 : UInt8),
                    (32 : UInt8), (116 : UInt8), (111 : UInt8), (111 : UInt8), (32 : UInt8), (115 : UInt8), (104 : UInt8), (111 : UInt8), (114 : UInt8),
                    (116 : UInt8)],
                Bool.true, ()),
              ())
        else
          if (t0 == (63 : Int)) = Bool.true then
            Option.some
              ((ByteArray.mk
                    #[(97 : UInt8), (110 : UInt8), (32 : UInt8), (97 : UInt8), (109 : UInt8), (98 : UInt8), (101 : UInt8), (114 : UInt8), (32 : UInt8),
                      (116 : UInt8), (111 : UInt8), (111 : UInt8), (32 : UInt8), (115 : UInt8), (104 : UInt8), (111 : UInt8), (114 : UInt8), (116 : UInt8)],
                  Bool.true, ()),
                ())
          else
            if (t0 == (64 : Int)) = Bool.true then
              Option.some
                ((ByteArray.mk
                      #[(97 : UInt8), (32 : UInt8), (108 : UInt8), (101 : UInt8), (97 : UInt8), (100 : UInt8), (32 : UInt8), (116 : UInt8), (111 : UInt8),
                        (111 : UInt8), (32 : UInt8), (108 : UInt8), (111 : UInt8), (110 : UInt8), (103 : UInt8)],
                    Bool.true, ()),
                  ())
            else
              if (t0 == (65 : Int)) = Bool.true then
                Option.some
                  ((ByteArray.mk
                        #[(97 : UInt8), (32 : UInt8), (115 : UInt8), (116 : UInt8), (97 : UInt8), (103 : UInt8), (101 : UInt8), (32 : UInt8), (119 : UInt8),
                          (105 : UInt8), (116 : UInt8), (104 : UInt8), (111 : UInt8), (117 : UInt8), (116 : UInt8), (32 : UInt8), (97 : UInt8), (32 : UInt8),
                          (119 : UInt8), (97 : UInt8), (121 : UInt8), (32 : UInt8), (111 : UInt8), (117 : UInt8), (116 : UInt8)],
                      Bool.true, ()),
                    ())
              else
                if (t0 == (66 : Int)) = Bool.true then
                  Option.some
                    ((ByteArray.mk
                          #[(97 : UInt8), (32 : UInt8), (103 : UInt8), (114 : UInt8), (111 : UInt8), (117 : UInt8), (112 : UInt8), (32 : UInt8), (116 : UInt8),
                            (104 : UInt8), (97 : UInt8), (116 : UInt8), (32 : UInt8), (105 : UInt8), (115 : UInt8), (32 : UInt8), (110 : UInt8), (101 : UInt8),
                            (118 : UInt8), (101 : UInt8), (114 : UInt8), (32 : UInt8), (103 : UInt8), (114 : UInt8), (101 : UInt8), (101 : UInt8), (110 : UInt8)],
                        Bool.true, ()),
                      ())
                else
                  if (t0 == (67 : Int)) = Bool.true then
                    Option.some
                      ((ByteArray.mk
                            #[(97 : UInt8), (32 : UInt8), (109 : UInt8), (111 : UInt8), (118 : UInt8), (101 : UInt8), (32 : UInt8), (116 : UInt8), (111 : UInt8),
                              (111 : UInt8), (32 : UInt8), (108 : UInt8), (111 : UInt8), (110 : UInt8), (103 : UInt8)],
                          Bool.true, ()),
                        ())
                  else
                    if (t0 == (70 : Int)) = Bool.true then
                      Option.some
                        ((ByteArray.mk
                              #[(116 : UInt8), (97 : UInt8), (98 : UInt8), (108 : UInt8), (101 : UInt8), (115 : UInt8), (32 : UInt8), (110 : UInt8), (111 : UInt8),
                                (116 : UInt8), (32 : UInt8), (115 : UInt8), (111 : UInt8), (117 : UInt8), (110 : UInt8), (100 : UInt8)],
                            Bool.true, ()),
                          ())
                    else
                      if (t0 == (71 : Int)) = Bool.true then
                        Option.some
                          ((ByteArray.mk
                                #[(104 : UInt8), (101 : UInt8), (97 : UInt8), (100 : UInt8), (115 : UInt8), (32 : UInt8), (110 : UInt8), (111 : UInt8),
                                  (116 : UInt8), (32 : UInt8), (111 : UInt8), (102 : UInt8), (32 : UInt8), (116 : UInt8), (104 : UInt8), (101 : UInt8),
                                  (32 : UInt8), (116 : UInt8), (97 : UInt8), (98 : UInt8), (108 : UInt8), (101 : UInt8), (115 : UInt8)],
                              Bool.true, ()),
                            ())
                      else
                        if (t0 == (80 : Int)) = Bool.true then
                          Option.some
                            ((ByteArray.mk
                                  #[(97 : UInt8), (32 : UInt8), (116 : UInt8), (121 : UInt8), (112 : UInt8), (101 : UInt8), (100 : UInt8), (32 : UInt8),
                                    (112 : UInt8), (108 : UInt8), (97 : UInt8), (110 : UInt8), (32 : UInt8), (110 : UInt8), (111 : UInt8), (116 : UInt8),
                                    (32 : UInt8), (115 : UInt8), (111 : UInt8), (117 : UInt8), (110 : UInt8), (100 : UInt8)],
                                Bool.true, ()),
                              ())
                        else
                          if (t0 == (81 : Int)) = Bool.true then
                            Option.some
                              ((ByteArray.mk
                                    #[(97 : UInt8), (32 : UInt8), (115 : UInt8), (116 : UInt8), (97 : UInt8), (116 : UInt8), (101 : UInt8), (32 : UInt8),
                                      (110 : UInt8), (111 : UInt8), (116 : UInt8), (32 : UInt8), (111 : UInt8), (102 : UInt8), (32 : UInt8), (116 : UInt8),
                                      (104 : UInt8), (101 : UInt8), (32 : UInt8), (112 : UInt8), (108 : UInt8), (97 : UInt8), (110 : UInt8)],
                                  Bool.true, ()),
                                ())
                          else
                            if (t0 == (82 : Int)) = Bool.true then
                              Option.some
                                ((ByteArray.mk
                                      #[(97 : UInt8), (110 : UInt8), (32 : UInt8), (101 : UInt8), (120 : UInt8), (112 : UInt8), (114 : UInt8), (101 : UInt8),
                                        (115 : UInt8), (115 : UInt8), (105 : UInt8), (111 : UInt8), (110 : UInt8), (32 : UInt8), (110 : UInt8), (111 : UInt8),
                                        (116 : UInt8), (32 : UInt8), (111 : UInt8), (102 : UInt8), (32 : UInt8), (116 : UInt8), (104 : UInt8), (101 : UInt8),
                                        (32 : UInt8), (112 : UInt8), (108 : UInt8), (97 : UInt8), (110 : UInt8)],
                                    Bool.true, ()),
                                  ())
                            else
                              if (t0 == (100 : Int)) = Bool.true then
                                Option.some
                                  ((ByteArray.mk
                                        #[(97 : UInt8), (110 : UInt8), (32 : UInt8), (105 : UInt8), (109 : UInt8), (97 : UInt8), (103 : UInt8), (101 : UInt8),
                                          (32 : UInt8), (110 : UInt8), (111 : UInt8), (116 : UInt8), (32 : UInt8), (119 : UInt8), (101 : UInt8), (108 : UInt8),
                                          (108 : UInt8), (32 : UInt8), (102 : UInt8), (111 : UInt8), (114 : UInt8), (109 : UInt8), (101 : UInt8), (100 : UInt8)],
                                      Bool.true, ()),
                                    ())
                              else
                                if (t0 == (101 : Int)) = Bool.true then
                                  Option.some
                                    ((ByteArray.mk
                                          #[(110 : UInt8), (111 : UInt8), (32 : UInt8), (105 : UInt8), (109 : UInt8), (97 : UInt8), (103 : UInt8), (101 : UInt8)],
                                        Bool.true, ()),
                                      ())
                                else
                                  if (t0 == (102 : Int)) = Bool.true then
                                    Option.some
                                      ((ByteArray.mk
                                            #[(97 : UInt8), (110 : UInt8), (111 : UInt8), (116 : UInt8), (104 : UInt8), (101 : UInt8), (114 : UInt8), (32 : UInt8),
                                              (118 : UInt8), (101 : UInt8), (114 : UInt8), (115 : UInt8), (105 : UInt8), (111 : UInt8), (110 : UInt8)],
                                          Bool.true, ()),
                                        ())
                                  else
                                    if (t0 == (103 : Int)) = Bool.true then
                                      Option.some
                                        ((ByteArray.mk #[(99 : UInt8), (117 : UInt8), (116 : UInt8), (32 : UInt8), (111 : UInt8), (102 : UInt8), (102 : UInt8)],
                                            Bool.true, ()),
                                          ())
                                    else
                                      if (t0 == (104 : Int)) = Bool.true then
                                        Option.some
                                          ((ByteArray.mk
                                                #[(98 : UInt8), (121 : UInt8), (116 : UInt8), (101 : UInt8), (115 : UInt8), (32 : UInt8), (108 : UInt8),
                                                  (101 : UInt8), (102 : UInt8), (116 : UInt8), (32 : UInt8), (111 : UInt8), (118 : UInt8), (101 : UInt8),
                                                  (114 : UInt8)],
                                              Bool.true, ()),
                                            ())
                                      else
                                        if (t0 == (105 : Int)) = Bool.true then
                                          Option.some
                                            ((ByteArray.mk
                                                  #[(97 : UInt8), (32 : UInt8), (119 : UInt8), (114 : UInt8), (111 : UInt8), (110 : UInt8), (103 : UInt8),
                                                    (32 : UInt8), (115 : UInt8), (117 : UInt8), (109 : UInt8)],
                                                Bool.true, ()),
                                              ())
                                        else
                                          if (t0 == (106 : Int)) = Bool.true then
                                            Option.some
                                              ((ByteArray.mk
                                                    #[(97 : UInt8), (32 : UInt8), (102 : UInt8), (105 : UInt8), (101 : UInt8), (108 : UInt8), (100 : UInt8),
                                                      (32 : UInt8), (111 : UInt8), (117 : UInt8), (116 : UInt8), (32 : UInt8), (111 : UInt8), (102 : UInt8),
                                                      (32 : UInt8), (105 : UInt8), (116 : UInt8), (115 : UInt8), (32 : UInt8), (114 : UInt8), (97 : UInt8),
                                                      (110 : UInt8), (103 : UInt8), (101 : UInt8)],
                                                  Bool.true, ()),
                                                ())
                                          else
                                            if (t0 == (107 : Int)) = Bool.true then
                                              Option.some
                                                ((ByteArray.mk
                                                      #[(110 : UInt8), (111 : UInt8), (32 : UInt8), (104 : UInt8), (101 : UInt8), (120 : UInt8), (32 : UInt8),
                                                        (114 : UInt8), (101 : UInt8), (99 : UInt8), (111 : UInt8), (114 : UInt8), (100 : UInt8), (115 : UInt8)],
                                                    Bool.true, ()),
                                                  ())
                                            else Option.some ((ByteArray.mk #[], Bool.false, ()), ())
noncomputable def junctionref14_saying2.f (k : Nat) : dens junctionref14_saying2.i → Option (junctionref14_saying2.p.den × densB junctionref14_saying2.b) := fun d => junctionref14_saying2 k d.1
noncomputable def junctionref14_saying2.ctx (k : Nat) : Ctx κ := junctionref14_saying2.x k []
theorem junctionref14_saying2.xOk (k : Nat) : (junctionref14_saying2.ctx k).Ok := ctxOk trivial trivial
theorem junctionref14_saying2.call (k : Nat) : CallV Tryd.prog E glob 36 junctionref14_saying2.i junctionref14_saying2.p junctionref14_saying2.b (junctionref14_saying2.f k) :=
  fn_okZ (kindOf := kindOf) (C := junctionref14_saying2.ctx k) (n := .none) (junctionref14_saying2.xOk k) Tryd.func36 junctionref14_saying2.hb (fits_of (l := []) (by kernel_rfl) trivial) (fun _ => by kernel_rfl)
noncomputable def junctionref14_saying2.ent (k : Nat) : EntS κ := ⟨36, [], entOf junctionref14_saying2.i junctionref14_saying2.p junctionref14_saying2.b true (junctionref14_saying2.f k) E⟩
theorem junctionref14_saying2.entOk (k : Nat) : EntOk Tryd.prog E glob 36 (junctionref14_saying2.ent k).run := ent_free encOk (callable_of Tryd.func36 (by kernel_rfl) (by kernel_rfl)) (by rfl) trivial (junctionref14_saying2.call k)
noncomputable def junctionref14_saying3.c : Go.Code := match Tryd.f37.body with | some c => c | none => .skip
theorem junctionref14_saying3.hb : Tryd.f37.body = some junctionref14_saying3.c := by kernel_rfl
noncomputable def junctionref14_saying3.x (k : Nat) (ls : List (LamS κ)) : Ctx κ := mkCtx [] [] ls
def junctionref14_saying3.i : List (Pat κ) := [.int .i64]
def junctionref14_saying3.p : Pat κ := .tup [.str, .bool]
def junctionref14_saying3.b : List (BPat κ) := []
noncomputable def junctionref14_saying3 (k : Nat) (t0 : Int) : Option ((ByteArray × Bool × Unit) × Unit) :=
    if (t0 == (110 : Int)) = Bool.true then Option.some ((ByteArray.mk #[(102 : UInt8), (117 : UInt8), (108 : UInt8), (108 : UInt8)], Bool.true, ()), ())
    else
      if (t0 == (120 : Int)) = Bool.true then
        Option.some
          ((ByteArray.mk
                #[(110 : UInt8), (111 : UInt8), (32 : UInt8), (105 : UInt8), (110 : UInt8), (115 : UInt8), (116 : UInt8), (114 : UInt8), (117 : UInt8),
                  (99 : UInt8), (116 : UInt8), (105 : UInt8), (111 : UInt8), (110 : UInt8)],
              Bool.true, ()),
            ())
      else
        if (t0 == (121 : Int)) = Bool.true then
          Option.some
            ((ByteArray.mk
                  #[(97 : UInt8), (32 : UInt8), (119 : UInt8), (114 : UInt8), (111 : UInt8), (110 : UInt8), (103 : UInt8), (32 : UInt8), (106 : UInt8),
                    (117 : UInt8), (109 : UInt8), (112 : UInt8)],
                Bool.true, ()),
              ())
        else
          if (t0 == (122 : Int)) = Bool.true then
            Option.some
              ((ByteArray.mk
                    #[(97 : UInt8), (32 : UInt8), (119 : UInt8), (114 : UInt8), (111 : UInt8), (110 : UInt8), (103 : UInt8), (32 : UInt8), (115 : UInt8),
                      (116 : UInt8), (97 : UInt8), (99 : UInt8), (107 : UInt8)],
                  Bool.true, ()),
                ())
          else
            if (t0 == (123 : Int)) = Bool.true then
              Option.some
                ((ByteArray.mk
                      #[(112 : UInt8), (97 : UInt8), (116 : UInt8), (104 : UInt8), (115 : UInt8), (32 : UInt8), (116 : UInt8), (104 : UInt8), (97 : UInt8),
                        (116 : UInt8), (32 : UInt8), (109 : UInt8), (101 : UInt8), (101 : UInt8), (116 : UInt8), (32 : UInt8), (117 : UInt8), (110 : UInt8),
                        (108 : UInt8), (105 : UInt8), (107 : UInt8), (101 : UInt8)],
                    Bool.true, ()),
                  ())
            else
              if (t0 == (124 : Int)) = Bool.true then
                Option.some
                  ((ByteArray.mk
                        #[(97 : UInt8), (32 : UInt8), (119 : UInt8), (114 : UInt8), (111 : UInt8), (110 : UInt8), (103 : UInt8), (32 : UInt8), (105 : UInt8),
                          (110 : UInt8), (100 : UInt8), (101 : UInt8), (120 : UInt8)],
                      Bool.true, ()),
                    ())
              else
                if (t0 == (125 : Int)) = Bool.true then
                  Option.some ((ByteArray.mk #[(110 : UInt8), (111 : UInt8), (32 : UInt8), (101 : UInt8), (110 : UInt8), (100 : UInt8)], Bool.true, ()), ())
                else
                  if (t0 == (126 : Int)) = Bool.true then
                    Option.some
                      ((ByteArray.mk
                            #[(110 : UInt8), (101 : UInt8), (118 : UInt8), (101 : UInt8), (114 : UInt8), (32 : UInt8), (114 : UInt8), (101 : UInt8), (97 : UInt8),
                              (99 : UInt8), (104 : UInt8), (101 : UInt8), (100 : UInt8)],
                          Bool.true, ()),
                        ())
                  else
                    if (t0 == (127 : Int)) = Bool.true then
                      Option.some
                        ((ByteArray.mk
                              #[(119 : UInt8), (114 : UInt8), (111 : UInt8), (110 : UInt8), (103 : UInt8), (32 : UInt8), (115 : UInt8), (101 : UInt8), (99 : UInt8),
                                (116 : UInt8), (105 : UInt8), (111 : UInt8), (110 : UInt8), (115 : UInt8)],
                            Bool.true, ()),
                          ())
                    else
                      if (t0 == (128 : Int)) = Bool.true then
                        Option.some
                          ((ByteArray.mk
                                #[(97 : UInt8), (32 : UInt8), (112 : UInt8), (105 : UInt8), (99 : UInt8), (107 : UInt8), (32 : UInt8), (111 : UInt8), (117 : UInt8),
                                  (116 : UInt8), (32 : UInt8), (111 : UInt8), (102 : UInt8), (32 : UInt8), (112 : UInt8), (108 : UInt8), (97 : UInt8), (99 : UInt8),
                                  (101 : UInt8)],
                              Bool.true, ()),
                            ())
                      else
                        if (t0 == (129 : Int)) = Bool.true then
                          Option.some
                            ((ByteArray.mk
                                  #[(97 : UInt8), (110 : UInt8), (32 : UInt8), (111 : UInt8), (112 : UInt8), (101 : UInt8), (114 : UInt8), (97 : UInt8),
                                    (110 : UInt8), (100 : UInt8), (32 : UInt8), (111 : UInt8), (102 : UInt8), (32 : UInt8), (116 : UInt8), (104 : UInt8),
                                    (101 : UInt8), (32 : UInt8), (119 : UInt8), (114 : UInt8), (111 : UInt8), (110 : UInt8), (103 : UInt8), (32 : UInt8),
                                    (115 : UInt8), (111 : UInt8), (114 : UInt8), (116 : UInt8)],
                                Bool.true, ()),
                              ())
                        else
                          if (t0 == (140 : Int)) = Bool.true then
                            Option.some
                              ((ByteArray.mk #[(110 : UInt8), (111 : UInt8), (32 : UInt8), (116 : UInt8), (114 : UInt8), (97 : UInt8), (99 : UInt8), (101 : UInt8)],
                                  Bool.true, ()),
                                ())
                          else
                            if (t0 == (141 : Int)) = Bool.true then
                              Option.some
                                ((ByteArray.mk
                                      #[(110 : UInt8), (111 : UInt8), (32 : UInt8), (105 : UInt8), (110 : UInt8), (112 : UInt8), (117 : UInt8), (116 : UInt8),
                                        (115 : UInt8)],
                                    Bool.true, ()),
                                  ())
                            else
                              if (t0 == (150 : Int)) = Bool.true then
                                Option.some
                                  ((ByteArray.mk
                                        #[(97 : UInt8), (110 : UInt8), (32 : UInt8), (101 : UInt8), (110 : UInt8), (116 : UInt8), (114 : UInt8), (121 : UInt8),
                                          (32 : UInt8), (110 : UInt8), (111 : UInt8), (116 : UInt8), (32 : UInt8), (111 : UInt8), (102 : UInt8), (32 : UInt8),
                                          (116 : UInt8), (104 : UInt8), (101 : UInt8), (32 : UInt8), (116 : UInt8), (97 : UInt8), (98 : UInt8), (108 : UInt8),
                                          (101 : UInt8), (115 : UInt8)],
                                      Bool.true, ()),
                                    ())
                              else Option.some ((ByteArray.mk #[], Bool.false, ()), ())
noncomputable def junctionref14_saying3.f (k : Nat) : dens junctionref14_saying3.i → Option (junctionref14_saying3.p.den × densB junctionref14_saying3.b) := fun d => junctionref14_saying3 k d.1
noncomputable def junctionref14_saying3.ctx (k : Nat) : Ctx κ := junctionref14_saying3.x k []
theorem junctionref14_saying3.xOk (k : Nat) : (junctionref14_saying3.ctx k).Ok := ctxOk trivial trivial
theorem junctionref14_saying3.call (k : Nat) : CallV Tryd.prog E glob 37 junctionref14_saying3.i junctionref14_saying3.p junctionref14_saying3.b (junctionref14_saying3.f k) :=
  fn_okZ (kindOf := kindOf) (C := junctionref14_saying3.ctx k) (n := .none) (junctionref14_saying3.xOk k) Tryd.func37 junctionref14_saying3.hb (fits_of (l := []) (by kernel_rfl) trivial) (fun _ => by kernel_rfl)
noncomputable def junctionref14_saying3.ent (k : Nat) : EntS κ := ⟨37, [], entOf junctionref14_saying3.i junctionref14_saying3.p junctionref14_saying3.b true (junctionref14_saying3.f k) E⟩
theorem junctionref14_saying3.entOk (k : Nat) : EntOk Tryd.prog E glob 37 (junctionref14_saying3.ent k).run := ent_free encOk (callable_of Tryd.func37 (by kernel_rfl) (by kernel_rfl)) (by rfl) trivial (junctionref14_saying3.call k)
noncomputable def junctionref14_saying4.c : Go.Code := match Tryd.f38.body with | some c => c | none => .skip
theorem junctionref14_saying4.hb : Tryd.f38.body = some junctionref14_saying4.c := by kernel_rfl
noncomputable def junctionref14_saying4.x (k : Nat) (ls : List (LamS κ)) : Ctx κ := mkCtx [] [] ls
def junctionref14_saying4.i : List (Pat κ) := [.int .i64]
def junctionref14_saying4.p : Pat κ := .tup [.str, .bool]
def junctionref14_saying4.b : List (BPat κ) := []
noncomputable def junctionref14_saying4 (k : Nat) (t0 : Int) : Option ((ByteArray × Bool × Unit) × Unit) :=
    if (t0 == (160 : Int)) = Bool.true then
      Option.some
        ((ByteArray.mk #[(110 : UInt8), (111 : UInt8), (32 : UInt8), (102 : UInt8), (108 : UInt8), (97 : UInt8), (115 : UInt8), (104 : UInt8)], Bool.true, ()), ())
    else
      if (t0 == (161 : Int)) = Bool.true then
        Option.some
          ((ByteArray.mk
                #[(110 : UInt8), (111 : UInt8), (32 : UInt8), (115 : UInt8), (117 : UInt8), (99 : UInt8), (104 : UInt8), (32 : UInt8), (115 : UInt8), (108 : UInt8),
                  (111 : UInt8), (116 : UInt8)],
              Bool.true, ()),
            ())
      else
        if (t0 == (162 : Int)) = Bool.true then
          Option.some
            ((ByteArray.mk
                  #[(97 : UInt8), (110 : UInt8), (32 : UInt8), (101 : UInt8), (109 : UInt8), (112 : UInt8), (116 : UInt8), (121 : UInt8), (32 : UInt8),
                    (115 : UInt8), (108 : UInt8), (111 : UInt8), (116 : UInt8)],
                Bool.true, ()),
              ())
        else
          if (t0 == (163 : Int)) = Bool.true then
            Option.some
              ((ByteArray.mk #[(110 : UInt8), (111 : UInt8), (32 : UInt8), (114 : UInt8), (111 : UInt8), (111 : UInt8), (109 : UInt8)], Bool.true, ()), ())
          else
            if (t0 == (164 : Int)) = Bool.true then
              Option.some
                ((ByteArray.mk
                      #[(100 : UInt8), (97 : UInt8), (116 : UInt8), (97 : UInt8), (32 : UInt8), (116 : UInt8), (104 : UInt8), (97 : UInt8), (116 : UInt8),
                        (32 : UInt8), (99 : UInt8), (97 : UInt8), (110 : UInt8), (110 : UInt8), (111 : UInt8), (116 : UInt8), (32 : UInt8), (98 : UInt8),
                        (101 : UInt8), (32 : UInt8), (107 : UInt8), (101 : UInt8), (112 : UInt8), (116 : UInt8)],
                    Bool.true, ()),
                  ())
            else
              if (t0 == (165 : Int)) = Bool.true then
                Option.some ((ByteArray.mk #[(105 : UInt8), (110 : UInt8), (32 : UInt8), (117 : UInt8), (115 : UInt8), (101 : UInt8)], Bool.true, ()), ())
              else
                if (t0 == (166 : Int)) = Bool.true then
                  Option.some
                    ((ByteArray.mk
                          #[(97 : UInt8), (110 : UInt8), (32 : UInt8), (97 : UInt8), (99 : UInt8), (116 : UInt8), (32 : UInt8), (116 : UInt8), (104 : UInt8),
                            (97 : UInt8), (116 : UInt8), (32 : UInt8), (99 : UInt8), (97 : UInt8), (110 : UInt8), (110 : UInt8), (111 : UInt8), (116 : UInt8),
                            (32 : UInt8), (98 : UInt8), (101 : UInt8), (32 : UInt8), (100 : UInt8), (111 : UInt8), (110 : UInt8), (101 : UInt8)],
                        Bool.true, ()),
                      ())
                else
                  if (t0 == (167 : Int)) = Bool.true then
                    Option.some
                      ((ByteArray.mk #[(119 : UInt8), (111 : UInt8), (114 : UInt8), (110 : UInt8), (32 : UInt8), (111 : UInt8), (117 : UInt8), (116 : UInt8)],
                          Bool.true, ()),
                        ())
                  else
                    if (t0 == (170 : Int)) = Bool.true then
                      Option.some
                        ((ByteArray.mk #[(110 : UInt8), (111 : UInt8), (32 : UInt8), (102 : UInt8), (114 : UInt8), (97 : UInt8), (109 : UInt8), (101 : UInt8)],
                            Bool.true, ()),
                          ())
                    else
                      if (t0 == (171 : Int)) = Bool.true then
                        Option.some
                          ((ByteArray.mk
                                #[(97 : UInt8), (32 : UInt8), (119 : UInt8), (114 : UInt8), (111 : UInt8), (110 : UInt8), (103 : UInt8), (32 : UInt8),
                                  (115 : UInt8), (117 : UInt8), (109 : UInt8)],
                              Bool.true, ()),
                            ())
                      else
                        if (t0 == (172 : Int)) = Bool.true then
                          Option.some
                            ((ByteArray.mk
                                  #[(110 : UInt8), (111 : UInt8), (116 : UInt8), (32 : UInt8), (115 : UInt8), (116 : UInt8), (117 : UInt8), (102 : UInt8),
                                    (102 : UInt8), (101 : UInt8), (100 : UInt8)],
                                Bool.true, ()),
                              ())
                        else
                          if (t0 == (173 : Int)) = Bool.true then
                            Option.some
                              ((ByteArray.mk
                                    #[(110 : UInt8), (111 : UInt8), (32 : UInt8), (109 : UInt8), (101 : UInt8), (115 : UInt8), (115 : UInt8), (97 : UInt8),
                                      (103 : UInt8), (101 : UInt8)],
                                  Bool.true, ()),
                                ())
                          else
                            if (t0 == (174 : Int)) = Bool.true then
                              Option.some
                                ((ByteArray.mk
                                      #[(97 : UInt8), (32 : UInt8), (102 : UInt8), (117 : UInt8), (108 : UInt8), (108 : UInt8), (32 : UInt8), (113 : UInt8),
                                        (117 : UInt8), (101 : UInt8), (117 : UInt8), (101 : UInt8)],
                                    Bool.true, ()),
                                  ())
                            else
                              if (t0 == (180 : Int)) = Bool.true then
                                Option.some
                                  ((ByteArray.mk
                                        #[(116 : UInt8), (111 : UInt8), (111 : UInt8), (32 : UInt8), (108 : UInt8), (111 : UInt8), (110 : UInt8), (103 : UInt8)],
                                      Bool.true, ()),
                                    ())
                              else
                                if (t0 == (181 : Int)) = Bool.true then
                                  Option.some
                                    ((ByteArray.mk
                                          #[(97 : UInt8), (32 : UInt8), (108 : UInt8), (105 : UInt8), (110 : UInt8), (101 : UInt8), (32 : UInt8), (116 : UInt8),
                                            (104 : UInt8), (97 : UInt8), (116 : UInt8), (32 : UInt8), (105 : UInt8), (115 : UInt8), (32 : UInt8), (110 : UInt8),
                                            (111 : UInt8), (110 : UInt8), (101 : UInt8)],
                                        Bool.true, ()),
                                      ())
                                else
                                  if (t0 == (182 : Int)) = Bool.true then
                                    Option.some
                                      ((ByteArray.mk #[(110 : UInt8), (111 : UInt8), (32 : UInt8), (100 : UInt8), (97 : UInt8), (116 : UInt8), (101 : UInt8)],
                                          Bool.true, ()),
                                        ())
                                  else
                                    if (t0 == (183 : Int)) = Bool.true then
                                      Option.some
                                        ((ByteArray.mk
                                              #[(110 : UInt8), (111 : UInt8), (32 : UInt8), (116 : UInt8), (105 : UInt8), (109 : UInt8), (101 : UInt8),
                                                (32 : UInt8), (111 : UInt8), (102 : UInt8), (32 : UInt8), (100 : UInt8), (97 : UInt8), (121 : UInt8)],
                                            Bool.true, ()),
                                          ())
                                    else
                                      if (t0 == (184 : Int)) = Bool.true then
                                        Option.some
                                          ((ByteArray.mk
                                                #[(110 : UInt8), (111 : UInt8), (32 : UInt8), (115 : UInt8), (117 : UInt8), (99 : UInt8), (104 : UInt8),
                                                  (32 : UInt8), (107 : UInt8), (105 : UInt8), (110 : UInt8), (100 : UInt8), (32 : UInt8), (111 : UInt8),
                                                  (102 : UInt8), (32 : UInt8), (100 : UInt8), (97 : UInt8), (121 : UInt8)],
                                              Bool.true, ()),
                                            ())
                                      else
                                        if (t0 == (185 : Int)) = Bool.true then
                                          Option.some
                                            ((ByteArray.mk #[(116 : UInt8), (119 : UInt8), (105 : UInt8), (99 : UInt8), (101 : UInt8)], Bool.true, ()), ())
                                        else
                                          if (t0 == (186 : Int)) = Bool.true then
                                            Option.some
                                              ((ByteArray.mk
                                                    #[(111 : UInt8), (117 : UInt8), (116 : UInt8), (32 : UInt8), (111 : UInt8), (102 : UInt8), (32 : UInt8),
                                                      (111 : UInt8), (114 : UInt8), (100 : UInt8), (101 : UInt8), (114 : UInt8)],
                                                  Bool.true, ()),
                                                ())
                                          else
                                            if (t0 == (187 : Int)) = Bool.true then
                                              Option.some
                                                ((ByteArray.mk
                                                      #[(116 : UInt8), (111 : UInt8), (111 : UInt8), (32 : UInt8), (109 : UInt8), (97 : UInt8), (110 : UInt8),
                                                        (121 : UInt8)],
                                                    Bool.true, ()),
                                                  ())
                                            else
                                              if (t0 == (188 : Int)) = Bool.true then
                                                Option.some
                                                  ((ByteArray.mk
                                                        #[(115 : UInt8), (111 : UInt8), (109 : UInt8), (101 : UInt8), (116 : UInt8), (104 : UInt8), (105 : UInt8),
                                                          (110 : UInt8), (103 : UInt8), (32 : UInt8), (105 : UInt8), (115 : UInt8), (32 : UInt8), (109 : UInt8),
                                                          (105 : UInt8), (115 : UInt8), (115 : UInt8), (105 : UInt8), (110 : UInt8), (103 : UInt8)],
                                                      Bool.true, ()),
                                                    ())
                                              else
                                                if (t0 == (189 : Int)) = Bool.true then
                                                  Option.some
                                                    ((ByteArray.mk
                                                          #[(111 : UInt8), (117 : UInt8), (116 : UInt8), (115 : UInt8), (105 : UInt8), (100 : UInt8), (101 : UInt8),
                                                            (32 : UInt8), (116 : UInt8), (104 : UInt8), (101 : UInt8), (32 : UInt8), (99 : UInt8), (97 : UInt8),
                                                            (108 : UInt8), (101 : UInt8), (110 : UInt8), (100 : UInt8), (97 : UInt8), (114 : UInt8)],
                                                        Bool.true, ()),
                                                      ())
                                                else
                                                  if (t0 == (190 : Int)) = Bool.true then
                                                    Option.some
                                                      ((ByteArray.mk
                                                            #[(110 : UInt8), (111 : UInt8), (32 : UInt8), (99 : UInt8), (111 : UInt8), (109 : UInt8), (109 : UInt8),
                                                              (97 : UInt8), (110 : UInt8), (100 : UInt8)],
                                                          Bool.true, ()),
                                                        ())
                                                  else
                                                    if (t0 == (191 : Int)) = Bool.true then
                                                      Option.some
                                                        ((ByteArray.mk
                                                              #[(97 : UInt8), (32 : UInt8), (119 : UInt8), (114 : UInt8), (111 : UInt8), (110 : UInt8),
                                                                (103 : UInt8), (32 : UInt8), (97 : UInt8), (114 : UInt8), (103 : UInt8), (117 : UInt8),
                                                                (109 : UInt8), (101 : UInt8), (110 : UInt8), (116 : UInt8)],
                                                            Bool.true, ()),
                                                          ())
                                                    else
                                                      if (t0 == (192 : Int)) = Bool.true then
                                                        Option.some ((ByteArray.mk #[(111 : UInt8), (102 : UInt8), (102 : UInt8)], Bool.true, ()), ())
                                                      else
                                                        if (t0 == (193 : Int)) = Bool.true then
                                                          Option.some
                                                            ((ByteArray.mk
                                                                  #[(97 : UInt8), (32 : UInt8), (119 : UInt8), (114 : UInt8), (111 : UInt8), (110 : UInt8),
                                                                    (103 : UInt8), (32 : UInt8), (117 : UInt8), (112 : UInt8), (108 : UInt8), (111 : UInt8),
                                                                    (97 : UInt8), (100 : UInt8)],
                                                                Bool.true, ()),
                                                              ())
                                                        else
                                                          if (t0 == (194 : Int)) = Bool.true then
                                                            Option.some
                                                              ((ByteArray.mk
                                                                    #[(114 : UInt8), (101 : UInt8), (102 : UInt8), (117 : UInt8), (115 : UInt8), (101 : UInt8),
                                                                      (100 : UInt8)],
                                                                  Bool.true, ()),
                                                                ())
                                                          else Option.some ((ByteArray.mk #[], Bool.false, ()), ())
noncomputable def junctionref14_saying4.f (k : Nat) : dens junctionref14_saying4.i → Option (junctionref14_saying4.p.den × densB junctionref14_saying4.b) := fun d => junctionref14_saying4 k d.1
noncomputable def junctionref14_saying4.ctx (k : Nat) : Ctx κ := junctionref14_saying4.x k []
theorem junctionref14_saying4.xOk (k : Nat) : (junctionref14_saying4.ctx k).Ok := ctxOk trivial trivial
theorem junctionref14_saying4.call (k : Nat) : CallV Tryd.prog E glob 38 junctionref14_saying4.i junctionref14_saying4.p junctionref14_saying4.b (junctionref14_saying4.f k) :=
  fn_okZ (kindOf := kindOf) (C := junctionref14_saying4.ctx k) (n := .none) (junctionref14_saying4.xOk k) Tryd.func38 junctionref14_saying4.hb (fits_of (l := []) (by kernel_rfl) trivial) (fun _ => by kernel_rfl)
noncomputable def junctionref14_saying4.ent (k : Nat) : EntS κ := ⟨38, [], entOf junctionref14_saying4.i junctionref14_saying4.p junctionref14_saying4.b true (junctionref14_saying4.f k) E⟩
theorem junctionref14_saying4.entOk (k : Nat) : EntOk Tryd.prog E glob 38 (junctionref14_saying4.ent k).run := ent_free encOk (callable_of Tryd.func38 (by kernel_rfl) (by kernel_rfl)) (by rfl) trivial (junctionref14_saying4.call k)
noncomputable def junctionref14_saying.c : Go.Code := match Tryd.f20.body with | some c => c | none => .skip
theorem junctionref14_saying.hb : Tryd.f20.body = some junctionref14_saying.c := by kernel_rfl
noncomputable def junctionref14_saying.x (k : Nat) (ls : List (LamS κ)) : Ctx κ := mkCtx [junctionref14_saying1.ent k, junctionref14_saying2.ent k, junctionref14_saying3.ent k, junctionref14_saying4.ent k] [] ls
def junctionref14_saying.i : List (Pat κ) := [.int .i64]
def junctionref14_saying.p : Pat κ := .tup [.str, .bool]
def junctionref14_saying.b : List (BPat κ) := []
noncomputable def junctionref14_saying (k : Nat) (t0 : Int) : Option ((ByteArray × Bool × Unit) × Unit) :=
    if Decidable.decide (t0 < (60 : Int)) = Bool.true then
      Option.bind (Go.Am.Tryd.junctionref14_saying1 k t0) fun r0 => Option.some ((Prod.fst (Prod.fst r0), Prod.fst (Prod.snd (Prod.fst r0)), ()), ())
    else
      if Decidable.decide (t0 < (110 : Int)) = Bool.true then
        Option.bind (Go.Am.Tryd.junctionref14_saying2 k t0) fun r1 => Option.some ((Prod.fst (Prod.fst r1), Prod.fst (Prod.snd (Prod.fst r1)), ()), ())
      else
        if Decidable.decide (t0 < (160 : Int)) = Bool.true then
          Option.bind (Go.Am.Tryd.junctionref14_saying3 k t0) fun r2 => Option.some ((Prod.fst (Prod.fst r2), Prod.fst (Prod.snd (Prod.fst r2)), ()), ())
        else Option.bind (Go.Am.Tryd.junctionref14_saying4 k t0) fun r3 => Option.some ((Prod.fst (Prod.fst r3), Prod.fst (Prod.snd (Prod.fst r3)), ()), ())
noncomputable def junctionref14_saying.f (k : Nat) : dens junctionref14_saying.i → Option (junctionref14_saying.p.den × densB junctionref14_saying.b) := fun d => junctionref14_saying k d.1
noncomputable def junctionref14_saying.ctx (k : Nat) : Ctx κ := junctionref14_saying.x k []
theorem junctionref14_saying.xOk (k : Nat) : (junctionref14_saying.ctx k).Ok := ctxOk ⟨junctionref14_saying1.entOk k, junctionref14_saying2.entOk k, junctionref14_saying3.entOk k, junctionref14_saying4.entOk k, trivial⟩ trivial
theorem junctionref14_saying.call (k : Nat) : CallV Tryd.prog E glob 20 junctionref14_saying.i junctionref14_saying.p junctionref14_saying.b (junctionref14_saying.f k) :=
  fn_okZ (kindOf := kindOf) (C := junctionref14_saying.ctx k) (n := .none) (junctionref14_saying.xOk k) Tryd.func20 junctionref14_saying.hb (fits_of (l := []) (by kernel_rfl) trivial) (fun _ => by kernel_rfl)
noncomputable def junctionref14_saying.ent (k : Nat) : EntS κ := ⟨20, [], entOf junctionref14_saying.i junctionref14_saying.p junctionref14_saying.b true (junctionref14_saying.f k) E⟩
theorem junctionref14_saying.entOk (k : Nat) : EntOk Tryd.prog E glob 20 (junctionref14_saying.ent k).run := ent_free encOk (callable_of Tryd.func20 (by kernel_rfl) (by kernel_rfl)) (by rfl) trivial (junctionref14_saying.call k)
noncomputable def junctionref14_Phase.c : Go.Code := match Tryd.f10.body with | some c => c | none => .skip
theorem junctionref14_Phase.hb : Tryd.f10.body = some junctionref14_Phase.c := by kernel_rfl
noncomputable def junctionref14_Phase.x (k : Nat) (ls : List (LamS κ)) : Ctx κ := mkCtx [junctionref14_saying.ent k] [] ls
def junctionref14_Phase.i : List (Pat κ) := [.agg [.int .i64, .int .i64, .int .i64]]
def junctionref14_Phase.p : Pat κ := .str
def junctionref14_Phase.b : List (BPat κ) := []
noncomputable def junctionref14_Phase (k : Nat) (t0 : Int) (t0_1 : Int) (t0_2 : Int) : Option (ByteArray × Unit) :=
    if (t0 == (0 : Int)) = Bool.true then Option.some (ByteArray.mk #[(111 : UInt8), (107 : UInt8)], ())
    else
      Option.bind (Go.Am.Tryd.junctionref14_saying k t0) fun r0 =>
        if (!Prod.fst (Prod.snd (Prod.fst r0))) = Bool.true then
          Option.some (ByteArray.mk #[(117 : UInt8), (110 : UInt8), (107 : UInt8), (110 : UInt8), (111 : UInt8), (119 : UInt8), (110 : UInt8)], ())
        else
          if (Go.Am.quo Go.IntKind.i64 t0 (10 : Int) == (1 : Int)) = Bool.true then
            Option.some (ByteArray.mk #[(97 : UInt8), (114 : UInt8), (105 : UInt8), (116 : UInt8), (104 : UInt8)], ())
          else
            if (Go.Am.quo Go.IntKind.i64 t0 (10 : Int) == (2 : Int)) = Bool.true then Option.some (ByteArray.mk #[(108 : UInt8), (101 : UInt8), (120 : UInt8)], ())
            else
              if (Go.Am.quo Go.IntKind.i64 t0 (10 : Int) == (3 : Int)) = Bool.true then
                Option.some (ByteArray.mk #[(116 : UInt8), (114 : UInt8), (101 : UInt8), (101 : UInt8)], ())
              else
                if (Go.Am.quo Go.IntKind.i64 t0 (10 : Int) == (5 : Int)) = Bool.true then
                  Option.some (ByteArray.mk #[(99 : UInt8), (104 : UInt8), (101 : UInt8), (99 : UInt8), (107 : UInt8)], ())
                else
                  if (Go.Am.quo Go.IntKind.i64 t0 (10 : Int) == (6 : Int)) = Bool.true then
                    Option.some (ByteArray.mk #[(115 : UInt8), (97 : UInt8), (102 : UInt8), (101 : UInt8), (116 : UInt8), (121 : UInt8)], ())
                  else
                    if (Go.Am.quo Go.IntKind.i64 t0 (10 : Int) == (7 : Int)) = Bool.true then
                      Option.some (ByteArray.mk #[(104 : UInt8), (101 : UInt8), (97 : UInt8), (100 : UInt8), (115 : UInt8)], ())
                    else
                      if (Go.Am.quo Go.IntKind.i64 t0 (10 : Int) == (8 : Int)) = Bool.true then
                        Option.some (ByteArray.mk #[(115 : UInt8), (105 : UInt8), (109 : UInt8)], ())
                      else
                        if (Go.Am.quo Go.IntKind.i64 t0 (10 : Int) == (10 : Int)) = Bool.true then
                          Option.some (ByteArray.mk #[(114 : UInt8), (111 : UInt8), (109 : UInt8)], ())
                        else
                          if (Go.Am.quo Go.IntKind.i64 t0 (10 : Int) == (11 : Int)) = Bool.true then
                            Option.some (ByteArray.mk #[(99 : UInt8), (111 : UInt8), (100 : UInt8), (101 : UInt8)], ())
                          else
                            if (Go.Am.quo Go.IntKind.i64 t0 (10 : Int) == (12 : Int)) = Bool.true then
                              Option.some (ByteArray.mk #[(108 : UInt8), (111 : UInt8), (97 : UInt8), (100 : UInt8)], ())
                            else
                              if (Go.Am.quo Go.IntKind.i64 t0 (10 : Int) == (14 : Int)) = Bool.true then
                                Option.some (ByteArray.mk #[(100 : UInt8), (114 : UInt8), (105 : UInt8), (118 : UInt8), (101 : UInt8), (114 : UInt8)], ())
                              else
                                if (Go.Am.quo Go.IntKind.i64 t0 (10 : Int) == (15 : Int)) = Bool.true then
                                  Option.some (ByteArray.mk #[(119 : UInt8), (97 : UInt8), (116 : UInt8), (99 : UInt8), (104 : UInt8)], ())
                                else
                                  if (Go.Am.quo Go.IntKind.i64 t0 (10 : Int) == (16 : Int)) = Bool.true then
                                    Option.some (ByteArray.mk #[(98 : UInt8), (97 : UInt8), (110 : UInt8), (107 : UInt8)], ())
                                  else
                                    if (Go.Am.quo Go.IntKind.i64 t0 (10 : Int) == (17 : Int)) = Bool.true then
                                      Option.some (ByteArray.mk #[(119 : UInt8), (105 : UInt8), (114 : UInt8), (101 : UInt8)], ())
                                    else
                                      if (Go.Am.quo Go.IntKind.i64 t0 (10 : Int) == (18 : Int)) = Bool.true then
                                        Option.some
                                          (ByteArray.mk
                                              #[(116 : UInt8), (105 : UInt8), (109 : UInt8), (101 : UInt8), (116 : UInt8), (97 : UInt8), (98 : UInt8),
                                                (108 : UInt8), (101 : UInt8)],
                                            ())
                                      else
                                        Option.some
                                          (ByteArray.mk #[(115 : UInt8), (116 : UInt8), (97 : UInt8), (116 : UInt8), (105 : UInt8), (111 : UInt8), (110 : UInt8)],
                                            ())
noncomputable def junctionref14_Phase.f (k : Nat) : dens junctionref14_Phase.i → Option (junctionref14_Phase.p.den × densB junctionref14_Phase.b) := fun d => junctionref14_Phase k d.1.1 d.1.2.1 d.1.2.2.1
noncomputable def junctionref14_Phase.ctx (k : Nat) : Ctx κ := junctionref14_Phase.x k []
theorem junctionref14_Phase.xOk (k : Nat) : (junctionref14_Phase.ctx k).Ok := ctxOk ⟨junctionref14_saying.entOk k, trivial⟩ trivial
theorem junctionref14_Phase.call (k : Nat) : CallV Tryd.prog E glob 10 junctionref14_Phase.i junctionref14_Phase.p junctionref14_Phase.b (junctionref14_Phase.f k) :=
  fn_okZ (kindOf := kindOf) (C := junctionref14_Phase.ctx k) (n := (.pair (.ops [0] 0) .none)) (junctionref14_Phase.xOk k) Tryd.func10 junctionref14_Phase.hb (fits_of (l := []) (by kernel_rfl) trivial) (fun _ => by kernel_rfl)
noncomputable def junctionref14_Phase.ent (k : Nat) : EntS κ := ⟨10, [], entOf junctionref14_Phase.i junctionref14_Phase.p junctionref14_Phase.b true (junctionref14_Phase.f k) E⟩
theorem junctionref14_Phase.entOk (k : Nat) : EntOk Tryd.prog E glob 10 (junctionref14_Phase.ent k).run := ent_free encOk (callable_of Tryd.func10 (by kernel_rfl) (by kernel_rfl)) (by rfl) trivial (junctionref14_Phase.call k)
noncomputable def junctionref14_Phase.qent (k : Nat) : QEntS κ := ⟨10, qentOf junctionref14_Phase.i junctionref14_Phase.p (junctionref14_Phase.f k) E⟩
theorem junctionref14_Phase.qentOk (k : Nat) : QEntOk Tryd.prog E glob 10 (junctionref14_Phase.qent k).run := qent_ok encOk (callable_of Tryd.func10 (by kernel_rfl) (by kernel_rfl)) (junctionref14_Phase.call k)
noncomputable def junctionref1_size.c : Go.Code := match Tryd.f48.body with | some c => c | none => .skip
theorem junctionref1_size.hb : Tryd.f48.body = some junctionref1_size.c := by kernel_rfl
noncomputable def junctionref1_size.x (k : Nat) (ls : List (LamS κ)) : Ctx κ := mkCtx [] [] ls
def junctionref1_size.i : List (Pat κ) := [.int .i64]
def junctionref1_size.p : Pat κ := .int .i64
def junctionref1_size.b : List (BPat κ) := []
noncomputable def junctionref1_size (k : Nat) (t0 : Int) : Option (Int × Unit) :=
    if Decidable.decide (t0 < (0 : Int)) = Bool.true then Option.some (Go.IntKind.wrap Go.IntKind.i64 ((0 : Int) - t0), ()) else Option.some (t0, ())
noncomputable def junctionref1_size.f (k : Nat) : dens junctionref1_size.i → Option (junctionref1_size.p.den × densB junctionref1_size.b) := fun d => junctionref1_size k d.1
noncomputable def junctionref1_size.ctx (k : Nat) : Ctx κ := junctionref1_size.x k []
theorem junctionref1_size.xOk (k : Nat) : (junctionref1_size.ctx k).Ok := ctxOk trivial trivial
theorem junctionref1_size.call (k : Nat) : CallV Tryd.prog E glob 48 junctionref1_size.i junctionref1_size.p junctionref1_size.b (junctionref1_size.f k) :=
  fn_okZ (kindOf := kindOf) (C := junctionref1_size.ctx k) (n := .none) (junctionref1_size.xOk k) Tryd.func48 junctionref1_size.hb (fits_of (l := []) (by kernel_rfl) trivial) (fun _ => by kernel_rfl)
noncomputable def junctionref1_size.ent (k : Nat) : EntS κ := ⟨48, [], entOf junctionref1_size.i junctionref1_size.p junctionref1_size.b true (junctionref1_size.f k) E⟩
theorem junctionref1_size.entOk (k : Nat) : EntOk Tryd.prog E glob 48 (junctionref1_size.ent k).run := ent_free encOk (callable_of Tryd.func48 (by kernel_rfl) (by kernel_rfl)) (by rfl) trivial (junctionref1_size.call k)
noncomputable def junctionref1_size.qent (k : Nat) : QEntS κ := ⟨48, qentOf junctionref1_size.i junctionref1_size.p (junctionref1_size.f k) E⟩
theorem junctionref1_size.qentOk (k : Nat) : QEntOk Tryd.prog E glob 48 (junctionref1_size.qent k).run := qent_ok encOk (callable_of Tryd.func48 (by kernel_rfl) (by kernel_rfl)) (junctionref1_size.call k)
noncomputable def junctionref1_Text.c : Go.Code := match Tryd.f42.body with | some c => c | none => .skip
theorem junctionref1_Text.hb : Tryd.f42.body = some junctionref1_Text.c := by kernel_rfl
noncomputable def junctionref1_Text.x (k : Nat) (ls : List (LamS κ)) : Ctx κ := mkCtx [junctionref1_size.ent k] [junctionref1_size.qent k] ls
def junctionref1_Text.i : List (Pat κ) := [.int .i32]
def junctionref1_Text.s0 : Sh κ := ⟨0, [3, 4], [.int .i64, .str], []⟩
def junctionref1_Text.o0 : List (Ex × Sh κ) := [(.exit 0, ⟨0, [4], [.str], []⟩)]
noncomputable def junctionref1_Text.l0 (k : Nat) : Nat → Int → ByteArray → Option ((ByteArray × Unit) × Unit)
  | 0, _, _ => none
  | j + 1, t3, t4 =>
    if Decidable.decide (t3 > (0 : Int)) = Bool.true then
      Go.Am.tooLong
        (ByteArray.size
            (Go.strOfNums (List.map (fun x => x) [Go.IntKind.wrap Go.IntKind.u8 (Go.IntKind.wrap Go.IntKind.i64 ((48 : Int) + Go.Am.rem t3 (10 : Int)))])) +
          ByteArray.size t4)
        (junctionref1_Text.l0 k j (Go.Am.quo Go.IntKind.i64 t3 (10 : Int))
          (Go.strOfNums (List.map (fun x => x) [Go.IntKind.wrap Go.IntKind.u8 (Go.IntKind.wrap Go.IntKind.i64 ((48 : Int) + Go.Am.rem t3 (10 : Int)))]) ++ t4))
    else Option.some ((t4, ()), ())
def junctionref1_Text.w0 : List Nat := [10, 11, 12, 13, 14, 15, 16, 17, 18, 19, 4, 20, 21, 3]
noncomputable def junctionref1_Text.e0 (k j : Nat) : junctionref1_Text.s0.den → Option (OutT junctionref1_Text.o0) := fun d => junctionref1_Text.l0 k j d.1.1 d.1.2.1
noncomputable def junctionref1_Text.m0 (k : Nat) : LamS κ := ⟨lamK 27 junctionref1_Text.w0 junctionref1_Text.s0 junctionref1_Text.o0 (junctionref1_Text.e0 k k)⟩
def junctionref1_Text.p : Pat κ := .str
def junctionref1_Text.b : List (BPat κ) := []
noncomputable def junctionref1_Text (k : Nat) (t0 : Int) : Option (ByteArray × Unit) :=
    if (t0 == (0 : Int)) = Bool.true then Option.some (ByteArray.mk #[(48 : UInt8)], ())
    else
      Option.bind (Go.Am.Tryd.junctionref1_size k (Go.IntKind.wrap Go.IntKind.i64 t0)) fun r0 =>
        Option.bind (Go.Am.Tryd.junctionref1_Text.l0 k k (Prod.fst r0) (ByteArray.mk #[])) fun r1 =>
          if Decidable.decide (t0 < (0 : Int)) = Bool.true then
            Go.Am.tooLong (ByteArray.size (ByteArray.mk #[(45 : UInt8)]) + ByteArray.size (Prod.fst (Prod.fst r1)))
              (Option.some (ByteArray.mk #[(45 : UInt8)] ++ Prod.fst (Prod.fst r1), ()))
          else Option.some (Prod.fst (Prod.fst r1), ())
noncomputable def junctionref1_Text.f (k : Nat) : dens junctionref1_Text.i → Option (junctionref1_Text.p.den × densB junctionref1_Text.b) := fun d => junctionref1_Text k d.1
noncomputable def junctionref1_Text.ctx (k : Nat) : Ctx κ := junctionref1_Text.x k [junctionref1_Text.m0 k]
theorem junctionref1_Text.xOk (k : Nat) : (junctionref1_Text.ctx k).Ok := ctxOk ⟨junctionref1_size.entOk k, trivial⟩ ⟨junctionref1_size.qentOk k, trivial⟩
theorem junctionref1_Text.k0 (k : Nat) : LamOk (junctionref1_Text.ctx k) ((junctionref1_Text.ctx k).Λ 0) (.loop (sub [1, 1, 1, 1, 0, 0, 0] junctionref1_Text.c)) :=
  loop_ok (kindOf := kindOf) (C := junctionref1_Text.ctx k) (n := .none) (L := junctionref1_Text.e0 k) (junctionref1_Text.xOk k) (by kernel_rfl) (by kernel_rfl) (fits_of (l := []) (by kernel_rfl) trivial) (fun _ => by kernel_rfl) (fun _ _ => by kernel_rfl) k
theorem junctionref1_Text.call (k : Nat) : CallV Tryd.prog E glob 42 junctionref1_Text.i junctionref1_Text.p junctionref1_Text.b (junctionref1_Text.f k) :=
  fn_okZ (kindOf := kindOf) (C := junctionref1_Text.ctx k) (n := (.pair .none (.pair .none (.pair .none (.pair .none (.pair (.pair (.cut 0) .none) .none)))))) (junctionref1_Text.xOk k) Tryd.func42 junctionref1_Text.hb (fits_of (l := [(0, .loop (sub [1, 1, 1, 1, 0, 0, 0] junctionref1_Text.c))]) (by kernel_rfl) ⟨junctionref1_Text.k0 k, trivial⟩) (fun _ => by kernel_rfl)
noncomputable def junctionref1_Text.ent (k : Nat) : EntS κ := ⟨42, [], entOf junctionref1_Text.i junctionref1_Text.p junctionref1_Text.b true (junctionref1_Text.f k) E⟩
theorem junctionref1_Text.entOk (k : Nat) : EntOk Tryd.prog E glob 42 (junctionref1_Text.ent k).run := ent_free encOk (callable_of Tryd.func42 (by kernel_rfl) (by kernel_rfl)) (by rfl) trivial (junctionref1_Text.call k)
noncomputable def junctionref1_Text.qent (k : Nat) : QEntS κ := ⟨42, qentOf junctionref1_Text.i junctionref1_Text.p (junctionref1_Text.f k) E⟩
theorem junctionref1_Text.qentOk (k : Nat) : QEntOk Tryd.prog E glob 42 (junctionref1_Text.qent k).run := qent_ok encOk (callable_of Tryd.func42 (by kernel_rfl) (by kernel_rfl)) (junctionref1_Text.call k)
noncomputable def junctionref14_Decimal_1.c : Go.Code := match Tryd.f27.body with | some c => c | none => .skip
theorem junctionref14_Decimal_1.hb : Tryd.f27.body = some junctionref14_Decimal_1.c := by kernel_rfl
noncomputable def junctionref14_Decimal_1.x (k : Nat) (ls : List (LamS κ)) : Ctx κ := mkCtx [junctionref14_Decimal_0.ent k, junctionref1_Text.ent k] [junctionref14_Decimal_0.qent k, junctionref1_Text.qent k] ls
def junctionref14_Decimal_1.i : List (Pat κ) := [.int .i64]
def junctionref14_Decimal_1.s0 : Sh κ := ⟨0, [0], [.int .i64], []⟩
def junctionref14_Decimal_1.o0 : List (Ex × Sh κ) := [(.normal, ⟨0, [9], [.bool], []⟩)]
noncomputable def junctionref14_Decimal_1.l0 (k : Nat) (t0 : Int) : Option ((Bool × Unit) × Unit) :=
    if Decidable.decide (t0 ≥ (-2147483648 : Int)) = Bool.true then Option.some ((Decidable.decide (t0 ≤ (2147483647 : Int)), ()), ())
    else Option.some ((Bool.false, ()), ())
def junctionref14_Decimal_1.w0 : List Nat := [4, 5, 6, 7, 8, 9]
noncomputable def junctionref14_Decimal_1.e0 (k : Nat) : junctionref14_Decimal_1.s0.den → Option (OutT junctionref14_Decimal_1.o0) := fun d => junctionref14_Decimal_1.l0 k d.1.1
noncomputable def junctionref14_Decimal_1.m0 (k : Nat) : LamS κ := ⟨lamK 28 junctionref14_Decimal_1.w0 junctionref14_Decimal_1.s0 junctionref14_Decimal_1.o0 (junctionref14_Decimal_1.e0 k)⟩
def junctionref14_Decimal_1.s1 : Sh κ := ⟨0, [3], [.int .i64], []⟩
def junctionref14_Decimal_1.o1 : List (Ex × Sh κ) := [(.normal, ⟨0, [3], [.int .i64], []⟩)]
noncomputable def junctionref14_Decimal_1.l1 (k : Nat) (t3 : Int) : Option ((Int × Unit) × Unit) :=
    if Decidable.decide (t3 < (0 : Int)) = Bool.true then Option.some ((Go.IntKind.wrap Go.IntKind.i64 ((0 : Int) - t3), ()), ()) else Option.some ((t3, ()), ())
def junctionref14_Decimal_1.w1 : List Nat := [15, 16, 17, 18, 3]
noncomputable def junctionref14_Decimal_1.e1 (k : Nat) : junctionref14_Decimal_1.s1.den → Option (OutT junctionref14_Decimal_1.o1) := fun d => junctionref14_Decimal_1.l1 k d.1.1
noncomputable def junctionref14_Decimal_1.m1 (k : Nat) : LamS κ := ⟨lamK 28 junctionref14_Decimal_1.w1 junctionref14_Decimal_1.s1 junctionref14_Decimal_1.o1 (junctionref14_Decimal_1.e1 k)⟩
def junctionref14_Decimal_1.s2 : Sh κ := ⟨0, [0, 3], [.int .i64, .int .i64], []⟩
def junctionref14_Decimal_1.o2 : List (Ex × Sh κ) := [(.normal, ⟨0, [2], [.str], []⟩)]
noncomputable def junctionref14_Decimal_1.l2 (k : Nat) (t0 : Int) (t3 : Int) : Option ((ByteArray × Unit) × Unit) :=
    Option.bind (Go.Am.Tryd.junctionref14_Decimal_0 k (Go.Am.quo Go.IntKind.i64 t0 (10 : Int))) fun r0 =>
      Go.Am.tooLong
        (ByteArray.size (Prod.fst r0) +
          ByteArray.size (Go.strOfNums (List.map (fun x => x) [Go.IntKind.wrap Go.IntKind.u8 (Go.IntKind.wrap Go.IntKind.i64 ((48 : Int) + t3))])))
        (Option.some
          ((Prod.fst r0 ++ Go.strOfNums (List.map (fun x => x) [Go.IntKind.wrap Go.IntKind.u8 (Go.IntKind.wrap Go.IntKind.i64 ((48 : Int) + t3))]), ()), ()))
def junctionref14_Decimal_1.w2 : List Nat := [19, 20, 21, 22, 23, 24, 25, 26, 27, 2]
noncomputable def junctionref14_Decimal_1.e2 (k : Nat) : junctionref14_Decimal_1.s2.den → Option (OutT junctionref14_Decimal_1.o2) := fun d => junctionref14_Decimal_1.l2 k d.1.1 d.1.2.1
noncomputable def junctionref14_Decimal_1.m2 (k : Nat) : LamS κ := ⟨lamK 28 junctionref14_Decimal_1.w2 junctionref14_Decimal_1.s2 junctionref14_Decimal_1.o2 (junctionref14_Decimal_1.e2 k)⟩
def junctionref14_Decimal_1.t2 : Sched := (.take 0 (.take 1 (.take 3 (.take 4 (.take 5 (.all (.cons 2 (.all (.cons 6 (.all (.cons 7 (.take 8 (.take 9 .done)) .nil)) .nil)) (.cons 6 (.all (.cons 2 (.all (.cons 7 (.take 8 (.take 9 .done)) .nil)) (.cons 7 (.all (.cons 2 (.take 8 (.take 9 .done)) .nil)) .nil))) .nil))))))))
noncomputable def junctionref14_Decimal_1.p2 (k : Nat) (t0 : Int) (t3 : Int) (o : (ByteArray × Unit) × Unit) : Prop :=
    Go.Am.holds
        (Option.bind (Go.Am.Tryd.junctionref14_Decimal_0 k (Go.Am.quo Go.IntKind.i64 t0 (10 : Int))) fun r2 =>
          Option.some
            ((Go.Am.holds
                  (Go.Am.tooLong
                    (ByteArray.size (Prod.fst r2) +
                      ByteArray.size (Go.strOfNums (List.map (fun x => x) [Go.IntKind.wrap Go.IntKind.u8 (Go.IntKind.wrap Go.IntKind.i64 ((48 : Int) + t3))])))
                    (Option.some
                      (Option.some
                          ((Prod.fst r2 ++ Go.strOfNums (List.map (fun x => x) [Go.IntKind.wrap Go.IntKind.u8 (Go.IntKind.wrap Go.IntKind.i64 ((48 : Int) + t3))]),
                              ()),
                            ()) =
                        Option.some o))) ∧
                True) ∧
              True)) ∧
      (Go.Am.holds
            (Option.bind (Go.Am.Tryd.junctionref14_Decimal_0 k (Go.Am.quo Go.IntKind.i64 t0 (10 : Int))) fun r1 =>
              Option.some
                (Go.Am.holds
                    (Go.Am.tooLong
                      (ByteArray.size (Prod.fst r1) +
                        ByteArray.size (Go.strOfNums (List.map (fun x => x) [Go.IntKind.wrap Go.IntKind.u8 (Go.IntKind.wrap Go.IntKind.i64 ((48 : Int) + t3))])))
                      (Option.some
                        (Option.some
                            ((Prod.fst r1 ++
                                  Go.strOfNums (List.map (fun x => x) [Go.IntKind.wrap Go.IntKind.u8 (Go.IntKind.wrap Go.IntKind.i64 ((48 : Int) + t3))]),
                                ()),
                              ()) =
                          Option.some o))) ∧
                  True)) ∧
          (Go.Am.holds
                (Option.bind (Go.Am.Tryd.junctionref14_Decimal_0 k (Go.Am.quo Go.IntKind.i64 t0 (10 : Int))) fun r0 =>
                  Option.some
                    (Go.Am.holds
                      (Go.Am.tooLong
                        (ByteArray.size (Prod.fst r0) +
                          ByteArray.size (Go.strOfNums (List.map (fun x => x) [Go.IntKind.wrap Go.IntKind.u8 (Go.IntKind.wrap Go.IntKind.i64 ((48 : Int) + t3))])))
                        (Option.some
                          (Option.some
                              ((Prod.fst r0 ++
                                    Go.strOfNums (List.map (fun x => x) [Go.IntKind.wrap Go.IntKind.u8 (Go.IntKind.wrap Go.IntKind.i64 ((48 : Int) + t3))]),
                                  ()),
                                ()) =
                            Option.some o))))) ∧
              True) ∧
            True) ∧
        True
theorem junctionref14_Decimal_1.q2 (k : Nat) (t0 : Int) (t3 : Int) (o : (ByteArray × Unit) × Unit) (h : junctionref14_Decimal_1.l2 k t0 t3 = some o) : junctionref14_Decimal_1.p2 k t0 t3 o := by
  unfold junctionref14_Decimal_1.l2 at h
  unfold junctionref14_Decimal_1.p2
  repeat' (first | split at h | (rw [Option.bind_eq_some_iff] at h; obtain ⟨_, _, h⟩ := h) | (rw [room_some] at h; obtain ⟨_, h⟩ := h) | (rw [tooLong_some] at h; obtain ⟨_, h⟩ := h))
  all_goals first | (cases h; done) | (cases h; simp only [Option.bind_some, room_pos, tooLong_pos, if_true, and_self, and_true, not_false_eq_true, holds, *]; done) | (cases h; simp [holds, room_pos, tooLong_pos, *])
def junctionref14_Decimal_1.p : Pat κ := .str
def junctionref14_Decimal_1.b : List (BPat κ) := []
noncomputable def junctionref14_Decimal_1 (k : Nat) (t0 : Int) : Option (ByteArray × Unit) :=
    Option.bind (Go.Am.Tryd.junctionref14_Decimal_1.l0 k t0) fun r0 =>
      if Prod.fst (Prod.fst r0) = Bool.true then
        Option.bind (Go.Am.Tryd.junctionref1_Text k (Go.IntKind.wrap Go.IntKind.i32 t0)) fun r1 => Option.some (Prod.fst r1, ())
      else
        Option.bind (Go.Am.Tryd.junctionref14_Decimal_1.l1 k (Go.Am.rem t0 (10 : Int))) fun r2 =>
          Option.bind (Go.Am.Tryd.junctionref14_Decimal_1.l2 k t0 (Prod.fst (Prod.fst r2))) fun r3 => Option.some (Prod.fst (Prod.fst r3), ())
noncomputable def junctionref14_Decimal_1.f (k : Nat) : dens junctionref14_Decimal_1.i → Option (junctionref14_Decimal_1.p.den × densB junctionref14_Decimal_1.b) := fun d => junctionref14_Decimal_1 k d.1
noncomputable def junctionref14_Decimal_1.ctx (k : Nat) : Ctx κ := junctionref14_Decimal_1.x k [junctionref14_Decimal_1.m0 k, junctionref14_Decimal_1.m1 k, junctionref14_Decimal_1.m2 k]
theorem junctionref14_Decimal_1.xOk (k : Nat) : (junctionref14_Decimal_1.ctx k).Ok := ctxOk ⟨junctionref14_Decimal_0.entOk k, junctionref1_Text.entOk k, trivial⟩ ⟨junctionref14_Decimal_0.qentOk k, junctionref1_Text.qentOk k, trivial⟩
theorem junctionref14_Decimal_1.k0 (k : Nat) : LamOk (junctionref14_Decimal_1.ctx k) ((junctionref14_Decimal_1.ctx k).Λ 0) (sub [1, 0, 0] junctionref14_Decimal_1.c) :=
  cut_ok (kindOf := kindOf) (C := junctionref14_Decimal_1.ctx k) (n := .none) (L := junctionref14_Decimal_1.e0 k) (junctionref14_Decimal_1.xOk k) (by kernel_rfl) (by kernel_rfl) (fits_of (l := []) (by kernel_rfl) trivial) (fun _ => by kernel_rfl)
theorem junctionref14_Decimal_1.k1 (k : Nat) : LamOk (junctionref14_Decimal_1.ctx k) ((junctionref14_Decimal_1.ctx k).Λ 1) (sub [1, 1, 1, 0] junctionref14_Decimal_1.c) :=
  cut_ok (kindOf := kindOf) (C := junctionref14_Decimal_1.ctx k) (n := .none) (L := junctionref14_Decimal_1.e1 k) (junctionref14_Decimal_1.xOk k) (by kernel_rfl) (by kernel_rfl) (fits_of (l := []) (by kernel_rfl) trivial) (fun _ => by kernel_rfl)
theorem junctionref14_Decimal_1.k2 (k : Nat) : LamOk (junctionref14_Decimal_1.ctx k) ((junctionref14_Decimal_1.ctx k).Λ 2) (sub [1, 1, 1, 1, 0] junctionref14_Decimal_1.c) :=
  tree_ok (kindOf := kindOf) (C := junctionref14_Decimal_1.ctx k) (L := junctionref14_Decimal_1.e2 k) (tr := junctionref14_Decimal_1.t2) (junctionref14_Decimal_1.xOk k) (by kernel_rfl) (by kernel_rfl) (by kernel_rfl) (by kernel_rfl) fun d o h => (show runs (junctionref14_Decimal_1.ctx k) kindOf _ junctionref14_Decimal_1.t2 _ _ = junctionref14_Decimal_1.p2 k d.1.1 d.1.2.1 o by kernel_rfl).mpr (junctionref14_Decimal_1.q2 k d.1.1 d.1.2.1 o (by unfold junctionref14_Decimal_1.e2 at h; exact h))
theorem junctionref14_Decimal_1.call (k : Nat) : CallV Tryd.prog E glob 27 junctionref14_Decimal_1.i junctionref14_Decimal_1.p junctionref14_Decimal_1.b (junctionref14_Decimal_1.f k) :=
  fn_okZ (kindOf := kindOf) (C := junctionref14_Decimal_1.ctx k) (n := (.pair .none (.pair (.pair (.cut 0) .none) (.pair .none (.pair (.cut 1) (.pair (.cut 2) .none)))))) (junctionref14_Decimal_1.xOk k) Tryd.func27 junctionref14_Decimal_1.hb (fits_of (l := [(0, (sub [1, 0, 0] junctionref14_Decimal_1.c)), (1, (sub [1, 1, 1, 0] junctionref14_Decimal_1.c)), (2, (sub [1, 1, 1, 1, 0] junctionref14_Decimal_1.c))]) (by kernel_rfl) ⟨junctionref14_Decimal_1.k0 k, junctionref14_Decimal_1.k1 k, junctionref14_Decimal_1.k2 k, trivial⟩) (fun _ => by kernel_rfl)
noncomputable def junctionref14_Decimal_1.ent (k : Nat) : EntS κ := ⟨27, [], entOf junctionref14_Decimal_1.i junctionref14_Decimal_1.p junctionref14_Decimal_1.b true (junctionref14_Decimal_1.f k) E⟩
theorem junctionref14_Decimal_1.entOk (k : Nat) : EntOk Tryd.prog E glob 27 (junctionref14_Decimal_1.ent k).run := ent_free encOk (callable_of Tryd.func27 (by kernel_rfl) (by kernel_rfl)) (by rfl) trivial (junctionref14_Decimal_1.call k)
noncomputable def junctionref14_Decimal_1.qent (k : Nat) : QEntS κ := ⟨27, qentOf junctionref14_Decimal_1.i junctionref14_Decimal_1.p (junctionref14_Decimal_1.f k) E⟩
theorem junctionref14_Decimal_1.qentOk (k : Nat) : QEntOk Tryd.prog E glob 27 (junctionref14_Decimal_1.qent k).run := qent_ok encOk (callable_of Tryd.func27 (by kernel_rfl) (by kernel_rfl)) (junctionref14_Decimal_1.call k)
noncomputable def junctionref14_Decimal_2.c : Go.Code := match Tryd.f27.body with | some c => c | none => .skip
theorem junctionref14_Decimal_2.hb : Tryd.f27.body = some junctionref14_Decimal_2.c := by kernel_rfl
noncomputable def junctionref14_Decimal_2.x (k : Nat) (ls : List (LamS κ)) : Ctx κ := mkCtx [junctionref1_Text.ent k, junctionref14_Decimal_1.ent k] [junctionref1_Text.qent k, junctionref14_Decimal_1.qent k] ls
def junctionref14_Decimal_2.i : List (Pat κ) := [.int .i64]
def junctionref14_Decimal_2.s0 : Sh κ := ⟨0, [0], [.int .i64], []⟩
def junctionref14_Decimal_2.o0 : List (Ex × Sh κ) := [(.normal, ⟨0, [9], [.bool], []⟩)]
noncomputable def junctionref14_Decimal_2.l0 (k : Nat) (t0 : Int) : Option ((Bool × Unit) × Unit) :=
    if Decidable.decide (t0 ≥ (-2147483648 : Int)) = Bool.true then Option.some ((Decidable.decide (t0 ≤ (2147483647 : Int)), ()), ())
    else Option.some ((Bool.false, ()), ())
def junctionref14_Decimal_2.w0 : List Nat := [4, 5, 6, 7, 8, 9]
noncomputable def junctionref14_Decimal_2.e0 (k : Nat) : junctionref14_Decimal_2.s0.den → Option (OutT junctionref14_Decimal_2.o0) := fun d => junctionref14_Decimal_2.l0 k d.1.1
noncomputable def junctionref14_Decimal_2.m0 (k : Nat) : LamS κ := ⟨lamK 28 junctionref14_Decimal_2.w0 junctionref14_Decimal_2.s0 junctionref14_Decimal_2.o0 (junctionref14_Decimal_2.e0 k)⟩
def junctionref14_Decimal_2.s1 : Sh κ := ⟨0, [3], [.int .i64], []⟩
def junctionref14_Decimal_2.o1 : List (Ex × Sh κ) := [(.normal, ⟨0, [3], [.int .i64], []⟩)]
noncomputable def junctionref14_Decimal_2.l1 (k : Nat) (t3 : Int) : Option ((Int × Unit) × Unit) :=
    if Decidable.decide (t3 < (0 : Int)) = Bool.true then Option.some ((Go.IntKind.wrap Go.IntKind.i64 ((0 : Int) - t3), ()), ()) else Option.some ((t3, ()), ())
def junctionref14_Decimal_2.w1 : List Nat := [15, 16, 17, 18, 3]
noncomputable def junctionref14_Decimal_2.e1 (k : Nat) : junctionref14_Decimal_2.s1.den → Option (OutT junctionref14_Decimal_2.o1) := fun d => junctionref14_Decimal_2.l1 k d.1.1
noncomputable def junctionref14_Decimal_2.m1 (k : Nat) : LamS κ := ⟨lamK 28 junctionref14_Decimal_2.w1 junctionref14_Decimal_2.s1 junctionref14_Decimal_2.o1 (junctionref14_Decimal_2.e1 k)⟩
def junctionref14_Decimal_2.s2 : Sh κ := ⟨0, [0, 3], [.int .i64, .int .i64], []⟩
def junctionref14_Decimal_2.o2 : List (Ex × Sh κ) := [(.normal, ⟨0, [2], [.str], []⟩)]
noncomputable def junctionref14_Decimal_2.l2 (k : Nat) (t0 : Int) (t3 : Int) : Option ((ByteArray × Unit) × Unit) :=
    Option.bind (Go.Am.Tryd.junctionref14_Decimal_1 k (Go.Am.quo Go.IntKind.i64 t0 (10 : Int))) fun r0 =>
      Go.Am.tooLong
        (ByteArray.size (Prod.fst r0) +
          ByteArray.size (Go.strOfNums (List.map (fun x => x) [Go.IntKind.wrap Go.IntKind.u8 (Go.IntKind.wrap Go.IntKind.i64 ((48 : Int) + t3))])))
        (Option.some
          ((Prod.fst r0 ++ Go.strOfNums (List.map (fun x => x) [Go.IntKind.wrap Go.IntKind.u8 (Go.IntKind.wrap Go.IntKind.i64 ((48 : Int) + t3))]), ()), ()))
def junctionref14_Decimal_2.w2 : List Nat := [19, 20, 21, 22, 23, 24, 25, 26, 27, 2]
noncomputable def junctionref14_Decimal_2.e2 (k : Nat) : junctionref14_Decimal_2.s2.den → Option (OutT junctionref14_Decimal_2.o2) := fun d => junctionref14_Decimal_2.l2 k d.1.1 d.1.2.1
noncomputable def junctionref14_Decimal_2.m2 (k : Nat) : LamS κ := ⟨lamK 28 junctionref14_Decimal_2.w2 junctionref14_Decimal_2.s2 junctionref14_Decimal_2.o2 (junctionref14_Decimal_2.e2 k)⟩
def junctionref14_Decimal_2.t2 : Sched := (.take 0 (.take 1 (.take 3 (.take 4 (.take 5 (.all (.cons 2 (.all (.cons 6 (.all (.cons 7 (.take 8 (.take 9 .done)) .nil)) .nil)) (.cons 6 (.all (.cons 2 (.all (.cons 7 (.take 8 (.take 9 .done)) .nil)) (.cons 7 (.all (.cons 2 (.take 8 (.take 9 .done)) .nil)) .nil))) .nil))))))))
noncomputable def junctionref14_Decimal_2.p2 (k : Nat) (t0 : Int) (t3 : Int) (o : (ByteArray × Unit) × Unit) : Prop :=
    Go.Am.holds
        (Option.bind (Go.Am.Tryd.junctionref14_Decimal_1 k (Go.Am.quo Go.IntKind.i64 t0 (10 : Int))) fun r2 =>
          Option.some
            ((Go.Am.holds
                  (Go.Am.tooLong
                    (ByteArray.size (Prod.fst r2) +
                      ByteArray.size (Go.strOfNums (List.map (fun x => x) [Go.IntKind.wrap Go.IntKind.u8 (Go.IntKind.wrap Go.IntKind.i64 ((48 : Int) + t3))])))
                    (Option.some
                      (Option.some
                          ((Prod.fst r2 ++ Go.strOfNums (List.map (fun x => x) [Go.IntKind.wrap Go.IntKind.u8 (Go.IntKind.wrap Go.IntKind.i64 ((48 : Int) + t3))]),
                              ()),
                            ()) =
                        Option.some o))) ∧
                True) ∧
              True)) ∧
      (Go.Am.holds
            (Option.bind (Go.Am.Tryd.junctionref14_Decimal_1 k (Go.Am.quo Go.IntKind.i64 t0 (10 : Int))) fun r1 =>
              Option.some
                (Go.Am.holds
                    (Go.Am.tooLong
                      (ByteArray.size (Prod.fst r1) +
                        ByteArray.size (Go.strOfNums (List.map (fun x => x) [Go.IntKind.wrap Go.IntKind.u8 (Go.IntKind.wrap Go.IntKind.i64 ((48 : Int) + t3))])))
                      (Option.some
                        (Option.some
                            ((Prod.fst r1 ++
                                  Go.strOfNums (List.map (fun x => x) [Go.IntKind.wrap Go.IntKind.u8 (Go.IntKind.wrap Go.IntKind.i64 ((48 : Int) + t3))]),
                                ()),
                              ()) =
                          Option.some o))) ∧
                  True)) ∧
          (Go.Am.holds
                (Option.bind (Go.Am.Tryd.junctionref14_Decimal_1 k (Go.Am.quo Go.IntKind.i64 t0 (10 : Int))) fun r0 =>
                  Option.some
                    (Go.Am.holds
                      (Go.Am.tooLong
                        (ByteArray.size (Prod.fst r0) +
                          ByteArray.size (Go.strOfNums (List.map (fun x => x) [Go.IntKind.wrap Go.IntKind.u8 (Go.IntKind.wrap Go.IntKind.i64 ((48 : Int) + t3))])))
                        (Option.some
                          (Option.some
                              ((Prod.fst r0 ++
                                    Go.strOfNums (List.map (fun x => x) [Go.IntKind.wrap Go.IntKind.u8 (Go.IntKind.wrap Go.IntKind.i64 ((48 : Int) + t3))]),
                                  ()),
                                ()) =
                            Option.some o))))) ∧
              True) ∧
            True) ∧
        True
theorem junctionref14_Decimal_2.q2 (k : Nat) (t0 : Int) (t3 : Int) (o : (ByteArray × Unit) × Unit) (h : junctionref14_Decimal_2.l2 k t0 t3 = some o) : junctionref14_Decimal_2.p2 k t0 t3 o := by
  unfold junctionref14_Decimal_2.l2 at h
  unfold junctionref14_Decimal_2.p2
  repeat' (first | split at h | (rw [Option.bind_eq_some_iff] at h; obtain ⟨_, _, h⟩ := h) | (rw [room_some] at h; obtain ⟨_, h⟩ := h) | (rw [tooLong_some] at h; obtain ⟨_, h⟩ := h))
  all_goals first | (cases h; done) | (cases h; simp only [Option.bind_some, room_pos, tooLong_pos, if_true, and_self, and_true, not_false_eq_true, holds, *]; done) | (cases h; simp [holds, room_pos, tooLong_pos, *])
def junctionref14_Decimal_2.p : Pat κ := .str
def junctionref14_Decimal_2.b : List (BPat κ) := []
noncomputable def junctionref14_Decimal_2 (k : Nat) (t0 : Int) : Option (ByteArray × Unit) :=
    Option.bind (Go.Am.Tryd.junctionref14_Decimal_2.l0 k t0) fun r0 =>
      if Prod.fst (Prod.fst r0) = Bool.true then
        Option.bind (Go.Am.Tryd.junctionref1_Text k (Go.IntKind.wrap Go.IntKind.i32 t0)) fun r1 => Option.some (Prod.fst r1, ())
      else
        Option.bind (Go.Am.Tryd.junctionref14_Decimal_2.l1 k (Go.Am.rem t0 (10 : Int))) fun r2 =>
          Option.bind (Go.Am.Tryd.junctionref14_Decimal_2.l2 k t0 (Prod.fst (Prod.fst r2))) fun r3 => Option.some (Prod.fst (Prod.fst r3), ())
noncomputable def junctionref14_Decimal_2.f (k : Nat) : dens junctionref14_Decimal_2.i → Option (junctionref14_Decimal_2.p.den × densB junctionref14_Decimal_2.b) := fun d => junctionref14_Decimal_2 k d.1
noncomputable def junctionref14_Decimal_2.ctx (k : Nat) : Ctx κ := junctionref14_Decimal_2.x k [junctionref14_Decimal_2.m0 k, junctionref14_Decimal_2.m1 k, junctionref14_Decimal_2.m2 k]
theorem junctionref14_Decimal_2.xOk (k : Nat) : (junctionref14_Decimal_2.ctx k).Ok := ctxOk ⟨junctionref1_Text.entOk k, junctionref14_Decimal_1.entOk k, trivial⟩ ⟨junctionref1_Text.qentOk k, junctionref14_Decimal_1.qentOk k, trivial⟩
theorem junctionref14_Decimal_2.k0 (k : Nat) : LamOk (junctionref14_Decimal_2.ctx k) ((junctionref14_Decimal_2.ctx k).Λ 0) (sub [1, 0, 0] junctionref14_Decimal_2.c) :=
  cut_ok (kindOf := kindOf) (C := junctionref14_Decimal_2.ctx k) (n := .none) (L := junctionref14_Decimal_2.e0 k) (junctionref14_Decimal_2.xOk k) (by kernel_rfl) (by kernel_rfl) (fits_of (l := []) (by kernel_rfl) trivial) (fun _ => by kernel_rfl)
theorem junctionref14_Decimal_2.k1 (k : Nat) : LamOk (junctionref14_Decimal_2.ctx k) ((junctionref14_Decimal_2.ctx k).Λ 1) (sub [1, 1, 1, 0] junctionref14_Decimal_2.c) :=
  cut_ok (kindOf := kindOf) (C := junctionref14_Decimal_2.ctx k) (n := .none) (L := junctionref14_Decimal_2.e1 k) (junctionref14_Decimal_2.xOk k) (by kernel_rfl) (by kernel_rfl) (fits_of (l := []) (by kernel_rfl) trivial) (fun _ => by kernel_rfl)
theorem junctionref14_Decimal_2.k2 (k : Nat) : LamOk (junctionref14_Decimal_2.ctx k) ((junctionref14_Decimal_2.ctx k).Λ 2) (sub [1, 1, 1, 1, 0] junctionref14_Decimal_2.c) :=
  tree_ok (kindOf := kindOf) (C := junctionref14_Decimal_2.ctx k) (L := junctionref14_Decimal_2.e2 k) (tr := junctionref14_Decimal_2.t2) (junctionref14_Decimal_2.xOk k) (by kernel_rfl) (by kernel_rfl) (by kernel_rfl) (by kernel_rfl) fun d o h => (show runs (junctionref14_Decimal_2.ctx k) kindOf _ junctionref14_Decimal_2.t2 _ _ = junctionref14_Decimal_2.p2 k d.1.1 d.1.2.1 o by kernel_rfl).mpr (junctionref14_Decimal_2.q2 k d.1.1 d.1.2.1 o (by unfold junctionref14_Decimal_2.e2 at h; exact h))
theorem junctionref14_Decimal_2.call (k : Nat) : CallV Tryd.prog E glob 27 junctionref14_Decimal_2.i junctionref14_Decimal_2.p junctionref14_Decimal_2.b (junctionref14_Decimal_2.f k) :=
  fn_okZ (kindOf := kindOf) (C := junctionref14_Decimal_2.ctx k) (n := (.pair .none (.pair (.pair (.cut 0) .none) (.pair .none (.pair (.cut 1) (.pair (.cut 2) .none)))))) (junctionref14_Decimal_2.xOk k) Tryd.func27 junctionref14_Decimal_2.hb (fits_of (l := [(0, (sub [1, 0, 0] junctionref14_Decimal_2.c)), (1, (sub [1, 1, 1, 0] junctionref14_Decimal_2.c)), (2, (sub [1, 1, 1, 1, 0] junctionref14_Decimal_2.c))]) (by kernel_rfl) ⟨junctionref14_Decimal_2.k0 k, junctionref14_Decimal_2.k1 k, junctionref14_Decimal_2.k2 k, trivial⟩) (fun _ => by kernel_rfl)
noncomputable def junctionref14_Decimal_2.ent (k : Nat) : EntS κ := ⟨27, [], entOf junctionref14_Decimal_2.i junctionref14_Decimal_2.p junctionref14_Decimal_2.b true (junctionref14_Decimal_2.f k) E⟩
theorem junctionref14_Decimal_2.entOk (k : Nat) : EntOk Tryd.prog E glob 27 (junctionref14_Decimal_2.ent k).run := ent_free encOk (callable_of Tryd.func27 (by kernel_rfl) (by kernel_rfl)) (by rfl) trivial (junctionref14_Decimal_2.call k)
noncomputable def junctionref14_Decimal_2.qent (k : Nat) : QEntS κ := ⟨27, qentOf junctionref14_Decimal_2.i junctionref14_Decimal_2.p (junctionref14_Decimal_2.f k) E⟩
theorem junctionref14_Decimal_2.qentOk (k : Nat) : QEntOk Tryd.prog E glob 27 (junctionref14_Decimal_2.qent k).run := qent_ok encOk (callable_of Tryd.func27 (by kernel_rfl) (by kernel_rfl)) (junctionref14_Decimal_2.call k)
noncomputable def junctionref14_Decimal_3.c : Go.Code := match Tryd.f27.body with | some c => c | none => .skip
theorem junctionref14_Decimal_3.hb : Tryd.f27.body = some junctionref14_Decimal_3.c := by kernel_rfl
noncomputable def junctionref14_Decimal_3.x (k : Nat) (ls : List (LamS κ)) : Ctx κ := mkCtx [junctionref1_Text.ent k, junctionref14_Decimal_2.ent k] [junctionref1_Text.qent k, junctionref14_Decimal_2.qent k] ls
def junctionref14_Decimal_3.i : List (Pat κ) := [.int .i64]
def junctionref14_Decimal_3.s0 : Sh κ := ⟨0, [0], [.int .i64], []⟩
def junctionref14_Decimal_3.o0 : List (Ex × Sh κ) := [(.normal, ⟨0, [9], [.bool], []⟩)]
noncomputable def junctionref14_Decimal_3.l0 (k : Nat) (t0 : Int) : Option ((Bool × Unit) × Unit) :=
    if Decidable.decide (t0 ≥ (-2147483648 : Int)) = Bool.true then Option.some ((Decidable.decide (t0 ≤ (2147483647 : Int)), ()), ())
    else Option.some ((Bool.false, ()), ())
def junctionref14_Decimal_3.w0 : List Nat := [4, 5, 6, 7, 8, 9]
noncomputable def junctionref14_Decimal_3.e0 (k : Nat) : junctionref14_Decimal_3.s0.den → Option (OutT junctionref14_Decimal_3.o0) := fun d => junctionref14_Decimal_3.l0 k d.1.1
noncomputable def junctionref14_Decimal_3.m0 (k : Nat) : LamS κ := ⟨lamK 28 junctionref14_Decimal_3.w0 junctionref14_Decimal_3.s0 junctionref14_Decimal_3.o0 (junctionref14_Decimal_3.e0 k)⟩
def junctionref14_Decimal_3.s1 : Sh κ := ⟨0, [3], [.int .i64], []⟩
def junctionref14_Decimal_3.o1 : List (Ex × Sh κ) := [(.normal, ⟨0, [3], [.int .i64], []⟩)]
noncomputable def junctionref14_Decimal_3.l1 (k : Nat) (t3 : Int) : Option ((Int × Unit) × Unit) :=
    if Decidable.decide (t3 < (0 : Int)) = Bool.true then Option.some ((Go.IntKind.wrap Go.IntKind.i64 ((0 : Int) - t3), ()), ()) else Option.some ((t3, ()), ())
def junctionref14_Decimal_3.w1 : List Nat := [15, 16, 17, 18, 3]
noncomputable def junctionref14_Decimal_3.e1 (k : Nat) : junctionref14_Decimal_3.s1.den → Option (OutT junctionref14_Decimal_3.o1) := fun d => junctionref14_Decimal_3.l1 k d.1.1
noncomputable def junctionref14_Decimal_3.m1 (k : Nat) : LamS κ := ⟨lamK 28 junctionref14_Decimal_3.w1 junctionref14_Decimal_3.s1 junctionref14_Decimal_3.o1 (junctionref14_Decimal_3.e1 k)⟩
def junctionref14_Decimal_3.s2 : Sh κ := ⟨0, [0, 3], [.int .i64, .int .i64], []⟩
def junctionref14_Decimal_3.o2 : List (Ex × Sh κ) := [(.normal, ⟨0, [2], [.str], []⟩)]
noncomputable def junctionref14_Decimal_3.l2 (k : Nat) (t0 : Int) (t3 : Int) : Option ((ByteArray × Unit) × Unit) :=
    Option.bind (Go.Am.Tryd.junctionref14_Decimal_2 k (Go.Am.quo Go.IntKind.i64 t0 (10 : Int))) fun r0 =>
      Go.Am.tooLong
        (ByteArray.size (Prod.fst r0) +
          ByteArray.size (Go.strOfNums (List.map (fun x => x) [Go.IntKind.wrap Go.IntKind.u8 (Go.IntKind.wrap Go.IntKind.i64 ((48 : Int) + t3))])))
        (Option.some
          ((Prod.fst r0 ++ Go.strOfNums (List.map (fun x => x) [Go.IntKind.wrap Go.IntKind.u8 (Go.IntKind.wrap Go.IntKind.i64 ((48 : Int) + t3))]), ()), ()))
def junctionref14_Decimal_3.w2 : List Nat := [19, 20, 21, 22, 23, 24, 25, 26, 27, 2]
noncomputable def junctionref14_Decimal_3.e2 (k : Nat) : junctionref14_Decimal_3.s2.den → Option (OutT junctionref14_Decimal_3.o2) := fun d => junctionref14_Decimal_3.l2 k d.1.1 d.1.2.1
noncomputable def junctionref14_Decimal_3.m2 (k : Nat) : LamS κ := ⟨lamK 28 junctionref14_Decimal_3.w2 junctionref14_Decimal_3.s2 junctionref14_Decimal_3.o2 (junctionref14_Decimal_3.e2 k)⟩
def junctionref14_Decimal_3.t2 : Sched := (.take 0 (.take 1 (.take 3 (.take 4 (.take 5 (.all (.cons 2 (.all (.cons 6 (.all (.cons 7 (.take 8 (.take 9 .done)) .nil)) .nil)) (.cons 6 (.all (.cons 2 (.all (.cons 7 (.take 8 (.take 9 .done)) .nil)) (.cons 7 (.all (.cons 2 (.take 8 (.take 9 .done)) .nil)) .nil))) .nil))))))))
noncomputable def junctionref14_Decimal_3.p2 (k : Nat) (t0 : Int) (t3 : Int) (o : (ByteArray × Unit) × Unit) : Prop :=
    Go.Am.holds
        (Option.bind (Go.Am.Tryd.junctionref14_Decimal_2 k (Go.Am.quo Go.IntKind.i64 t0 (10 : Int))) fun r2 =>
          Option.some
            ((Go.Am.holds
                  (Go.Am.tooLong
                    (ByteArray.size (Prod.fst r2) +
                      ByteArray.size (Go.strOfNums (List.map (fun x => x) [Go.IntKind.wrap Go.IntKind.u8 (Go.IntKind.wrap Go.IntKind.i64 ((48 : Int) + t3))])))
                    (Option.some
                      (Option.some
                          ((Prod.fst r2 ++ Go.strOfNums (List.map (fun x => x) [Go.IntKind.wrap Go.IntKind.u8 (Go.IntKind.wrap Go.IntKind.i64 ((48 : Int) + t3))]),
                              ()),
                            ()) =
                        Option.some o))) ∧
                True) ∧
              True)) ∧
      (Go.Am.holds
            (Option.bind (Go.Am.Tryd.junctionref14_Decimal_2 k (Go.Am.quo Go.IntKind.i64 t0 (10 : Int))) fun r1 =>
              Option.some
                (Go.Am.holds
                    (Go.Am.tooLong
                      (ByteArray.size (Prod.fst r1) +
                        ByteArray.size (Go.strOfNums (List.map (fun x => x) [Go.IntKind.wrap Go.IntKind.u8 (Go.IntKind.wrap Go.IntKind.i64 ((48 : Int) + t3))])))
                      (Option.some
                        (Option.some
                            ((Prod.fst r1 ++
                                  Go.strOfNums (List.map (fun x => x) [Go.IntKind.wrap Go.IntKind.u8 (Go.IntKind.wrap Go.IntKind.i64 ((48 : Int) + t3))]),
                                ()),
                              ()) =
                          Option.some o))) ∧
                  True)) ∧
          (Go.Am.holds
                (Option.bind (Go.Am.Tryd.junctionref14_Decimal_2 k (Go.Am.quo Go.IntKind.i64 t0 (10 : Int))) fun r0 =>
                  Option.some
                    (Go.Am.holds
                      (Go.Am.tooLong
                        (ByteArray.size (Prod.fst r0) +
                          ByteArray.size (Go.strOfNums (List.map (fun x => x) [Go.IntKind.wrap Go.IntKind.u8 (Go.IntKind.wrap Go.IntKind.i64 ((48 : Int) + t3))])))
                        (Option.some
                          (Option.some
                              ((Prod.fst r0 ++
                                    Go.strOfNums (List.map (fun x => x) [Go.IntKind.wrap Go.IntKind.u8 (Go.IntKind.wrap Go.IntKind.i64 ((48 : Int) + t3))]),
                                  ()),
                                ()) =
                            Option.some o))))) ∧
              True) ∧
            True) ∧
        True
theorem junctionref14_Decimal_3.q2 (k : Nat) (t0 : Int) (t3 : Int) (o : (ByteArray × Unit) × Unit) (h : junctionref14_Decimal_3.l2 k t0 t3 = some o) : junctionref14_Decimal_3.p2 k t0 t3 o := by
  unfold junctionref14_Decimal_3.l2 at h
  unfold junctionref14_Decimal_3.p2
  repeat' (first | split at h | (rw [Option.bind_eq_some_iff] at h; obtain ⟨_, _, h⟩ := h) | (rw [room_some] at h; obtain ⟨_, h⟩ := h) | (rw [tooLong_some] at h; obtain ⟨_, h⟩ := h))
  all_goals first | (cases h; done) | (cases h; simp only [Option.bind_some, room_pos, tooLong_pos, if_true, and_self, and_true, not_false_eq_true, holds, *]; done) | (cases h; simp [holds, room_pos, tooLong_pos, *])
def junctionref14_Decimal_3.p : Pat κ := .str
def junctionref14_Decimal_3.b : List (BPat κ) := []
noncomputable def junctionref14_Decimal_3 (k : Nat) (t0 : Int) : Option (ByteArray × Unit) :=
    Option.bind (Go.Am.Tryd.junctionref14_Decimal_3.l0 k t0) fun r0 =>
      if Prod.fst (Prod.fst r0) = Bool.true then
        Option.bind (Go.Am.Tryd.junctionref1_Text k (Go.IntKind.wrap Go.IntKind.i32 t0)) fun r1 => Option.some (Prod.fst r1, ())
      else
        Option.bind (Go.Am.Tryd.junctionref14_Decimal_3.l1 k (Go.Am.rem t0 (10 : Int))) fun r2 =>
          Option.bind (Go.Am.Tryd.junctionref14_Decimal_3.l2 k t0 (Prod.fst (Prod.fst r2))) fun r3 => Option.some (Prod.fst (Prod.fst r3), ())
noncomputable def junctionref14_Decimal_3.f (k : Nat) : dens junctionref14_Decimal_3.i → Option (junctionref14_Decimal_3.p.den × densB junctionref14_Decimal_3.b) := fun d => junctionref14_Decimal_3 k d.1
noncomputable def junctionref14_Decimal_3.ctx (k : Nat) : Ctx κ := junctionref14_Decimal_3.x k [junctionref14_Decimal_3.m0 k, junctionref14_Decimal_3.m1 k, junctionref14_Decimal_3.m2 k]
theorem junctionref14_Decimal_3.xOk (k : Nat) : (junctionref14_Decimal_3.ctx k).Ok := ctxOk ⟨junctionref1_Text.entOk k, junctionref14_Decimal_2.entOk k, trivial⟩ ⟨junctionref1_Text.qentOk k, junctionref14_Decimal_2.qentOk k, trivial⟩
theorem junctionref14_Decimal_3.k0 (k : Nat) : LamOk (junctionref14_Decimal_3.ctx k) ((junctionref14_Decimal_3.ctx k).Λ 0) (sub [1, 0, 0] junctionref14_Decimal_3.c) :=
  cut_ok (kindOf := kindOf) (C := junctionref14_Decimal_3.ctx k) (n := .none) (L := junctionref14_Decimal_3.e0 k) (junctionref14_Decimal_3.xOk k) (by kernel_rfl) (by kernel_rfl) (fits_of (l := []) (by kernel_rfl) trivial) (fun _ => by kernel_rfl)
theorem junctionref14_Decimal_3.k1 (k : Nat) : LamOk (junctionref14_Decimal_3.ctx k) ((junctionref14_Decimal_3.ctx k).Λ 1) (sub [1, 1, 1, 0] junctionref14_Decimal_3.c) :=
  cut_ok (kindOf := kindOf) (C := junctionref14_Decimal_3.ctx k) (n := .none) (L := junctionref14_Decimal_3.e1 k) (junctionref14_Decimal_3.xOk k) (by kernel_rfl) (by kernel_rfl) (fits_of (l := []) (by kernel_rfl) trivial) (fun _ => by kernel_rfl)
theorem junctionref14_Decimal_3.k2 (k : Nat) : LamOk (junctionref14_Decimal_3.ctx k) ((junctionref14_Decimal_3.ctx k).Λ 2) (sub [1, 1, 1, 1, 0] junctionref14_Decimal_3.c) :=
  tree_ok (kindOf := kindOf) (C := junctionref14_Decimal_3.ctx k) (L := junctionref14_Decimal_3.e2 k) (tr := junctionref14_Decimal_3.t2) (junctionref14_Decimal_3.xOk k) (by kernel_rfl) (by kernel_rfl) (by kernel_rfl) (by kernel_rfl) fun d o h => (show runs (junctionref14_Decimal_3.ctx k) kindOf _ junctionref14_Decimal_3.t2 _ _ = junctionref14_Decimal_3.p2 k d.1.1 d.1.2.1 o by kernel_rfl).mpr (junctionref14_Decimal_3.q2 k d.1.1 d.1.2.1 o (by unfold junctionref14_Decimal_3.e2 at h; exact h))
theorem junctionref14_Decimal_3.call (k : Nat) : CallV Tryd.prog E glob 27 junctionref14_Decimal_3.i junctionref14_Decimal_3.p junctionref14_Decimal_3.b (junctionref14_Decimal_3.f k) :=
  fn_okZ (kindOf := kindOf) (C := junctionref14_Decimal_3.ctx k) (n := (.pair .none (.pair (.pair (.cut 0) .none) (.pair .none (.pair (.cut 1) (.pair (.cut 2) .none)))))) (junctionref14_Decimal_3.xOk k) Tryd.func27 junctionref14_Decimal_3.hb (fits_of (l := [(0, (sub [1, 0, 0] junctionref14_Decimal_3.c)), (1, (sub [1, 1, 1, 0] junctionref14_Decimal_3.c)), (2, (sub [1, 1, 1, 1, 0] junctionref14_Decimal_3.c))]) (by kernel_rfl) ⟨junctionref14_Decimal_3.k0 k, junctionref14_Decimal_3.k1 k, junctionref14_Decimal_3.k2 k, trivial⟩) (fun _ => by kernel_rfl)
noncomputable def junctionref14_Decimal_3.ent (k : Nat) : EntS κ := ⟨27, [], entOf junctionref14_Decimal_3.i junctionref14_Decimal_3.p junctionref14_Decimal_3.b true (junctionref14_Decimal_3.f k) E⟩
theorem junctionref14_Decimal_3.entOk (k : Nat) : EntOk Tryd.prog E glob 27 (junctionref14_Decimal_3.ent k).run := ent_free encOk (callable_of Tryd.func27 (by kernel_rfl) (by kernel_rfl)) (by rfl) trivial (junctionref14_Decimal_3.call k)
noncomputable def junctionref14_Decimal_3.qent (k : Nat) : QEntS κ := ⟨27, qentOf junctionref14_Decimal_3.i junctionref14_Decimal_3.p (junctionref14_Decimal_3.f k) E⟩
theorem junctionref14_Decimal_3.qentOk (k : Nat) : QEntOk Tryd.prog E glob 27 (junctionref14_Decimal_3.qent k).run := qent_ok encOk (callable_of Tryd.func27 (by kernel_rfl) (by kernel_rfl)) (junctionref14_Decimal_3.call k)
noncomputable def junctionref14_Decimal_4.c : Go.Code := match Tryd.f27.body with | some c => c | none => .skip
theorem junctionref14_Decimal_4.hb : Tryd.f27.body = some junctionref14_Decimal_4.c := by kernel_rfl
noncomputable def junctionref14_Decimal_4.x (k : Nat) (ls : List (LamS κ)) : Ctx κ := mkCtx [junctionref1_Text.ent k, junctionref14_Decimal_3.ent k] [junctionref1_Text.qent k, junctionref14_Decimal_3.qent k] ls
def junctionref14_Decimal_4.i : List (Pat κ) := [.int .i64]
def junctionref14_Decimal_4.s0 : Sh κ := ⟨0, [0], [.int .i64], []⟩
def junctionref14_Decimal_4.o0 : List (Ex × Sh κ) := [(.normal, ⟨0, [9], [.bool], []⟩)]
noncomputable def junctionref14_Decimal_4.l0 (k : Nat) (t0 : Int) : Option ((Bool × Unit) × Unit) :=
    if Decidable.decide (t0 ≥ (-2147483648 : Int)) = Bool.true then Option.some ((Decidable.decide (t0 ≤ (2147483647 : Int)), ()), ())
    else Option.some ((Bool.false, ()), ())
def junctionref14_Decimal_4.w0 : List Nat := [4, 5, 6, 7, 8, 9]
noncomputable def junctionref14_Decimal_4.e0 (k : Nat) : junctionref14_Decimal_4.s0.den → Option (OutT junctionref14_Decimal_4.o0) := fun d => junctionref14_Decimal_4.l0 k d.1.1
noncomputable def junctionref14_Decimal_4.m0 (k : Nat) : LamS κ := ⟨lamK 28 junctionref14_Decimal_4.w0 junctionref14_Decimal_4.s0 junctionref14_Decimal_4.o0 (junctionref14_Decimal_4.e0 k)⟩
def junctionref14_Decimal_4.s1 : Sh κ := ⟨0, [3], [.int .i64], []⟩
def junctionref14_Decimal_4.o1 : List (Ex × Sh κ) := [(.normal, ⟨0, [3], [.int .i64], []⟩)]
noncomputable def junctionref14_Decimal_4.l1 (k : Nat) (t3 : Int) : Option ((Int × Unit) × Unit) :=
    if Decidable.decide (t3 < (0 : Int)) = Bool.true then Option.some ((Go.IntKind.wrap Go.IntKind.i64 ((0 : Int) - t3), ()), ()) else Option.some ((t3, ()), ())
def junctionref14_Decimal_4.w1 : List Nat := [15, 16, 17, 18, 3]
noncomputable def junctionref14_Decimal_4.e1 (k : Nat) : junctionref14_Decimal_4.s1.den → Option (OutT junctionref14_Decimal_4.o1) := fun d => junctionref14_Decimal_4.l1 k d.1.1
noncomputable def junctionref14_Decimal_4.m1 (k : Nat) : LamS κ := ⟨lamK 28 junctionref14_Decimal_4.w1 junctionref14_Decimal_4.s1 junctionref14_Decimal_4.o1 (junctionref14_Decimal_4.e1 k)⟩
def junctionref14_Decimal_4.s2 : Sh κ := ⟨0, [0, 3], [.int .i64, .int .i64], []⟩
def junctionref14_Decimal_4.o2 : List (Ex × Sh κ) := [(.normal, ⟨0, [2], [.str], []⟩)]
noncomputable def junctionref14_Decimal_4.l2 (k : Nat) (t0 : Int) (t3 : Int) : Option ((ByteArray × Unit) × Unit) :=
    Option.bind (Go.Am.Tryd.junctionref14_Decimal_3 k (Go.Am.quo Go.IntKind.i64 t0 (10 : Int))) fun r0 =>
      Go.Am.tooLong
        (ByteArray.size (Prod.fst r0) +
          ByteArray.size (Go.strOfNums (List.map (fun x => x) [Go.IntKind.wrap Go.IntKind.u8 (Go.IntKind.wrap Go.IntKind.i64 ((48 : Int) + t3))])))
        (Option.some
          ((Prod.fst r0 ++ Go.strOfNums (List.map (fun x => x) [Go.IntKind.wrap Go.IntKind.u8 (Go.IntKind.wrap Go.IntKind.i64 ((48 : Int) + t3))]), ()), ()))
def junctionref14_Decimal_4.w2 : List Nat := [19, 20, 21, 22, 23, 24, 25, 26, 27, 2]
noncomputable def junctionref14_Decimal_4.e2 (k : Nat) : junctionref14_Decimal_4.s2.den → Option (OutT junctionref14_Decimal_4.o2) := fun d => junctionref14_Decimal_4.l2 k d.1.1 d.1.2.1
noncomputable def junctionref14_Decimal_4.m2 (k : Nat) : LamS κ := ⟨lamK 28 junctionref14_Decimal_4.w2 junctionref14_Decimal_4.s2 junctionref14_Decimal_4.o2 (junctionref14_Decimal_4.e2 k)⟩
def junctionref14_Decimal_4.t2 : Sched := (.take 0 (.take 1 (.take 3 (.take 4 (.take 5 (.all (.cons 2 (.all (.cons 6 (.all (.cons 7 (.take 8 (.take 9 .done)) .nil)) .nil)) (.cons 6 (.all (.cons 2 (.all (.cons 7 (.take 8 (.take 9 .done)) .nil)) (.cons 7 (.all (.cons 2 (.take 8 (.take 9 .done)) .nil)) .nil))) .nil))))))))
noncomputable def junctionref14_Decimal_4.p2 (k : Nat) (t0 : Int) (t3 : Int) (o : (ByteArray × Unit) × Unit) : Prop :=
    Go.Am.holds
        (Option.bind (Go.Am.Tryd.junctionref14_Decimal_3 k (Go.Am.quo Go.IntKind.i64 t0 (10 : Int))) fun r2 =>
          Option.some
            ((Go.Am.holds
                  (Go.Am.tooLong
                    (ByteArray.size (Prod.fst r2) +
                      ByteArray.size (Go.strOfNums (List.map (fun x => x) [Go.IntKind.wrap Go.IntKind.u8 (Go.IntKind.wrap Go.IntKind.i64 ((48 : Int) + t3))])))
                    (Option.some
                      (Option.some
                          ((Prod.fst r2 ++ Go.strOfNums (List.map (fun x => x) [Go.IntKind.wrap Go.IntKind.u8 (Go.IntKind.wrap Go.IntKind.i64 ((48 : Int) + t3))]),
                              ()),
                            ()) =
                        Option.some o))) ∧
                True) ∧
              True)) ∧
      (Go.Am.holds
            (Option.bind (Go.Am.Tryd.junctionref14_Decimal_3 k (Go.Am.quo Go.IntKind.i64 t0 (10 : Int))) fun r1 =>
              Option.some
                (Go.Am.holds
                    (Go.Am.tooLong
                      (ByteArray.size (Prod.fst r1) +
                        ByteArray.size (Go.strOfNums (List.map (fun x => x) [Go.IntKind.wrap Go.IntKind.u8 (Go.IntKind.wrap Go.IntKind.i64 ((48 : Int) + t3))])))
                      (Option.some
                        (Option.some
                            ((Prod.fst r1 ++
                                  Go.strOfNums (List.map (fun x => x) [Go.IntKind.wrap Go.IntKind.u8 (Go.IntKind.wrap Go.IntKind.i64 ((48 : Int) + t3))]),
                                ()),
                              ()) =
                          Option.some o))) ∧
                  True)) ∧
          (Go.Am.holds
                (Option.bind (Go.Am.Tryd.junctionref14_Decimal_3 k (Go.Am.quo Go.IntKind.i64 t0 (10 : Int))) fun r0 =>
                  Option.some
                    (Go.Am.holds
                      (Go.Am.tooLong
                        (ByteArray.size (Prod.fst r0) +
                          ByteArray.size (Go.strOfNums (List.map (fun x => x) [Go.IntKind.wrap Go.IntKind.u8 (Go.IntKind.wrap Go.IntKind.i64 ((48 : Int) + t3))])))
                        (Option.some
                          (Option.some
                              ((Prod.fst r0 ++
                                    Go.strOfNums (List.map (fun x => x) [Go.IntKind.wrap Go.IntKind.u8 (Go.IntKind.wrap Go.IntKind.i64 ((48 : Int) + t3))]),
                                  ()),
                                ()) =
                            Option.some o))))) ∧
              True) ∧
            True) ∧
        True
theorem junctionref14_Decimal_4.q2 (k : Nat) (t0 : Int) (t3 : Int) (o : (ByteArray × Unit) × Unit) (h : junctionref14_Decimal_4.l2 k t0 t3 = some o) : junctionref14_Decimal_4.p2 k t0 t3 o := by
  unfold junctionref14_Decimal_4.l2 at h
  unfold junctionref14_Decimal_4.p2
  repeat' (first | split at h | (rw [Option.bind_eq_some_iff] at h; obtain ⟨_, _, h⟩ := h) | (rw [room_some] at h; obtain ⟨_, h⟩ := h) | (rw [tooLong_some] at h; obtain ⟨_, h⟩ := h))
  all_goals first | (cases h; done) | (cases h; simp only [Option.bind_some, room_pos, tooLong_pos, if_true, and_self, and_true, not_false_eq_true, holds, *]; done) | (cases h; simp [holds, room_pos, tooLong_pos, *])
def junctionref14_Decimal_4.p : Pat κ := .str
def junctionref14_Decimal_4.b : List (BPat κ) := []
noncomputable def junctionref14_Decimal_4 (k : Nat) (t0 : Int) : Option (ByteArray × Unit) :=
    Option.bind (Go.Am.Tryd.junctionref14_Decimal_4.l0 k t0) fun r0 =>
      if Prod.fst (Prod.fst r0) = Bool.true then
        Option.bind (Go.Am.Tryd.junctionref1_Text k (Go.IntKind.wrap Go.IntKind.i32 t0)) fun r1 => Option.some (Prod.fst r1, ())
      else
        Option.bind (Go.Am.Tryd.junctionref14_Decimal_4.l1 k (Go.Am.rem t0 (10 : Int))) fun r2 =>
          Option.bind (Go.Am.Tryd.junctionref14_Decimal_4.l2 k t0 (Prod.fst (Prod.fst r2))) fun r3 => Option.some (Prod.fst (Prod.fst r3), ())
noncomputable def junctionref14_Decimal_4.f (k : Nat) : dens junctionref14_Decimal_4.i → Option (junctionref14_Decimal_4.p.den × densB junctionref14_Decimal_4.b) := fun d => junctionref14_Decimal_4 k d.1
noncomputable def junctionref14_Decimal_4.ctx (k : Nat) : Ctx κ := junctionref14_Decimal_4.x k [junctionref14_Decimal_4.m0 k, junctionref14_Decimal_4.m1 k, junctionref14_Decimal_4.m2 k]
theorem junctionref14_Decimal_4.xOk (k : Nat) : (junctionref14_Decimal_4.ctx k).Ok := ctxOk ⟨junctionref1_Text.entOk k, junctionref14_Decimal_3.entOk k, trivial⟩ ⟨junctionref1_Text.qentOk k, junctionref14_Decimal_3.qentOk k, trivial⟩
theorem junctionref14_Decimal_4.k0 (k : Nat) : LamOk (junctionref14_Decimal_4.ctx k) ((junctionref14_Decimal_4.ctx k).Λ 0) (sub [1, 0, 0] junctionref14_Decimal_4.c) :=
  cut_ok (kindOf := kindOf) (C := junctionref14_Decimal_4.ctx k) (n := .none) (L := junctionref14_Decimal_4.e0 k) (junctionref14_Decimal_4.xOk k) (by kernel_rfl) (by kernel_rfl) (fits_of (l := []) (by kernel_rfl) trivial) (fun _ => by kernel_rfl)
theorem junctionref14_Decimal_4.k1 (k : Nat) : LamOk (junctionref14_Decimal_4.ctx k) ((junctionref14_Decimal_4.ctx k).Λ 1) (sub [1, 1, 1, 0] junctionref14_Decimal_4.c) :=
  cut_ok (kindOf := kindOf) (C := junctionref14_Decimal_4.ctx k) (n := .none) (L := junctionref14_Decimal_4.e1 k) (junctionref14_Decimal_4.xOk k) (by kernel_rfl) (by kernel_rfl) (fits_of (l := []) (by kernel_rfl) trivial) (fun _ => by kernel_rfl)
theorem junctionref14_Decimal_4.k2 (k : Nat) : LamOk (junctionref14_Decimal_4.ctx k) ((junctionref14_Decimal_4.ctx k).Λ 2) (sub [1, 1, 1, 1, 0] junctionref14_Decimal_4.c) :=
  tree_ok (kindOf := kindOf) (C := junctionref14_Decimal_4.ctx k) (L := junctionref14_Decimal_4.e2 k) (tr := junctionref14_Decimal_4.t2) (junctionref14_Decimal_4.xOk k) (by kernel_rfl) (by kernel_rfl) (by kernel_rfl) (by kernel_rfl) fun d o h => (show runs (junctionref14_Decimal_4.ctx k) kindOf _ junctionref14_Decimal_4.t2 _ _ = junctionref14_Decimal_4.p2 k d.1.1 d.1.2.1 o by kernel_rfl).mpr (junctionref14_Decimal_4.q2 k d.1.1 d.1.2.1 o (by unfold junctionref14_Decimal_4.e2 at h; exact h))
theorem junctionref14_Decimal_4.call (k : Nat) : CallV Tryd.prog E glob 27 junctionref14_Decimal_4.i junctionref14_Decimal_4.p junctionref14_Decimal_4.b (junctionref14_Decimal_4.f k) :=
  fn_okZ (kindOf := kindOf) (C := junctionref14_Decimal_4.ctx k) (n := (.pair .none (.pair (.pair (.cut 0) .none) (.pair .none (.pair (.cut 1) (.pair (.cut 2) .none)))))) (junctionref14_Decimal_4.xOk k) Tryd.func27 junctionref14_Decimal_4.hb (fits_of (l := [(0, (sub [1, 0, 0] junctionref14_Decimal_4.c)), (1, (sub [1, 1, 1, 0] junctionref14_Decimal_4.c)), (2, (sub [1, 1, 1, 1, 0] junctionref14_Decimal_4.c))]) (by kernel_rfl) ⟨junctionref14_Decimal_4.k0 k, junctionref14_Decimal_4.k1 k, junctionref14_Decimal_4.k2 k, trivial⟩) (fun _ => by kernel_rfl)
noncomputable def junctionref14_Decimal_4.ent (k : Nat) : EntS κ := ⟨27, [], entOf junctionref14_Decimal_4.i junctionref14_Decimal_4.p junctionref14_Decimal_4.b true (junctionref14_Decimal_4.f k) E⟩
theorem junctionref14_Decimal_4.entOk (k : Nat) : EntOk Tryd.prog E glob 27 (junctionref14_Decimal_4.ent k).run := ent_free encOk (callable_of Tryd.func27 (by kernel_rfl) (by kernel_rfl)) (by rfl) trivial (junctionref14_Decimal_4.call k)
noncomputable def junctionref14_Decimal_4.qent (k : Nat) : QEntS κ := ⟨27, qentOf junctionref14_Decimal_4.i junctionref14_Decimal_4.p (junctionref14_Decimal_4.f k) E⟩
theorem junctionref14_Decimal_4.qentOk (k : Nat) : QEntOk Tryd.prog E glob 27 (junctionref14_Decimal_4.qent k).run := qent_ok encOk (callable_of Tryd.func27 (by kernel_rfl) (by kernel_rfl)) (junctionref14_Decimal_4.call k)
noncomputable def junctionref14_Decimal_5.c : Go.Code := match Tryd.f27.body with | some c => c | none => .skip
theorem junctionref14_Decimal_5.hb : Tryd.f27.body = some junctionref14_Decimal_5.c := by kernel_rfl
noncomputable def junctionref14_Decimal_5.x (k : Nat) (ls : List (LamS κ)) : Ctx κ := mkCtx [junctionref1_Text.ent k, junctionref14_Decimal_4.ent k] [junctionref1_Text.qent k, junctionref14_Decimal_4.qent k] ls
def junctionref14_Decimal_5.i : List (Pat κ) := [.int .i64]
def junctionref14_Decimal_5.s0 : Sh κ := ⟨0, [0], [.int .i64], []⟩
def junctionref14_Decimal_5.o0 : List (Ex × Sh κ) := [(.normal, ⟨0, [9], [.bool], []⟩)]
noncomputable def junctionref14_Decimal_5.l0 (k : Nat) (t0 : Int) : Option ((Bool × Unit) × Unit) :=
    if Decidable.decide (t0 ≥ (-2147483648 : Int)) = Bool.true then Option.some ((Decidable.decide (t0 ≤ (2147483647 : Int)), ()), ())
    else Option.some ((Bool.false, ()), ())
def junctionref14_Decimal_5.w0 : List Nat := [4, 5, 6, 7, 8, 9]
noncomputable def junctionref14_Decimal_5.e0 (k : Nat) : junctionref14_Decimal_5.s0.den → Option (OutT junctionref14_Decimal_5.o0) := fun d => junctionref14_Decimal_5.l0 k d.1.1
noncomputable def junctionref14_Decimal_5.m0 (k : Nat) : LamS κ := ⟨lamK 28 junctionref14_Decimal_5.w0 junctionref14_Decimal_5.s0 junctionref14_Decimal_5.o0 (junctionref14_Decimal_5.e0 k)⟩
def junctionref14_Decimal_5.s1 : Sh κ := ⟨0, [3], [.int .i64], []⟩
def junctionref14_Decimal_5.o1 : List (Ex × Sh κ) := [(.normal, ⟨0, [3], [.int .i64], []⟩)]
noncomputable def junctionref14_Decimal_5.l1 (k : Nat) (t3 : Int) : Option ((Int × Unit) × Unit) :=
    if Decidable.decide (t3 < (0 : Int)) = Bool.true then Option.some ((Go.IntKind.wrap Go.IntKind.i64 ((0 : Int) - t3), ()), ()) else Option.some ((t3, ()), ())
def junctionref14_Decimal_5.w1 : List Nat := [15, 16, 17, 18, 3]
noncomputable def junctionref14_Decimal_5.e1 (k : Nat) : junctionref14_Decimal_5.s1.den → Option (OutT junctionref14_Decimal_5.o1) := fun d => junctionref14_Decimal_5.l1 k d.1.1
noncomputable def junctionref14_Decimal_5.m1 (k : Nat) : LamS κ := ⟨lamK 28 junctionref14_Decimal_5.w1 junctionref14_Decimal_5.s1 junctionref14_Decimal_5.o1 (junctionref14_Decimal_5.e1 k)⟩
def junctionref14_Decimal_5.s2 : Sh κ := ⟨0, [0, 3], [.int .i64, .int .i64], []⟩
def junctionref14_Decimal_5.o2 : List (Ex × Sh κ) := [(.normal, ⟨0, [2], [.str], []⟩)]
noncomputable def junctionref14_Decimal_5.l2 (k : Nat) (t0 : Int) (t3 : Int) : Option ((ByteArray × Unit) × Unit) :=
    Option.bind (Go.Am.Tryd.junctionref14_Decimal_4 k (Go.Am.quo Go.IntKind.i64 t0 (10 : Int))) fun r0 =>
      Go.Am.tooLong
        (ByteArray.size (Prod.fst r0) +
          ByteArray.size (Go.strOfNums (List.map (fun x => x) [Go.IntKind.wrap Go.IntKind.u8 (Go.IntKind.wrap Go.IntKind.i64 ((48 : Int) + t3))])))
        (Option.some
          ((Prod.fst r0 ++ Go.strOfNums (List.map (fun x => x) [Go.IntKind.wrap Go.IntKind.u8 (Go.IntKind.wrap Go.IntKind.i64 ((48 : Int) + t3))]), ()), ()))
def junctionref14_Decimal_5.w2 : List Nat := [19, 20, 21, 22, 23, 24, 25, 26, 27, 2]
noncomputable def junctionref14_Decimal_5.e2 (k : Nat) : junctionref14_Decimal_5.s2.den → Option (OutT junctionref14_Decimal_5.o2) := fun d => junctionref14_Decimal_5.l2 k d.1.1 d.1.2.1
noncomputable def junctionref14_Decimal_5.m2 (k : Nat) : LamS κ := ⟨lamK 28 junctionref14_Decimal_5.w2 junctionref14_Decimal_5.s2 junctionref14_Decimal_5.o2 (junctionref14_Decimal_5.e2 k)⟩
def junctionref14_Decimal_5.t2 : Sched := (.take 0 (.take 1 (.take 3 (.take 4 (.take 5 (.all (.cons 2 (.all (.cons 6 (.all (.cons 7 (.take 8 (.take 9 .done)) .nil)) .nil)) (.cons 6 (.all (.cons 2 (.all (.cons 7 (.take 8 (.take 9 .done)) .nil)) (.cons 7 (.all (.cons 2 (.take 8 (.take 9 .done)) .nil)) .nil))) .nil))))))))
noncomputable def junctionref14_Decimal_5.p2 (k : Nat) (t0 : Int) (t3 : Int) (o : (ByteArray × Unit) × Unit) : Prop :=
    Go.Am.holds
        (Option.bind (Go.Am.Tryd.junctionref14_Decimal_4 k (Go.Am.quo Go.IntKind.i64 t0 (10 : Int))) fun r2 =>
          Option.some
            ((Go.Am.holds
                  (Go.Am.tooLong
                    (ByteArray.size (Prod.fst r2) +
                      ByteArray.size (Go.strOfNums (List.map (fun x => x) [Go.IntKind.wrap Go.IntKind.u8 (Go.IntKind.wrap Go.IntKind.i64 ((48 : Int) + t3))])))
                    (Option.some
                      (Option.some
                          ((Prod.fst r2 ++ Go.strOfNums (List.map (fun x => x) [Go.IntKind.wrap Go.IntKind.u8 (Go.IntKind.wrap Go.IntKind.i64 ((48 : Int) + t3))]),
                              ()),
                            ()) =
                        Option.some o))) ∧
                True) ∧
              True)) ∧
      (Go.Am.holds
            (Option.bind (Go.Am.Tryd.junctionref14_Decimal_4 k (Go.Am.quo Go.IntKind.i64 t0 (10 : Int))) fun r1 =>
              Option.some
                (Go.Am.holds
                    (Go.Am.tooLong
                      (ByteArray.size (Prod.fst r1) +
                        ByteArray.size (Go.strOfNums (List.map (fun x => x) [Go.IntKind.wrap Go.IntKind.u8 (Go.IntKind.wrap Go.IntKind.i64 ((48 : Int) + t3))])))
                      (Option.some
                        (Option.some
                            ((Prod.fst r1 ++
                                  Go.strOfNums (List.map (fun x => x) [Go.IntKind.wrap Go.IntKind.u8 (Go.IntKind.wrap Go.IntKind.i64 ((48 : Int) + t3))]),
                                ()),
                              ()) =
                          Option.some o))) ∧
                  True)) ∧
          (Go.Am.holds
                (Option.bind (Go.Am.Tryd.junctionref14_Decimal_4 k (Go.Am.quo Go.IntKind.i64 t0 (10 : Int))) fun r0 =>
                  Option.some
                    (Go.Am.holds
                      (Go.Am.tooLong
                        (ByteArray.size (Prod.fst r0) +
                          ByteArray.size (Go.strOfNums (List.map (fun x => x) [Go.IntKind.wrap Go.IntKind.u8 (Go.IntKind.wrap Go.IntKind.i64 ((48 : Int) + t3))])))
                        (Option.some
                          (Option.some
                              ((Prod.fst r0 ++
                                    Go.strOfNums (List.map (fun x => x) [Go.IntKind.wrap Go.IntKind.u8 (Go.IntKind.wrap Go.IntKind.i64 ((48 : Int) + t3))]),
                                  ()),
                                ()) =
                            Option.some o))))) ∧
              True) ∧
            True) ∧
        True
theorem junctionref14_Decimal_5.q2 (k : Nat) (t0 : Int) (t3 : Int) (o : (ByteArray × Unit) × Unit) (h : junctionref14_Decimal_5.l2 k t0 t3 = some o) : junctionref14_Decimal_5.p2 k t0 t3 o := by
  unfold junctionref14_Decimal_5.l2 at h
  unfold junctionref14_Decimal_5.p2
  repeat' (first | split at h | (rw [Option.bind_eq_some_iff] at h; obtain ⟨_, _, h⟩ := h) | (rw [room_some] at h; obtain ⟨_, h⟩ := h) | (rw [tooLong_some] at h; obtain ⟨_, h⟩ := h))
  all_goals first | (cases h; done) | (cases h; simp only [Option.bind_some, room_pos, tooLong_pos, if_true, and_self, and_true, not_false_eq_true, holds, *]; done) | (cases h; simp [holds, room_pos, tooLong_pos, *])
def junctionref14_Decimal_5.p : Pat κ := .str
def junctionref14_Decimal_5.b : List (BPat κ) := []
noncomputable def junctionref14_Decimal_5 (k : Nat) (t0 : Int) : Option (ByteArray × Unit) :=
    Option.bind (Go.Am.Tryd.junctionref14_Decimal_5.l0 k t0) fun r0 =>
      if Prod.fst (Prod.fst r0) = Bool.true then
        Option.bind (Go.Am.Tryd.junctionref1_Text k (Go.IntKind.wrap Go.IntKind.i32 t0)) fun r1 => Option.some (Prod.fst r1, ())
      else
        Option.bind (Go.Am.Tryd.junctionref14_Decimal_5.l1 k (Go.Am.rem t0 (10 : Int))) fun r2 =>
          Option.bind (Go.Am.Tryd.junctionref14_Decimal_5.l2 k t0 (Prod.fst (Prod.fst r2))) fun r3 => Option.some (Prod.fst (Prod.fst r3), ())
noncomputable def junctionref14_Decimal_5.f (k : Nat) : dens junctionref14_Decimal_5.i → Option (junctionref14_Decimal_5.p.den × densB junctionref14_Decimal_5.b) := fun d => junctionref14_Decimal_5 k d.1
noncomputable def junctionref14_Decimal_5.ctx (k : Nat) : Ctx κ := junctionref14_Decimal_5.x k [junctionref14_Decimal_5.m0 k, junctionref14_Decimal_5.m1 k, junctionref14_Decimal_5.m2 k]
theorem junctionref14_Decimal_5.xOk (k : Nat) : (junctionref14_Decimal_5.ctx k).Ok := ctxOk ⟨junctionref1_Text.entOk k, junctionref14_Decimal_4.entOk k, trivial⟩ ⟨junctionref1_Text.qentOk k, junctionref14_Decimal_4.qentOk k, trivial⟩
theorem junctionref14_Decimal_5.k0 (k : Nat) : LamOk (junctionref14_Decimal_5.ctx k) ((junctionref14_Decimal_5.ctx k).Λ 0) (sub [1, 0, 0] junctionref14_Decimal_5.c) :=
  cut_ok (kindOf := kindOf) (C := junctionref14_Decimal_5.ctx k) (n := .none) (L := junctionref14_Decimal_5.e0 k) (junctionref14_Decimal_5.xOk k) (by kernel_rfl) (by kernel_rfl) (fits_of (l := []) (by kernel_rfl) trivial) (fun _ => by kernel_rfl)
theorem junctionref14_Decimal_5.k1 (k : Nat) : LamOk (junctionref14_Decimal_5.ctx k) ((junctionref14_Decimal_5.ctx k).Λ 1) (sub [1, 1, 1, 0] junctionref14_Decimal_5.c) :=
  cut_ok (kindOf := kindOf) (C := junctionref14_Decimal_5.ctx k) (n := .none) (L := junctionref14_Decimal_5.e1 k) (junctionref14_Decimal_5.xOk k) (by kernel_rfl) (by kernel_rfl) (fits_of (l := []) (by kernel_rfl) trivial) (fun _ => by kernel_rfl)
theorem junctionref14_Decimal_5.k2 (k : Nat) : LamOk (junctionref14_Decimal_5.ctx k) ((junctionref14_Decimal_5.ctx k).Λ 2) (sub [1, 1, 1, 1, 0] junctionref14_Decimal_5.c) :=
  tree_ok (kindOf := kindOf) (C := junctionref14_Decimal_5.ctx k) (L := junctionref14_Decimal_5.e2 k) (tr := junctionref14_Decimal_5.t2) (junctionref14_Decimal_5.xOk k) (by kernel_rfl) (by kernel_rfl) (by kernel_rfl) (by kernel_rfl) fun d o h => (show runs (junctionref14_Decimal_5.ctx k) kindOf _ junctionref14_Decimal_5.t2 _ _ = junctionref14_Decimal_5.p2 k d.1.1 d.1.2.1 o by kernel_rfl).mpr (junctionref14_Decimal_5.q2 k d.1.1 d.1.2.1 o (by unfold junctionref14_Decimal_5.e2 at h; exact h))
theorem junctionref14_Decimal_5.call (k : Nat) : CallV Tryd.prog E glob 27 junctionref14_Decimal_5.i junctionref14_Decimal_5.p junctionref14_Decimal_5.b (junctionref14_Decimal_5.f k) :=
  fn_okZ (kindOf := kindOf) (C := junctionref14_Decimal_5.ctx k) (n := (.pair .none (.pair (.pair (.cut 0) .none) (.pair .none (.pair (.cut 1) (.pair (.cut 2) .none)))))) (junctionref14_Decimal_5.xOk k) Tryd.func27 junctionref14_Decimal_5.hb (fits_of (l := [(0, (sub [1, 0, 0] junctionref14_Decimal_5.c)), (1, (sub [1, 1, 1, 0] junctionref14_Decimal_5.c)), (2, (sub [1, 1, 1, 1, 0] junctionref14_Decimal_5.c))]) (by kernel_rfl) ⟨junctionref14_Decimal_5.k0 k, junctionref14_Decimal_5.k1 k, junctionref14_Decimal_5.k2 k, trivial⟩) (fun _ => by kernel_rfl)
noncomputable def junctionref14_Decimal_5.ent (k : Nat) : EntS κ := ⟨27, [], entOf junctionref14_Decimal_5.i junctionref14_Decimal_5.p junctionref14_Decimal_5.b true (junctionref14_Decimal_5.f k) E⟩
theorem junctionref14_Decimal_5.entOk (k : Nat) : EntOk Tryd.prog E glob 27 (junctionref14_Decimal_5.ent k).run := ent_free encOk (callable_of Tryd.func27 (by kernel_rfl) (by kernel_rfl)) (by rfl) trivial (junctionref14_Decimal_5.call k)
noncomputable def junctionref14_Decimal_5.qent (k : Nat) : QEntS κ := ⟨27, qentOf junctionref14_Decimal_5.i junctionref14_Decimal_5.p (junctionref14_Decimal_5.f k) E⟩
theorem junctionref14_Decimal_5.qentOk (k : Nat) : QEntOk Tryd.prog E glob 27 (junctionref14_Decimal_5.qent k).run := qent_ok encOk (callable_of Tryd.func27 (by kernel_rfl) (by kernel_rfl)) (junctionref14_Decimal_5.call k)
noncomputable def junctionref14_Decimal_6.c : Go.Code := match Tryd.f27.body with | some c => c | none => .skip
theorem junctionref14_Decimal_6.hb : Tryd.f27.body = some junctionref14_Decimal_6.c := by kernel_rfl
noncomputable def junctionref14_Decimal_6.x (k : Nat) (ls : List (LamS κ)) : Ctx κ := mkCtx [junctionref1_Text.ent k, junctionref14_Decimal_5.ent k] [junctionref1_Text.qent k, junctionref14_Decimal_5.qent k] ls
def junctionref14_Decimal_6.i : List (Pat κ) := [.int .i64]
def junctionref14_Decimal_6.s0 : Sh κ := ⟨0, [0], [.int .i64], []⟩
def junctionref14_Decimal_6.o0 : List (Ex × Sh κ) := [(.normal, ⟨0, [9], [.bool], []⟩)]
noncomputable def junctionref14_Decimal_6.l0 (k : Nat) (t0 : Int) : Option ((Bool × Unit) × Unit) :=
    if Decidable.decide (t0 ≥ (-2147483648 : Int)) = Bool.true then Option.some ((Decidable.decide (t0 ≤ (2147483647 : Int)), ()), ())
    else Option.some ((Bool.false, ()), ())
def junctionref14_Decimal_6.w0 : List Nat := [4, 5, 6, 7, 8, 9]
noncomputable def junctionref14_Decimal_6.e0 (k : Nat) : junctionref14_Decimal_6.s0.den → Option (OutT junctionref14_Decimal_6.o0) := fun d => junctionref14_Decimal_6.l0 k d.1.1
noncomputable def junctionref14_Decimal_6.m0 (k : Nat) : LamS κ := ⟨lamK 28 junctionref14_Decimal_6.w0 junctionref14_Decimal_6.s0 junctionref14_Decimal_6.o0 (junctionref14_Decimal_6.e0 k)⟩
def junctionref14_Decimal_6.s1 : Sh κ := ⟨0, [3], [.int .i64], []⟩
def junctionref14_Decimal_6.o1 : List (Ex × Sh κ) := [(.normal, ⟨0, [3], [.int .i64], []⟩)]
noncomputable def junctionref14_Decimal_6.l1 (k : Nat) (t3 : Int) : Option ((Int × Unit) × Unit) :=
    if Decidable.decide (t3 < (0 : Int)) = Bool.true then Option.some ((Go.IntKind.wrap Go.IntKind.i64 ((0 : Int) - t3), ()), ()) else Option.some ((t3, ()), ())
def junctionref14_Decimal_6.w1 : List Nat := [15, 16, 17, 18, 3]
noncomputable def junctionref14_Decimal_6.e1 (k : Nat) : junctionref14_Decimal_6.s1.den → Option (OutT junctionref14_Decimal_6.o1) := fun d => junctionref14_Decimal_6.l1 k d.1.1
noncomputable def junctionref14_Decimal_6.m1 (k : Nat) : LamS κ := ⟨lamK 28 junctionref14_Decimal_6.w1 junctionref14_Decimal_6.s1 junctionref14_Decimal_6.o1 (junctionref14_Decimal_6.e1 k)⟩
def junctionref14_Decimal_6.s2 : Sh κ := ⟨0, [0, 3], [.int .i64, .int .i64], []⟩
def junctionref14_Decimal_6.o2 : List (Ex × Sh κ) := [(.normal, ⟨0, [2], [.str], []⟩)]
noncomputable def junctionref14_Decimal_6.l2 (k : Nat) (t0 : Int) (t3 : Int) : Option ((ByteArray × Unit) × Unit) :=
    Option.bind (Go.Am.Tryd.junctionref14_Decimal_5 k (Go.Am.quo Go.IntKind.i64 t0 (10 : Int))) fun r0 =>
      Go.Am.tooLong
        (ByteArray.size (Prod.fst r0) +
          ByteArray.size (Go.strOfNums (List.map (fun x => x) [Go.IntKind.wrap Go.IntKind.u8 (Go.IntKind.wrap Go.IntKind.i64 ((48 : Int) + t3))])))
        (Option.some
          ((Prod.fst r0 ++ Go.strOfNums (List.map (fun x => x) [Go.IntKind.wrap Go.IntKind.u8 (Go.IntKind.wrap Go.IntKind.i64 ((48 : Int) + t3))]), ()), ()))
def junctionref14_Decimal_6.w2 : List Nat := [19, 20, 21, 22, 23, 24, 25, 26, 27, 2]
noncomputable def junctionref14_Decimal_6.e2 (k : Nat) : junctionref14_Decimal_6.s2.den → Option (OutT junctionref14_Decimal_6.o2) := fun d => junctionref14_Decimal_6.l2 k d.1.1 d.1.2.1
noncomputable def junctionref14_Decimal_6.m2 (k : Nat) : LamS κ := ⟨lamK 28 junctionref14_Decimal_6.w2 junctionref14_Decimal_6.s2 junctionref14_Decimal_6.o2 (junctionref14_Decimal_6.e2 k)⟩
def junctionref14_Decimal_6.t2 : Sched := (.take 0 (.take 1 (.take 3 (.take 4 (.take 5 (.all (.cons 2 (.all (.cons 6 (.all (.cons 7 (.take 8 (.take 9 .done)) .nil)) .nil)) (.cons 6 (.all (.cons 2 (.all (.cons 7 (.take 8 (.take 9 .done)) .nil)) (.cons 7 (.all (.cons 2 (.take 8 (.take 9 .done)) .nil)) .nil))) .nil))))))))
noncomputable def junctionref14_Decimal_6.p2 (k : Nat) (t0 : Int) (t3 : Int) (o : (ByteArray × Unit) × Unit) : Prop :=
    Go.Am.holds
        (Option.bind (Go.Am.Tryd.junctionref14_Decimal_5 k (Go.Am.quo Go.IntKind.i64 t0 (10 : Int))) fun r2 =>
          Option.some
            ((Go.Am.holds
                  (Go.Am.tooLong
                    (ByteArray.size (Prod.fst r2) +
                      ByteArray.size (Go.strOfNums (List.map (fun x => x) [Go.IntKind.wrap Go.IntKind.u8 (Go.IntKind.wrap Go.IntKind.i64 ((48 : Int) + t3))])))
                    (Option.some
                      (Option.some
                          ((Prod.fst r2 ++ Go.strOfNums (List.map (fun x => x) [Go.IntKind.wrap Go.IntKind.u8 (Go.IntKind.wrap Go.IntKind.i64 ((48 : Int) + t3))]),
                              ()),
                            ()) =
                        Option.some o))) ∧
                True) ∧
              True)) ∧
      (Go.Am.holds
            (Option.bind (Go.Am.Tryd.junctionref14_Decimal_5 k (Go.Am.quo Go.IntKind.i64 t0 (10 : Int))) fun r1 =>
              Option.some
                (Go.Am.holds
                    (Go.Am.tooLong
                      (ByteArray.size (Prod.fst r1) +
                        ByteArray.size (Go.strOfNums (List.map (fun x => x) [Go.IntKind.wrap Go.IntKind.u8 (Go.IntKind.wrap Go.IntKind.i64 ((48 : Int) + t3))])))
                      (Option.some
                        (Option.some
                            ((Prod.fst r1 ++
                                  Go.strOfNums (List.map (fun x => x) [Go.IntKind.wrap Go.IntKind.u8 (Go.IntKind.wrap Go.IntKind.i64 ((48 : Int) + t3))]),
                                ()),
                              ()) =
                          Option.some o))) ∧
                  True)) ∧
          (Go.Am.holds
                (Option.bind (Go.Am.Tryd.junctionref14_Decimal_5 k (Go.Am.quo Go.IntKind.i64 t0 (10 : Int))) fun r0 =>
                  Option.some
                    (Go.Am.holds
                      (Go.Am.tooLong
                        (ByteArray.size (Prod.fst r0) +
                          ByteArray.size (Go.strOfNums (List.map (fun x => x) [Go.IntKind.wrap Go.IntKind.u8 (Go.IntKind.wrap Go.IntKind.i64 ((48 : Int) + t3))])))
                        (Option.some
                          (Option.some
                              ((Prod.fst r0 ++
                                    Go.strOfNums (List.map (fun x => x) [Go.IntKind.wrap Go.IntKind.u8 (Go.IntKind.wrap Go.IntKind.i64 ((48 : Int) + t3))]),
                                  ()),
                                ()) =
                            Option.some o))))) ∧
              True) ∧
            True) ∧
        True
theorem junctionref14_Decimal_6.q2 (k : Nat) (t0 : Int) (t3 : Int) (o : (ByteArray × Unit) × Unit) (h : junctionref14_Decimal_6.l2 k t0 t3 = some o) : junctionref14_Decimal_6.p2 k t0 t3 o := by
  unfold junctionref14_Decimal_6.l2 at h
  unfold junctionref14_Decimal_6.p2
  repeat' (first | split at h | (rw [Option.bind_eq_some_iff] at h; obtain ⟨_, _, h⟩ := h) | (rw [room_some] at h; obtain ⟨_, h⟩ := h) | (rw [tooLong_some] at h; obtain ⟨_, h⟩ := h))
  all_goals first | (cases h; done) | (cases h; simp only [Option.bind_some, room_pos, tooLong_pos, if_true, and_self, and_true, not_false_eq_true, holds, *]; done) | (cases h; simp [holds, room_pos, tooLong_pos, *])
def junctionref14_Decimal_6.p : Pat κ := .str
def junctionref14_Decimal_6.b : List (BPat κ) := []
noncomputable def junctionref14_Decimal_6 (k : Nat) (t0 : Int) : Option (ByteArray × Unit) :=
    Option.bind (Go.Am.Tryd.junctionref14_Decimal_6.l0 k t0) fun r0 =>
      if Prod.fst (Prod.fst r0) = Bool.true then
        Option.bind (Go.Am.Tryd.junctionref1_Text k (Go.IntKind.wrap Go.IntKind.i32 t0)) fun r1 => Option.some (Prod.fst r1, ())
      else
        Option.bind (Go.Am.Tryd.junctionref14_Decimal_6.l1 k (Go.Am.rem t0 (10 : Int))) fun r2 =>
          Option.bind (Go.Am.Tryd.junctionref14_Decimal_6.l2 k t0 (Prod.fst (Prod.fst r2))) fun r3 => Option.some (Prod.fst (Prod.fst r3), ())
noncomputable def junctionref14_Decimal_6.f (k : Nat) : dens junctionref14_Decimal_6.i → Option (junctionref14_Decimal_6.p.den × densB junctionref14_Decimal_6.b) := fun d => junctionref14_Decimal_6 k d.1
noncomputable def junctionref14_Decimal_6.ctx (k : Nat) : Ctx κ := junctionref14_Decimal_6.x k [junctionref14_Decimal_6.m0 k, junctionref14_Decimal_6.m1 k, junctionref14_Decimal_6.m2 k]
theorem junctionref14_Decimal_6.xOk (k : Nat) : (junctionref14_Decimal_6.ctx k).Ok := ctxOk ⟨junctionref1_Text.entOk k, junctionref14_Decimal_5.entOk k, trivial⟩ ⟨junctionref1_Text.qentOk k, junctionref14_Decimal_5.qentOk k, trivial⟩
theorem junctionref14_Decimal_6.k0 (k : Nat) : LamOk (junctionref14_Decimal_6.ctx k) ((junctionref14_Decimal_6.ctx k).Λ 0) (sub [1, 0, 0] junctionref14_Decimal_6.c) :=
  cut_ok (kindOf := kindOf) (C := junctionref14_Decimal_6.ctx k) (n := .none) (L := junctionref14_Decimal_6.e0 k) (junctionref14_Decimal_6.xOk k) (by kernel_rfl) (by kernel_rfl) (fits_of (l := []) (by kernel_rfl) trivial) (fun _ => by kernel_rfl)
theorem junctionref14_Decimal_6.k1 (k : Nat) : LamOk (junctionref14_Decimal_6.ctx k) ((junctionref14_Decimal_6.ctx k).Λ 1) (sub [1, 1, 1, 0] junctionref14_Decimal_6.c) :=
  cut_ok (kindOf := kindOf) (C := junctionref14_Decimal_6.ctx k) (n := .none) (L := junctionref14_Decimal_6.e1 k) (junctionref14_Decimal_6.xOk k) (by kernel_rfl) (by kernel_rfl) (fits_of (l := []) (by kernel_rfl) trivial) (fun _ => by kernel_rfl)
theorem junctionref14_Decimal_6.k2 (k : Nat) : LamOk (junctionref14_Decimal_6.ctx k) ((junctionref14_Decimal_6.ctx k).Λ 2) (sub [1, 1, 1, 1, 0] junctionref14_Decimal_6.c) :=
  tree_ok (kindOf := kindOf) (C := junctionref14_Decimal_6.ctx k) (L := junctionref14_Decimal_6.e2 k) (tr := junctionref14_Decimal_6.t2) (junctionref14_Decimal_6.xOk k) (by kernel_rfl) (by kernel_rfl) (by kernel_rfl) (by kernel_rfl) fun d o h => (show runs (junctionref14_Decimal_6.ctx k) kindOf _ junctionref14_Decimal_6.t2 _ _ = junctionref14_Decimal_6.p2 k d.1.1 d.1.2.1 o by kernel_rfl).mpr (junctionref14_Decimal_6.q2 k d.1.1 d.1.2.1 o (by unfold junctionref14_Decimal_6.e2 at h; exact h))
theorem junctionref14_Decimal_6.call (k : Nat) : CallV Tryd.prog E glob 27 junctionref14_Decimal_6.i junctionref14_Decimal_6.p junctionref14_Decimal_6.b (junctionref14_Decimal_6.f k) :=
  fn_okZ (kindOf := kindOf) (C := junctionref14_Decimal_6.ctx k) (n := (.pair .none (.pair (.pair (.cut 0) .none) (.pair .none (.pair (.cut 1) (.pair (.cut 2) .none)))))) (junctionref14_Decimal_6.xOk k) Tryd.func27 junctionref14_Decimal_6.hb (fits_of (l := [(0, (sub [1, 0, 0] junctionref14_Decimal_6.c)), (1, (sub [1, 1, 1, 0] junctionref14_Decimal_6.c)), (2, (sub [1, 1, 1, 1, 0] junctionref14_Decimal_6.c))]) (by kernel_rfl) ⟨junctionref14_Decimal_6.k0 k, junctionref14_Decimal_6.k1 k, junctionref14_Decimal_6.k2 k, trivial⟩) (fun _ => by kernel_rfl)
noncomputable def junctionref14_Decimal_6.ent (k : Nat) : EntS κ := ⟨27, [], entOf junctionref14_Decimal_6.i junctionref14_Decimal_6.p junctionref14_Decimal_6.b true (junctionref14_Decimal_6.f k) E⟩
theorem junctionref14_Decimal_6.entOk (k : Nat) : EntOk Tryd.prog E glob 27 (junctionref14_Decimal_6.ent k).run := ent_free encOk (callable_of Tryd.func27 (by kernel_rfl) (by kernel_rfl)) (by rfl) trivial (junctionref14_Decimal_6.call k)
noncomputable def junctionref14_Decimal_6.qent (k : Nat) : QEntS κ := ⟨27, qentOf junctionref14_Decimal_6.i junctionref14_Decimal_6.p (junctionref14_Decimal_6.f k) E⟩
theorem junctionref14_Decimal_6.qentOk (k : Nat) : QEntOk Tryd.prog E glob 27 (junctionref14_Decimal_6.qent k).run := qent_ok encOk (callable_of Tryd.func27 (by kernel_rfl) (by kernel_rfl)) (junctionref14_Decimal_6.call k)
noncomputable def junctionref14_Decimal_7.c : Go.Code := match Tryd.f27.body with | some c => c | none => .skip
theorem junctionref14_Decimal_7.hb : Tryd.f27.body = some junctionref14_Decimal_7.c := by kernel_rfl
noncomputable def junctionref14_Decimal_7.x (k : Nat) (ls : List (LamS κ)) : Ctx κ := mkCtx [junctionref1_Text.ent k, junctionref14_Decimal_6.ent k] [junctionref1_Text.qent k, junctionref14_Decimal_6.qent k] ls
def junctionref14_Decimal_7.i : List (Pat κ) := [.int .i64]
def junctionref14_Decimal_7.s0 : Sh κ := ⟨0, [0], [.int .i64], []⟩
def junctionref14_Decimal_7.o0 : List (Ex × Sh κ) := [(.normal, ⟨0, [9], [.bool], []⟩)]
noncomputable def junctionref14_Decimal_7.l0 (k : Nat) (t0 : Int) : Option ((Bool × Unit) × Unit) :=
    if Decidable.decide (t0 ≥ (-2147483648 : Int)) = Bool.true then Option.some ((Decidable.decide (t0 ≤ (2147483647 : Int)), ()), ())
    else Option.some ((Bool.false, ()), ())
def junctionref14_Decimal_7.w0 : List Nat := [4, 5, 6, 7, 8, 9]
noncomputable def junctionref14_Decimal_7.e0 (k : Nat) : junctionref14_Decimal_7.s0.den → Option (OutT junctionref14_Decimal_7.o0) := fun d => junctionref14_Decimal_7.l0 k d.1.1
noncomputable def junctionref14_Decimal_7.m0 (k : Nat) : LamS κ := ⟨lamK 28 junctionref14_Decimal_7.w0 junctionref14_Decimal_7.s0 junctionref14_Decimal_7.o0 (junctionref14_Decimal_7.e0 k)⟩
def junctionref14_Decimal_7.s1 : Sh κ := ⟨0, [3], [.int .i64], []⟩
def junctionref14_Decimal_7.o1 : List (Ex × Sh κ) := [(.normal, ⟨0, [3], [.int .i64], []⟩)]
noncomputable def junctionref14_Decimal_7.l1 (k : Nat) (t3 : Int) : Option ((Int × Unit) × Unit) :=
    if Decidable.decide (t3 < (0 : Int)) = Bool.true then Option.some ((Go.IntKind.wrap Go.IntKind.i64 ((0 : Int) - t3), ()), ()) else Option.some ((t3, ()), ())
def junctionref14_Decimal_7.w1 : List Nat := [15, 16, 17, 18, 3]
noncomputable def junctionref14_Decimal_7.e1 (k : Nat) : junctionref14_Decimal_7.s1.den → Option (OutT junctionref14_Decimal_7.o1) := fun d => junctionref14_Decimal_7.l1 k d.1.1
noncomputable def junctionref14_Decimal_7.m1 (k : Nat) : LamS κ := ⟨lamK 28 junctionref14_Decimal_7.w1 junctionref14_Decimal_7.s1 junctionref14_Decimal_7.o1 (junctionref14_Decimal_7.e1 k)⟩
def junctionref14_Decimal_7.s2 : Sh κ := ⟨0, [0, 3], [.int .i64, .int .i64], []⟩
def junctionref14_Decimal_7.o2 : List (Ex × Sh κ) := [(.normal, ⟨0, [2], [.str], []⟩)]
noncomputable def junctionref14_Decimal_7.l2 (k : Nat) (t0 : Int) (t3 : Int) : Option ((ByteArray × Unit) × Unit) :=
    Option.bind (Go.Am.Tryd.junctionref14_Decimal_6 k (Go.Am.quo Go.IntKind.i64 t0 (10 : Int))) fun r0 =>
      Go.Am.tooLong
        (ByteArray.size (Prod.fst r0) +
          ByteArray.size (Go.strOfNums (List.map (fun x => x) [Go.IntKind.wrap Go.IntKind.u8 (Go.IntKind.wrap Go.IntKind.i64 ((48 : Int) + t3))])))
        (Option.some
          ((Prod.fst r0 ++ Go.strOfNums (List.map (fun x => x) [Go.IntKind.wrap Go.IntKind.u8 (Go.IntKind.wrap Go.IntKind.i64 ((48 : Int) + t3))]), ()), ()))
def junctionref14_Decimal_7.w2 : List Nat := [19, 20, 21, 22, 23, 24, 25, 26, 27, 2]
noncomputable def junctionref14_Decimal_7.e2 (k : Nat) : junctionref14_Decimal_7.s2.den → Option (OutT junctionref14_Decimal_7.o2) := fun d => junctionref14_Decimal_7.l2 k d.1.1 d.1.2.1
noncomputable def junctionref14_Decimal_7.m2 (k : Nat) : LamS κ := ⟨lamK 28 junctionref14_Decimal_7.w2 junctionref14_Decimal_7.s2 junctionref14_Decimal_7.o2 (junctionref14_Decimal_7.e2 k)⟩
def junctionref14_Decimal_7.t2 : Sched := (.take 0 (.take 1 (.take 3 (.take 4 (.take 5 (.all (.cons 2 (.all (.cons 6 (.all (.cons 7 (.take 8 (.take 9 .done)) .nil)) .nil)) (.cons 6 (.all (.cons 2 (.all (.cons 7 (.take 8 (.take 9 .done)) .nil)) (.cons 7 (.all (.cons 2 (.take 8 (.take 9 .done)) .nil)) .nil))) .nil))))))))
noncomputable def junctionref14_Decimal_7.p2 (k : Nat) (t0 : Int) (t3 : Int) (o : (ByteArray × Unit) × Unit) : Prop :=
    Go.Am.holds
        (Option.bind (Go.Am.Tryd.junctionref14_Decimal_6 k (Go.Am.quo Go.IntKind.i64 t0 (10 : Int))) fun r2 =>
          Option.some
            ((Go.Am.holds
                  (Go.Am.tooLong
                    (ByteArray.size (Prod.fst r2) +
                      ByteArray.size (Go.strOfNums (List.map (fun x => x) [Go.IntKind.wrap Go.IntKind.u8 (Go.IntKind.wrap Go.IntKind.i64 ((48 : Int) + t3))])))
                    (Option.some
                      (Option.some
                          ((Prod.fst r2 ++ Go.strOfNums (List.map (fun x => x) [Go.IntKind.wrap Go.IntKind.u8 (Go.IntKind.wrap Go.IntKind.i64 ((48 : Int) + t3))]),
                              ()),
                            ()) =
                        Option.some o))) ∧
                True) ∧
              True)) ∧
      (Go.Am.holds
            (Option.bind (Go.Am.Tryd.junctionref14_Decimal_6 k (Go.Am.quo Go.IntKind.i64 t0 (10 : Int))) fun r1 =>
              Option.some
                (Go.Am.holds
                    (Go.Am.tooLong
                      (ByteArray.size (Prod.fst r1) +
                        ByteArray.size (Go.strOfNums (List.map (fun x => x) [Go.IntKind.wrap Go.IntKind.u8 (Go.IntKind.wrap Go.IntKind.i64 ((48 : Int) + t3))])))
                      (Option.some
                        (Option.some
                            ((Prod.fst r1 ++
                                  Go.strOfNums (List.map (fun x => x) [Go.IntKind.wrap Go.IntKind.u8 (Go.IntKind.wrap Go.IntKind.i64 ((48 : Int) + t3))]),
                                ()),
                              ()) =
                          Option.some o))) ∧
                  True)) ∧
          (Go.Am.holds
                (Option.bind (Go.Am.Tryd.junctionref14_Decimal_6 k (Go.Am.quo Go.IntKind.i64 t0 (10 : Int))) fun r0 =>
                  Option.some
                    (Go.Am.holds
                      (Go.Am.tooLong
                        (ByteArray.size (Prod.fst r0) +
                          ByteArray.size (Go.strOfNums (List.map (fun x => x) [Go.IntKind.wrap Go.IntKind.u8 (Go.IntKind.wrap Go.IntKind.i64 ((48 : Int) + t3))])))
                        (Option.some
                          (Option.some
                              ((Prod.fst r0 ++
                                    Go.strOfNums (List.map (fun x => x) [Go.IntKind.wrap Go.IntKind.u8 (Go.IntKind.wrap Go.IntKind.i64 ((48 : Int) + t3))]),
                                  ()),
                                ()) =
                            Option.some o))))) ∧
              True) ∧
            True) ∧
        True
theorem junctionref14_Decimal_7.q2 (k : Nat) (t0 : Int) (t3 : Int) (o : (ByteArray × Unit) × Unit) (h : junctionref14_Decimal_7.l2 k t0 t3 = some o) : junctionref14_Decimal_7.p2 k t0 t3 o := by
  unfold junctionref14_Decimal_7.l2 at h
  unfold junctionref14_Decimal_7.p2
  repeat' (first | split at h | (rw [Option.bind_eq_some_iff] at h; obtain ⟨_, _, h⟩ := h) | (rw [room_some] at h; obtain ⟨_, h⟩ := h) | (rw [tooLong_some] at h; obtain ⟨_, h⟩ := h))
  all_goals first | (cases h; done) | (cases h; simp only [Option.bind_some, room_pos, tooLong_pos, if_true, and_self, and_true, not_false_eq_true, holds, *]; done) | (cases h; simp [holds, room_pos, tooLong_pos, *])
def junctionref14_Decimal_7.p : Pat κ := .str
def junctionref14_Decimal_7.b : List (BPat κ) := []
noncomputable def junctionref14_Decimal_7 (k : Nat) (t0 : Int) : Option (ByteArray × Unit) :=
    Option.bind (Go.Am.Tryd.junctionref14_Decimal_7.l0 k t0) fun r0 =>
      if Prod.fst (Prod.fst r0) = Bool.true then
        Option.bind (Go.Am.Tryd.junctionref1_Text k (Go.IntKind.wrap Go.IntKind.i32 t0)) fun r1 => Option.some (Prod.fst r1, ())
      else
        Option.bind (Go.Am.Tryd.junctionref14_Decimal_7.l1 k (Go.Am.rem t0 (10 : Int))) fun r2 =>
          Option.bind (Go.Am.Tryd.junctionref14_Decimal_7.l2 k t0 (Prod.fst (Prod.fst r2))) fun r3 => Option.some (Prod.fst (Prod.fst r3), ())
noncomputable def junctionref14_Decimal_7.f (k : Nat) : dens junctionref14_Decimal_7.i → Option (junctionref14_Decimal_7.p.den × densB junctionref14_Decimal_7.b) := fun d => junctionref14_Decimal_7 k d.1
noncomputable def junctionref14_Decimal_7.ctx (k : Nat) : Ctx κ := junctionref14_Decimal_7.x k [junctionref14_Decimal_7.m0 k, junctionref14_Decimal_7.m1 k, junctionref14_Decimal_7.m2 k]
theorem junctionref14_Decimal_7.xOk (k : Nat) : (junctionref14_Decimal_7.ctx k).Ok := ctxOk ⟨junctionref1_Text.entOk k, junctionref14_Decimal_6.entOk k, trivial⟩ ⟨junctionref1_Text.qentOk k, junctionref14_Decimal_6.qentOk k, trivial⟩
theorem junctionref14_Decimal_7.k0 (k : Nat) : LamOk (junctionref14_Decimal_7.ctx k) ((junctionref14_Decimal_7.ctx k).Λ 0) (sub [1, 0, 0] junctionref14_Decimal_7.c) :=
  cut_ok (kindOf := kindOf) (C := junctionref14_Decimal_7.ctx k) (n := .none) (L := junctionref14_Decimal_7.e0 k) (junctionref14_Decimal_7.xOk k) (by kernel_rfl) (by kernel_rfl) (fits_of (l := []) (by kernel_rfl) trivial) (fun _ => by kernel_rfl)
theorem junctionref14_Decimal_7.k1 (k : Nat) : LamOk (junctionref14_Decimal_7.ctx k) ((junctionref14_Decimal_7.ctx k).Λ 1) (sub [1, 1, 1, 0] junctionref14_Decimal_7.c) :=
  cut_ok (kindOf := kindOf) (C := junctionref14_Decimal_7.ctx k) (n := .none) (L := junctionref14_Decimal_7.e1 k) (junctionref14_Decimal_7.xOk k) (by kernel_rfl) (by kernel_rfl) (fits_of (l := []) (by kernel_rfl) trivial) (fun _ => by kernel_rfl)
theorem junctionref14_Decimal_7.k2 (k : Nat) : LamOk (junctionref14_Decimal_7.ctx k) ((junctionref14_Decimal_7.ctx k).Λ 2) (sub [1, 1, 1, 1, 0] junctionref14_Decimal_7.c) :=
  tree_ok (kindOf := kindOf) (C := junctionref14_Decimal_7.ctx k) (L := junctionref14_Decimal_7.e2 k) (tr := junctionref14_Decimal_7.t2) (junctionref14_Decimal_7.xOk k) (by kernel_rfl) (by kernel_rfl) (by kernel_rfl) (by kernel_rfl) fun d o h => (show runs (junctionref14_Decimal_7.ctx k) kindOf _ junctionref14_Decimal_7.t2 _ _ = junctionref14_Decimal_7.p2 k d.1.1 d.1.2.1 o by kernel_rfl).mpr (junctionref14_Decimal_7.q2 k d.1.1 d.1.2.1 o (by unfold junctionref14_Decimal_7.e2 at h; exact h))
theorem junctionref14_Decimal_7.call (k : Nat) : CallV Tryd.prog E glob 27 junctionref14_Decimal_7.i junctionref14_Decimal_7.p junctionref14_Decimal_7.b (junctionref14_Decimal_7.f k) :=
  fn_okZ (kindOf := kindOf) (C := junctionref14_Decimal_7.ctx k) (n := (.pair .none (.pair (.pair (.cut 0) .none) (.pair .none (.pair (.cut 1) (.pair (.cut 2) .none)))))) (junctionref14_Decimal_7.xOk k) Tryd.func27 junctionref14_Decimal_7.hb (fits_of (l := [(0, (sub [1, 0, 0] junctionref14_Decimal_7.c)), (1, (sub [1, 1, 1, 0] junctionref14_Decimal_7.c)), (2, (sub [1, 1, 1, 1, 0] junctionref14_Decimal_7.c))]) (by kernel_rfl) ⟨junctionref14_Decimal_7.k0 k, junctionref14_Decimal_7.k1 k, junctionref14_Decimal_7.k2 k, trivial⟩) (fun _ => by kernel_rfl)
noncomputable def junctionref14_Decimal_7.ent (k : Nat) : EntS κ := ⟨27, [], entOf junctionref14_Decimal_7.i junctionref14_Decimal_7.p junctionref14_Decimal_7.b true (junctionref14_Decimal_7.f k) E⟩
theorem junctionref14_Decimal_7.entOk (k : Nat) : EntOk Tryd.prog E glob 27 (junctionref14_Decimal_7.ent k).run := ent_free encOk (callable_of Tryd.func27 (by kernel_rfl) (by kernel_rfl)) (by rfl) trivial (junctionref14_Decimal_7.call k)
noncomputable def junctionref14_Decimal_7.qent (k : Nat) : QEntS κ := ⟨27, qentOf junctionref14_Decimal_7.i junctionref14_Decimal_7.p (junctionref14_Decimal_7.f k) E⟩
theorem junctionref14_Decimal_7.qentOk (k : Nat) : QEntOk Tryd.prog E glob 27 (junctionref14_Decimal_7.qent k).run := qent_ok encOk (callable_of Tryd.func27 (by kernel_rfl) (by kernel_rfl)) (junctionref14_Decimal_7.call k)
noncomputable def junctionref14_Decimal_8.c : Go.Code := match Tryd.f27.body with | some c => c | none => .skip
theorem junctionref14_Decimal_8.hb : Tryd.f27.body = some junctionref14_Decimal_8.c := by kernel_rfl
noncomputable def junctionref14_Decimal_8.x (k : Nat) (ls : List (LamS κ)) : Ctx κ := mkCtx [junctionref1_Text.ent k, junctionref14_Decimal_7.ent k] [junctionref1_Text.qent k, junctionref14_Decimal_7.qent k] ls
def junctionref14_Decimal_8.i : List (Pat κ) := [.int .i64]
def junctionref14_Decimal_8.s0 : Sh κ := ⟨0, [0], [.int .i64], []⟩
def junctionref14_Decimal_8.o0 : List (Ex × Sh κ) := [(.normal, ⟨0, [9], [.bool], []⟩)]
noncomputable def junctionref14_Decimal_8.l0 (k : Nat) (t0 : Int) : Option ((Bool × Unit) × Unit) :=
    if Decidable.decide (t0 ≥ (-2147483648 : Int)) = Bool.true then Option.some ((Decidable.decide (t0 ≤ (2147483647 : Int)), ()), ())
    else Option.some ((Bool.false, ()), ())
def junctionref14_Decimal_8.w0 : List Nat := [4, 5, 6, 7, 8, 9]
noncomputable def junctionref14_Decimal_8.e0 (k : Nat) : junctionref14_Decimal_8.s0.den → Option (OutT junctionref14_Decimal_8.o0) := fun d => junctionref14_Decimal_8.l0 k d.1.1
noncomputable def junctionref14_Decimal_8.m0 (k : Nat) : LamS κ := ⟨lamK 28 junctionref14_Decimal_8.w0 junctionref14_Decimal_8.s0 junctionref14_Decimal_8.o0 (junctionref14_Decimal_8.e0 k)⟩
def junctionref14_Decimal_8.s1 : Sh κ := ⟨0, [3], [.int .i64], []⟩
def junctionref14_Decimal_8.o1 : List (Ex × Sh κ) := [(.normal, ⟨0, [3], [.int .i64], []⟩)]
noncomputable def junctionref14_Decimal_8.l1 (k : Nat) (t3 : Int) : Option ((Int × Unit) × Unit) :=
    if Decidable.decide (t3 < (0 : Int)) = Bool.true then Option.some ((Go.IntKind.wrap Go.IntKind.i64 ((0 : Int) - t3), ()), ()) else Option.some ((t3, ()), ())
def junctionref14_Decimal_8.w1 : List Nat := [15, 16, 17, 18, 3]
noncomputable def junctionref14_Decimal_8.e1 (k : Nat) : junctionref14_Decimal_8.s1.den → Option (OutT junctionref14_Decimal_8.o1) := fun d => junctionref14_Decimal_8.l1 k d.1.1
noncomputable def junctionref14_Decimal_8.m1 (k : Nat) : LamS κ := ⟨lamK 28 junctionref14_Decimal_8.w1 junctionref14_Decimal_8.s1 junctionref14_Decimal_8.o1 (junctionref14_Decimal_8.e1 k)⟩
def junctionref14_Decimal_8.s2 : Sh κ := ⟨0, [0, 3], [.int .i64, .int .i64], []⟩
def junctionref14_Decimal_8.o2 : List (Ex × Sh κ) := [(.normal, ⟨0, [2], [.str], []⟩)]
noncomputable def junctionref14_Decimal_8.l2 (k : Nat) (t0 : Int) (t3 : Int) : Option ((ByteArray × Unit) × Unit) :=
    Option.bind (Go.Am.Tryd.junctionref14_Decimal_7 k (Go.Am.quo Go.IntKind.i64 t0 (10 : Int))) fun r0 =>
      Go.Am.tooLong
        (ByteArray.size (Prod.fst r0) +
          ByteArray.size (Go.strOfNums (List.map (fun x => x) [Go.IntKind.wrap Go.IntKind.u8 (Go.IntKind.wrap Go.IntKind.i64 ((48 : Int) + t3))])))
        (Option.some
          ((Prod.fst r0 ++ Go.strOfNums (List.map (fun x => x) [Go.IntKind.wrap Go.IntKind.u8 (Go.IntKind.wrap Go.IntKind.i64 ((48 : Int) + t3))]), ()), ()))
def junctionref14_Decimal_8.w2 : List Nat := [19, 20, 21, 22, 23, 24, 25, 26, 27, 2]
noncomputable def junctionref14_Decimal_8.e2 (k : Nat) : junctionref14_Decimal_8.s2.den → Option (OutT junctionref14_Decimal_8.o2) := fun d => junctionref14_Decimal_8.l2 k d.1.1 d.1.2.1
noncomputable def junctionref14_Decimal_8.m2 (k : Nat) : LamS κ := ⟨lamK 28 junctionref14_Decimal_8.w2 junctionref14_Decimal_8.s2 junctionref14_Decimal_8.o2 (junctionref14_Decimal_8.e2 k)⟩
def junctionref14_Decimal_8.t2 : Sched := (.take 0 (.take 1 (.take 3 (.take 4 (.take 5 (.all (.cons 2 (.all (.cons 6 (.all (.cons 7 (.take 8 (.take 9 .done)) .nil)) .nil)) (.cons 6 (.all (.cons 2 (.all (.cons 7 (.take 8 (.take 9 .done)) .nil)) (.cons 7 (.all (.cons 2 (.take 8 (.take 9 .done)) .nil)) .nil))) .nil))))))))
noncomputable def junctionref14_Decimal_8.p2 (k : Nat) (t0 : Int) (t3 : Int) (o : (ByteArray × Unit) × Unit) : Prop :=
    Go.Am.holds
        (Option.bind (Go.Am.Tryd.junctionref14_Decimal_7 k (Go.Am.quo Go.IntKind.i64 t0 (10 : Int))) fun r2 =>
          Option.some
            ((Go.Am.holds
                  (Go.Am.tooLong
                    (ByteArray.size (Prod.fst r2) +
                      ByteArray.size (Go.strOfNums (List.map (fun x => x) [Go.IntKind.wrap Go.IntKind.u8 (Go.IntKind.wrap Go.IntKind.i64 ((48 : Int) + t3))])))
                    (Option.some
                      (Option.some
                          ((Prod.fst r2 ++ Go.strOfNums (List.map (fun x => x) [Go.IntKind.wrap Go.IntKind.u8 (Go.IntKind.wrap Go.IntKind.i64 ((48 : Int) + t3))]),
                              ()),
                            ()) =
                        Option.some o))) ∧
                True) ∧
              True)) ∧
      (Go.Am.holds
            (Option.bind (Go.Am.Tryd.junctionref14_Decimal_7 k (Go.Am.quo Go.IntKind.i64 t0 (10 : Int))) fun r1 =>
              Option.some
                (Go.Am.holds
                    (Go.Am.tooLong
                      (ByteArray.size (Prod.fst r1) +
                        ByteArray.size (Go.strOfNums (List.map (fun x => x) [Go.IntKind.wrap Go.IntKind.u8 (Go.IntKind.wrap Go.IntKind.i64 ((48 : Int) + t3))])))
                      (Option.some
                        (Option.some
                            ((Prod.fst r1 ++
                                  Go.strOfNums (List.map (fun x => x) [Go.IntKind.wrap Go.IntKind.u8 (Go.IntKind.wrap Go.IntKind.i64 ((48 : Int) + t3))]),
                                ()),
                              ()) =
                          Option.some o))) ∧
                  True)) ∧
          (Go.Am.holds
                (Option.bind (Go.Am.Tryd.junctionref14_Decimal_7 k (Go.Am.quo Go.IntKind.i64 t0 (10 : Int))) fun r0 =>
                  Option.some
                    (Go.Am.holds
                      (Go.Am.tooLong
                        (ByteArray.size (Prod.fst r0) +
                          ByteArray.size (Go.strOfNums (List.map (fun x => x) [Go.IntKind.wrap Go.IntKind.u8 (Go.IntKind.wrap Go.IntKind.i64 ((48 : Int) + t3))])))
                        (Option.some
                          (Option.some
                              ((Prod.fst r0 ++
                                    Go.strOfNums (List.map (fun x => x) [Go.IntKind.wrap Go.IntKind.u8 (Go.IntKind.wrap Go.IntKind.i64 ((48 : Int) + t3))]),
                                  ()),
                                ()) =
                            Option.some o))))) ∧
              True) ∧
            True) ∧
        True
theorem junctionref14_Decimal_8.q2 (k : Nat) (t0 : Int) (t3 : Int) (o : (ByteArray × Unit) × Unit) (h : junctionref14_Decimal_8.l2 k t0 t3 = some o) : junctionref14_Decimal_8.p2 k t0 t3 o := by
  unfold junctionref14_Decimal_8.l2 at h
  unfold junctionref14_Decimal_8.p2
  repeat' (first | split at h | (rw [Option.bind_eq_some_iff] at h; obtain ⟨_, _, h⟩ := h) | (rw [room_some] at h; obtain ⟨_, h⟩ := h) | (rw [tooLong_some] at h; obtain ⟨_, h⟩ := h))
  all_goals first | (cases h; done) | (cases h; simp only [Option.bind_some, room_pos, tooLong_pos, if_true, and_self, and_true, not_false_eq_true, holds, *]; done) | (cases h; simp [holds, room_pos, tooLong_pos, *])
def junctionref14_Decimal_8.p : Pat κ := .str
def junctionref14_Decimal_8.b : List (BPat κ) := []
noncomputable def junctionref14_Decimal_8 (k : Nat) (t0 : Int) : Option (ByteArray × Unit) :=
    Option.bind (Go.Am.Tryd.junctionref14_Decimal_8.l0 k t0) fun r0 =>
      if Prod.fst (Prod.fst r0) = Bool.true then
        Option.bind (Go.Am.Tryd.junctionref1_Text k (Go.IntKind.wrap Go.IntKind.i32 t0)) fun r1 => Option.some (Prod.fst r1, ())
      else
        Option.bind (Go.Am.Tryd.junctionref14_Decimal_8.l1 k (Go.Am.rem t0 (10 : Int))) fun r2 =>
          Option.bind (Go.Am.Tryd.junctionref14_Decimal_8.l2 k t0 (Prod.fst (Prod.fst r2))) fun r3 => Option.some (Prod.fst (Prod.fst r3), ())
noncomputable def junctionref14_Decimal_8.f (k : Nat) : dens junctionref14_Decimal_8.i → Option (junctionref14_Decimal_8.p.den × densB junctionref14_Decimal_8.b) := fun d => junctionref14_Decimal_8 k d.1
noncomputable def junctionref14_Decimal_8.ctx (k : Nat) : Ctx κ := junctionref14_Decimal_8.x k [junctionref14_Decimal_8.m0 k, junctionref14_Decimal_8.m1 k, junctionref14_Decimal_8.m2 k]
theorem junctionref14_Decimal_8.xOk (k : Nat) : (junctionref14_Decimal_8.ctx k).Ok := ctxOk ⟨junctionref1_Text.entOk k, junctionref14_Decimal_7.entOk k, trivial⟩ ⟨junctionref1_Text.qentOk k, junctionref14_Decimal_7.qentOk k, trivial⟩
theorem junctionref14_Decimal_8.k0 (k : Nat) : LamOk (junctionref14_Decimal_8.ctx k) ((junctionref14_Decimal_8.ctx k).Λ 0) (sub [1, 0, 0] junctionref14_Decimal_8.c) :=
  cut_ok (kindOf := kindOf) (C := junctionref14_Decimal_8.ctx k) (n := .none) (L := junctionref14_Decimal_8.e0 k) (junctionref14_Decimal_8.xOk k) (by kernel_rfl) (by kernel_rfl) (fits_of (l := []) (by kernel_rfl) trivial) (fun _ => by kernel_rfl)
theorem junctionref14_Decimal_8.k1 (k : Nat) : LamOk (junctionref14_Decimal_8.ctx k) ((junctionref14_Decimal_8.ctx k).Λ 1) (sub [1, 1, 1, 0] junctionref14_Decimal_8.c) :=
  cut_ok (kindOf := kindOf) (C := junctionref14_Decimal_8.ctx k) (n := .none) (L := junctionref14_Decimal_8.e1 k) (junctionref14_Decimal_8.xOk k) (by kernel_rfl) (by kernel_rfl) (fits_of (l := []) (by kernel_rfl) trivial) (fun _ => by kernel_rfl)
theorem junctionref14_Decimal_8.k2 (k : Nat) : LamOk (junctionref14_Decimal_8.ctx k) ((junctionref14_Decimal_8.ctx k).Λ 2) (sub [1, 1, 1, 1, 0] junctionref14_Decimal_8.c) :=
  tree_ok (kindOf := kindOf) (C := junctionref14_Decimal_8.ctx k) (L := junctionref14_Decimal_8.e2 k) (tr := junctionref14_Decimal_8.t2) (junctionref14_Decimal_8.xOk k) (by kernel_rfl) (by kernel_rfl) (by kernel_rfl) (by kernel_rfl) fun d o h => (show runs (junctionref14_Decimal_8.ctx k) kindOf _ junctionref14_Decimal_8.t2 _ _ = junctionref14_Decimal_8.p2 k d.1.1 d.1.2.1 o by kernel_rfl).mpr (junctionref14_Decimal_8.q2 k d.1.1 d.1.2.1 o (by unfold junctionref14_Decimal_8.e2 at h; exact h))
theorem junctionref14_Decimal_8.call (k : Nat) : CallV Tryd.prog E glob 27 junctionref14_Decimal_8.i junctionref14_Decimal_8.p junctionref14_Decimal_8.b (junctionref14_Decimal_8.f k) :=
  fn_okZ (kindOf := kindOf) (C := junctionref14_Decimal_8.ctx k) (n := (.pair .none (.pair (.pair (.cut 0) .none) (.pair .none (.pair (.cut 1) (.pair (.cut 2) .none)))))) (junctionref14_Decimal_8.xOk k) Tryd.func27 junctionref14_Decimal_8.hb (fits_of (l := [(0, (sub [1, 0, 0] junctionref14_Decimal_8.c)), (1, (sub [1, 1, 1, 0] junctionref14_Decimal_8.c)), (2, (sub [1, 1, 1, 1, 0] junctionref14_Decimal_8.c))]) (by kernel_rfl) ⟨junctionref14_Decimal_8.k0 k, junctionref14_Decimal_8.k1 k, junctionref14_Decimal_8.k2 k, trivial⟩) (fun _ => by kernel_rfl)
noncomputable def junctionref14_Decimal_8.ent (k : Nat) : EntS κ := ⟨27, [], entOf junctionref14_Decimal_8.i junctionref14_Decimal_8.p junctionref14_Decimal_8.b true (junctionref14_Decimal_8.f k) E⟩
theorem junctionref14_Decimal_8.entOk (k : Nat) : EntOk Tryd.prog E glob 27 (junctionref14_Decimal_8.ent k).run := ent_free encOk (callable_of Tryd.func27 (by kernel_rfl) (by kernel_rfl)) (by rfl) trivial (junctionref14_Decimal_8.call k)
noncomputable def junctionref14_Decimal_8.qent (k : Nat) : QEntS κ := ⟨27, qentOf junctionref14_Decimal_8.i junctionref14_Decimal_8.p (junctionref14_Decimal_8.f k) E⟩
theorem junctionref14_Decimal_8.qentOk (k : Nat) : QEntOk Tryd.prog E glob 27 (junctionref14_Decimal_8.qent k).run := qent_ok encOk (callable_of Tryd.func27 (by kernel_rfl) (by kernel_rfl)) (junctionref14_Decimal_8.call k)
noncomputable def junctionref14_Decimal_9.c : Go.Code := match Tryd.f27.body with | some c => c | none => .skip
theorem junctionref14_Decimal_9.hb : Tryd.f27.body = some junctionref14_Decimal_9.c := by kernel_rfl
noncomputable def junctionref14_Decimal_9.x (k : Nat) (ls : List (LamS κ)) : Ctx κ := mkCtx [junctionref1_Text.ent k, junctionref14_Decimal_8.ent k] [junctionref1_Text.qent k, junctionref14_Decimal_8.qent k] ls
def junctionref14_Decimal_9.i : List (Pat κ) := [.int .i64]
def junctionref14_Decimal_9.s0 : Sh κ := ⟨0, [0], [.int .i64], []⟩
def junctionref14_Decimal_9.o0 : List (Ex × Sh κ) := [(.normal, ⟨0, [9], [.bool], []⟩)]
noncomputable def junctionref14_Decimal_9.l0 (k : Nat) (t0 : Int) : Option ((Bool × Unit) × Unit) :=
    if Decidable.decide (t0 ≥ (-2147483648 : Int)) = Bool.true then Option.some ((Decidable.decide (t0 ≤ (2147483647 : Int)), ()), ())
    else Option.some ((Bool.false, ()), ())
def junctionref14_Decimal_9.w0 : List Nat := [4, 5, 6, 7, 8, 9]
noncomputable def junctionref14_Decimal_9.e0 (k : Nat) : junctionref14_Decimal_9.s0.den → Option (OutT junctionref14_Decimal_9.o0) := fun d => junctionref14_Decimal_9.l0 k d.1.1
noncomputable def junctionref14_Decimal_9.m0 (k : Nat) : LamS κ := ⟨lamK 28 junctionref14_Decimal_9.w0 junctionref14_Decimal_9.s0 junctionref14_Decimal_9.o0 (junctionref14_Decimal_9.e0 k)⟩
def junctionref14_Decimal_9.s1 : Sh κ := ⟨0, [3], [.int .i64], []⟩
def junctionref14_Decimal_9.o1 : List (Ex × Sh κ) := [(.normal, ⟨0, [3], [.int .i64], []⟩)]
noncomputable def junctionref14_Decimal_9.l1 (k : Nat) (t3 : Int) : Option ((Int × Unit) × Unit) :=
    if Decidable.decide (t3 < (0 : Int)) = Bool.true then Option.some ((Go.IntKind.wrap Go.IntKind.i64 ((0 : Int) - t3), ()), ()) else Option.some ((t3, ()), ())
def junctionref14_Decimal_9.w1 : List Nat := [15, 16, 17, 18, 3]
noncomputable def junctionref14_Decimal_9.e1 (k : Nat) : junctionref14_Decimal_9.s1.den → Option (OutT junctionref14_Decimal_9.o1) := fun d => junctionref14_Decimal_9.l1 k d.1.1
noncomputable def junctionref14_Decimal_9.m1 (k : Nat) : LamS κ := ⟨lamK 28 junctionref14_Decimal_9.w1 junctionref14_Decimal_9.s1 junctionref14_Decimal_9.o1 (junctionref14_Decimal_9.e1 k)⟩
def junctionref14_Decimal_9.s2 : Sh κ := ⟨0, [0, 3], [.int .i64, .int .i64], []⟩
def junctionref14_Decimal_9.o2 : List (Ex × Sh κ) := [(.normal, ⟨0, [2], [.str], []⟩)]
noncomputable def junctionref14_Decimal_9.l2 (k : Nat) (t0 : Int) (t3 : Int) : Option ((ByteArray × Unit) × Unit) :=
    Option.bind (Go.Am.Tryd.junctionref14_Decimal_8 k (Go.Am.quo Go.IntKind.i64 t0 (10 : Int))) fun r0 =>
      Go.Am.tooLong
        (ByteArray.size (Prod.fst r0) +
          ByteArray.size (Go.strOfNums (List.map (fun x => x) [Go.IntKind.wrap Go.IntKind.u8 (Go.IntKind.wrap Go.IntKind.i64 ((48 : Int) + t3))])))
        (Option.some
          ((Prod.fst r0 ++ Go.strOfNums (List.map (fun x => x) [Go.IntKind.wrap Go.IntKind.u8 (Go.IntKind.wrap Go.IntKind.i64 ((48 : Int) + t3))]), ()), ()))
def junctionref14_Decimal_9.w2 : List Nat := [19, 20, 21, 22, 23, 24, 25, 26, 27, 2]
noncomputable def junctionref14_Decimal_9.e2 (k : Nat) : junctionref14_Decimal_9.s2.den → Option (OutT junctionref14_Decimal_9.o2) := fun d => junctionref14_Decimal_9.l2 k d.1.1 d.1.2.1
noncomputable def junctionref14_Decimal_9.m2 (k : Nat) : LamS κ := ⟨lamK 28 junctionref14_Decimal_9.w2 junctionref14_Decimal_9.s2 junctionref14_Decimal_9.o2 (junctionref14_Decimal_9.e2 k)⟩
def junctionref14_Decimal_9.t2 : Sched := (.take 0 (.take 1 (.take 3 (.take 4 (.take 5 (.all (.cons 2 (.all (.cons 6 (.all (.cons 7 (.take 8 (.take 9 .done)) .nil)) .nil)) (.cons 6 (.all (.cons 2 (.all (.cons 7 (.take 8 (.take 9 .done)) .nil)) (.cons 7 (.all (.cons 2 (.take 8 (.take 9 .done)) .nil)) .nil))) .nil))))))))
noncomputable def junctionref14_Decimal_9.p2 (k : Nat) (t0 : Int) (t3 : Int) (o : (ByteArray × Unit) × Unit) : Prop :=
    Go.Am.holds
        (Option.bind (Go.Am.Tryd.junctionref14_Decimal_8 k (Go.Am.quo Go.IntKind.i64 t0 (10 : Int))) fun r2 =>
          Option.some
            ((Go.Am.holds
                  (Go.Am.tooLong
                    (ByteArray.size (Prod.fst r2) +
                      ByteArray.size (Go.strOfNums (List.map (fun x => x) [Go.IntKind.wrap Go.IntKind.u8 (Go.IntKind.wrap Go.IntKind.i64 ((48 : Int) + t3))])))
                    (Option.some
                      (Option.some
                          ((Prod.fst r2 ++ Go.strOfNums (List.map (fun x => x) [Go.IntKind.wrap Go.IntKind.u8 (Go.IntKind.wrap Go.IntKind.i64 ((48 : Int) + t3))]),
                              ()),
                            ()) =
                        Option.some o))) ∧
                True) ∧
              True)) ∧
      (Go.Am.holds
            (Option.bind (Go.Am.Tryd.junctionref14_Decimal_8 k (Go.Am.quo Go.IntKind.i64 t0 (10 : Int))) fun r1 =>
              Option.some
                (Go.Am.holds
                    (Go.Am.tooLong
                      (ByteArray.size (Prod.fst r1) +
                        ByteArray.size (Go.strOfNums (List.map (fun x => x) [Go.IntKind.wrap Go.IntKind.u8 (Go.IntKind.wrap Go.IntKind.i64 ((48 : Int) + t3))])))
                      (Option.some
                        (Option.some
                            ((Prod.fst r1 ++
                                  Go.strOfNums (List.map (fun x => x) [Go.IntKind.wrap Go.IntKind.u8 (Go.IntKind.wrap Go.IntKind.i64 ((48 : Int) + t3))]),
                                ()),
                              ()) =
                          Option.some o))) ∧
                  True)) ∧
          (Go.Am.holds
                (Option.bind (Go.Am.Tryd.junctionref14_Decimal_8 k (Go.Am.quo Go.IntKind.i64 t0 (10 : Int))) fun r0 =>
                  Option.some
                    (Go.Am.holds
                      (Go.Am.tooLong
                        (ByteArray.size (Prod.fst r0) +
                          ByteArray.size (Go.strOfNums (List.map (fun x => x) [Go.IntKind.wrap Go.IntKind.u8 (Go.IntKind.wrap Go.IntKind.i64 ((48 : Int) + t3))])))
                        (Option.some
                          (Option.some
                              ((Prod.fst r0 ++
                                    Go.strOfNums (List.map (fun x => x) [Go.IntKind.wrap Go.IntKind.u8 (Go.IntKind.wrap Go.IntKind.i64 ((48 : Int) + t3))]),
                                  ()),
                                ()) =
                            Option.some o))))) ∧
              True) ∧
            True) ∧
        True
theorem junctionref14_Decimal_9.q2 (k : Nat) (t0 : Int) (t3 : Int) (o : (ByteArray × Unit) × Unit) (h : junctionref14_Decimal_9.l2 k t0 t3 = some o) : junctionref14_Decimal_9.p2 k t0 t3 o := by
  unfold junctionref14_Decimal_9.l2 at h
  unfold junctionref14_Decimal_9.p2
  repeat' (first | split at h | (rw [Option.bind_eq_some_iff] at h; obtain ⟨_, _, h⟩ := h) | (rw [room_some] at h; obtain ⟨_, h⟩ := h) | (rw [tooLong_some] at h; obtain ⟨_, h⟩ := h))
  all_goals first | (cases h; done) | (cases h; simp only [Option.bind_some, room_pos, tooLong_pos, if_true, and_self, and_true, not_false_eq_true, holds, *]; done) | (cases h; simp [holds, room_pos, tooLong_pos, *])
def junctionref14_Decimal_9.p : Pat κ := .str
def junctionref14_Decimal_9.b : List (BPat κ) := []
noncomputable def junctionref14_Decimal_9 (k : Nat) (t0 : Int) : Option (ByteArray × Unit) :=
    Option.bind (Go.Am.Tryd.junctionref14_Decimal_9.l0 k t0) fun r0 =>
      if Prod.fst (Prod.fst r0) = Bool.true then
        Option.bind (Go.Am.Tryd.junctionref1_Text k (Go.IntKind.wrap Go.IntKind.i32 t0)) fun r1 => Option.some (Prod.fst r1, ())
      else
        Option.bind (Go.Am.Tryd.junctionref14_Decimal_9.l1 k (Go.Am.rem t0 (10 : Int))) fun r2 =>
          Option.bind (Go.Am.Tryd.junctionref14_Decimal_9.l2 k t0 (Prod.fst (Prod.fst r2))) fun r3 => Option.some (Prod.fst (Prod.fst r3), ())
noncomputable def junctionref14_Decimal_9.f (k : Nat) : dens junctionref14_Decimal_9.i → Option (junctionref14_Decimal_9.p.den × densB junctionref14_Decimal_9.b) := fun d => junctionref14_Decimal_9 k d.1
noncomputable def junctionref14_Decimal_9.ctx (k : Nat) : Ctx κ := junctionref14_Decimal_9.x k [junctionref14_Decimal_9.m0 k, junctionref14_Decimal_9.m1 k, junctionref14_Decimal_9.m2 k]
theorem junctionref14_Decimal_9.xOk (k : Nat) : (junctionref14_Decimal_9.ctx k).Ok := ctxOk ⟨junctionref1_Text.entOk k, junctionref14_Decimal_8.entOk k, trivial⟩ ⟨junctionref1_Text.qentOk k, junctionref14_Decimal_8.qentOk k, trivial⟩
theorem junctionref14_Decimal_9.k0 (k : Nat) : LamOk (junctionref14_Decimal_9.ctx k) ((junctionref14_Decimal_9.ctx k).Λ 0) (sub [1, 0, 0] junctionref14_Decimal_9.c) :=
  cut_ok (kindOf := kindOf) (C := junctionref14_Decimal_9.ctx k) (n := .none) (L := junctionref14_Decimal_9.e0 k) (junctionref14_Decimal_9.xOk k) (by kernel_rfl) (by kernel_rfl) (fits_of (l := []) (by kernel_rfl) trivial) (fun _ => by kernel_rfl)
theorem junctionref14_Decimal_9.k1 (k : Nat) : LamOk (junctionref14_Decimal_9.ctx k) ((junctionref14_Decimal_9.ctx k).Λ 1) (sub [1, 1, 1, 0] junctionref14_Decimal_9.c) :=
  cut_ok (kindOf := kindOf) (C := junctionref14_Decimal_9.ctx k) (n := .none) (L := junctionref14_Decimal_9.e1 k) (junctionref14_Decimal_9.xOk k) (by kernel_rfl) (by kernel_rfl) (fits_of (l := []) (by kernel_rfl) trivial) (fun _ => by kernel_rfl)
theorem junctionref14_Decimal_9.k2 (k : Nat) : LamOk (junctionref14_Decimal_9.ctx k) ((junctionref14_Decimal_9.ctx k).Λ 2) (sub [1, 1, 1, 1, 0] junctionref14_Decimal_9.c) :=
  tree_ok (kindOf := kindOf) (C := junctionref14_Decimal_9.ctx k) (L := junctionref14_Decimal_9.e2 k) (tr := junctionref14_Decimal_9.t2) (junctionref14_Decimal_9.xOk k) (by kernel_rfl) (by kernel_rfl) (by kernel_rfl) (by kernel_rfl) fun d o h => (show runs (junctionref14_Decimal_9.ctx k) kindOf _ junctionref14_Decimal_9.t2 _ _ = junctionref14_Decimal_9.p2 k d.1.1 d.1.2.1 o by kernel_rfl).mpr (junctionref14_Decimal_9.q2 k d.1.1 d.1.2.1 o (by unfold junctionref14_Decimal_9.e2 at h; exact h))
theorem junctionref14_Decimal_9.call (k : Nat) : CallV Tryd.prog E glob 27 junctionref14_Decimal_9.i junctionref14_Decimal_9.p junctionref14_Decimal_9.b (junctionref14_Decimal_9.f k) :=
  fn_okZ (kindOf := kindOf) (C := junctionref14_Decimal_9.ctx k) (n := (.pair .none (.pair (.pair (.cut 0) .none) (.pair .none (.pair (.cut 1) (.pair (.cut 2) .none)))))) (junctionref14_Decimal_9.xOk k) Tryd.func27 junctionref14_Decimal_9.hb (fits_of (l := [(0, (sub [1, 0, 0] junctionref14_Decimal_9.c)), (1, (sub [1, 1, 1, 0] junctionref14_Decimal_9.c)), (2, (sub [1, 1, 1, 1, 0] junctionref14_Decimal_9.c))]) (by kernel_rfl) ⟨junctionref14_Decimal_9.k0 k, junctionref14_Decimal_9.k1 k, junctionref14_Decimal_9.k2 k, trivial⟩) (fun _ => by kernel_rfl)
noncomputable def junctionref14_Decimal_9.ent (k : Nat) : EntS κ := ⟨27, [], entOf junctionref14_Decimal_9.i junctionref14_Decimal_9.p junctionref14_Decimal_9.b true (junctionref14_Decimal_9.f k) E⟩
theorem junctionref14_Decimal_9.entOk (k : Nat) : EntOk Tryd.prog E glob 27 (junctionref14_Decimal_9.ent k).run := ent_free encOk (callable_of Tryd.func27 (by kernel_rfl) (by kernel_rfl)) (by rfl) trivial (junctionref14_Decimal_9.call k)
noncomputable def junctionref14_Decimal_9.qent (k : Nat) : QEntS κ := ⟨27, qentOf junctionref14_Decimal_9.i junctionref14_Decimal_9.p (junctionref14_Decimal_9.f k) E⟩
theorem junctionref14_Decimal_9.qentOk (k : Nat) : QEntOk Tryd.prog E glob 27 (junctionref14_Decimal_9.qent k).run := qent_ok encOk (callable_of Tryd.func27 (by kernel_rfl) (by kernel_rfl)) (junctionref14_Decimal_9.call k)
noncomputable def junctionref14_Decimal_10.c : Go.Code := match Tryd.f27.body with | some c => c | none => .skip
theorem junctionref14_Decimal_10.hb : Tryd.f27.body = some junctionref14_Decimal_10.c := by kernel_rfl
noncomputable def junctionref14_Decimal_10.x (k : Nat) (ls : List (LamS κ)) : Ctx κ := mkCtx [junctionref1_Text.ent k, junctionref14_Decimal_9.ent k] [junctionref1_Text.qent k, junctionref14_Decimal_9.qent k] ls
def junctionref14_Decimal_10.i : List (Pat κ) := [.int .i64]
def junctionref14_Decimal_10.s0 : Sh κ := ⟨0, [0], [.int .i64], []⟩
def junctionref14_Decimal_10.o0 : List (Ex × Sh κ) := [(.normal, ⟨0, [9], [.bool], []⟩)]
noncomputable def junctionref14_Decimal_10.l0 (k : Nat) (t0 : Int) : Option ((Bool × Unit) × Unit) :=
    if Decidable.decide (t0 ≥ (-2147483648 : Int)) = Bool.true then Option.some ((Decidable.decide (t0 ≤ (2147483647 : Int)), ()), ())
    else Option.some ((Bool.false, ()), ())
def junctionref14_Decimal_10.w0 : List Nat := [4, 5, 6, 7, 8, 9]
noncomputable def junctionref14_Decimal_10.e0 (k : Nat) : junctionref14_Decimal_10.s0.den → Option (OutT junctionref14_Decimal_10.o0) := fun d => junctionref14_Decimal_10.l0 k d.1.1
noncomputable def junctionref14_Decimal_10.m0 (k : Nat) : LamS κ := ⟨lamK 28 junctionref14_Decimal_10.w0 junctionref14_Decimal_10.s0 junctionref14_Decimal_10.o0 (junctionref14_Decimal_10.e0 k)⟩
def junctionref14_Decimal_10.s1 : Sh κ := ⟨0, [3], [.int .i64], []⟩
def junctionref14_Decimal_10.o1 : List (Ex × Sh κ) := [(.normal, ⟨0, [3], [.int .i64], []⟩)]
noncomputable def junctionref14_Decimal_10.l1 (k : Nat) (t3 : Int) : Option ((Int × Unit) × Unit) :=
    if Decidable.decide (t3 < (0 : Int)) = Bool.true then Option.some ((Go.IntKind.wrap Go.IntKind.i64 ((0 : Int) - t3), ()), ()) else Option.some ((t3, ()), ())
def junctionref14_Decimal_10.w1 : List Nat := [15, 16, 17, 18, 3]
noncomputable def junctionref14_Decimal_10.e1 (k : Nat) : junctionref14_Decimal_10.s1.den → Option (OutT junctionref14_Decimal_10.o1) := fun d => junctionref14_Decimal_10.l1 k d.1.1
noncomputable def junctionref14_Decimal_10.m1 (k : Nat) : LamS κ := ⟨lamK 28 junctionref14_Decimal_10.w1 junctionref14_Decimal_10.s1 junctionref14_Decimal_10.o1 (junctionref14_Decimal_10.e1 k)⟩
def junctionref14_Decimal_10.s2 : Sh κ := ⟨0, [0, 3], [.int .i64, .int .i64], []⟩
def junctionref14_Decimal_10.o2 : List (Ex × Sh κ) := [(.normal, ⟨0, [2], [.str], []⟩)]
noncomputable def junctionref14_Decimal_10.l2 (k : Nat) (t0 : Int) (t3 : Int) : Option ((ByteArray × Unit) × Unit) :=
    Option.bind (Go.Am.Tryd.junctionref14_Decimal_9 k (Go.Am.quo Go.IntKind.i64 t0 (10 : Int))) fun r0 =>
      Go.Am.tooLong
        (ByteArray.size (Prod.fst r0) +
          ByteArray.size (Go.strOfNums (List.map (fun x => x) [Go.IntKind.wrap Go.IntKind.u8 (Go.IntKind.wrap Go.IntKind.i64 ((48 : Int) + t3))])))
        (Option.some
          ((Prod.fst r0 ++ Go.strOfNums (List.map (fun x => x) [Go.IntKind.wrap Go.IntKind.u8 (Go.IntKind.wrap Go.IntKind.i64 ((48 : Int) + t3))]), ()), ()))
def junctionref14_Decimal_10.w2 : List Nat := [19, 20, 21, 22, 23, 24, 25, 26, 27, 2]
noncomputable def junctionref14_Decimal_10.e2 (k : Nat) : junctionref14_Decimal_10.s2.den → Option (OutT junctionref14_Decimal_10.o2) := fun d => junctionref14_Decimal_10.l2 k d.1.1 d.1.2.1
noncomputable def junctionref14_Decimal_10.m2 (k : Nat) : LamS κ := ⟨lamK 28 junctionref14_Decimal_10.w2 junctionref14_Decimal_10.s2 junctionref14_Decimal_10.o2 (junctionref14_Decimal_10.e2 k)⟩
def junctionref14_Decimal_10.t2 : Sched := (.take 0 (.take 1 (.take 3 (.take 4 (.take 5 (.all (.cons 2 (.all (.cons 6 (.all (.cons 7 (.take 8 (.take 9 .done)) .nil)) .nil)) (.cons 6 (.all (.cons 2 (.all (.cons 7 (.take 8 (.take 9 .done)) .nil)) (.cons 7 (.all (.cons 2 (.take 8 (.take 9 .done)) .nil)) .nil))) .nil))))))))
noncomputable def junctionref14_Decimal_10.p2 (k : Nat) (t0 : Int) (t3 : Int) (o : (ByteArray × Unit) × Unit) : Prop :=
    Go.Am.holds
        (Option.bind (Go.Am.Tryd.junctionref14_Decimal_9 k (Go.Am.quo Go.IntKind.i64 t0 (10 : Int))) fun r2 =>
          Option.some
            ((Go.Am.holds
                  (Go.Am.tooLong
                    (ByteArray.size (Prod.fst r2) +
                      ByteArray.size (Go.strOfNums (List.map (fun x => x) [Go.IntKind.wrap Go.IntKind.u8 (Go.IntKind.wrap Go.IntKind.i64 ((48 : Int) + t3))])))
                    (Option.some
                      (Option.some
                          ((Prod.fst r2 ++ Go.strOfNums (List.map (fun x => x) [Go.IntKind.wrap Go.IntKind.u8 (Go.IntKind.wrap Go.IntKind.i64 ((48 : Int) + t3))]),
                              ()),
                            ()) =
                        Option.some o))) ∧
                True) ∧
              True)) ∧
      (Go.Am.holds
            (Option.bind (Go.Am.Tryd.junctionref14_Decimal_9 k (Go.Am.quo Go.IntKind.i64 t0 (10 : Int))) fun r1 =>
              Option.some
                (Go.Am.holds
                    (Go.Am.tooLong
                      (ByteArray.size (Prod.fst r1) +
                        ByteArray.size (Go.strOfNums (List.map (fun x => x) [Go.IntKind.wrap Go.IntKind.u8 (Go.IntKind.wrap Go.IntKind.i64 ((48 : Int) + t3))])))
                      (Option.some
                        (Option.some
                            ((Prod.fst r1 ++
                                  Go.strOfNums (List.map (fun x => x) [Go.IntKind.wrap Go.IntKind.u8 (Go.IntKind.wrap Go.IntKind.i64 ((48 : Int) + t3))]),
                                ()),
                              ()) =
                          Option.some o))) ∧
                  True)) ∧
          (Go.Am.holds
                (Option.bind (Go.Am.Tryd.junctionref14_Decimal_9 k (Go.Am.quo Go.IntKind.i64 t0 (10 : Int))) fun r0 =>
                  Option.some
                    (Go.Am.holds
                      (Go.Am.tooLong
                        (ByteArray.size (Prod.fst r0) +
                          ByteArray.size (Go.strOfNums (List.map (fun x => x) [Go.IntKind.wrap Go.IntKind.u8 (Go.IntKind.wrap Go.IntKind.i64 ((48 : Int) + t3))])))
                        (Option.some
                          (Option.some
                              ((Prod.fst r0 ++
                                    Go.strOfNums (List.map (fun x => x) [Go.IntKind.wrap Go.IntKind.u8 (Go.IntKind.wrap Go.IntKind.i64 ((48 : Int) + t3))]),
                                  ()),
                                ()) =
                            Option.some o))))) ∧
              True) ∧
            True) ∧
        True
theorem junctionref14_Decimal_10.q2 (k : Nat) (t0 : Int) (t3 : Int) (o : (ByteArray × Unit) × Unit) (h : junctionref14_Decimal_10.l2 k t0 t3 = some o) : junctionref14_Decimal_10.p2 k t0 t3 o := by
  unfold junctionref14_Decimal_10.l2 at h
  unfold junctionref14_Decimal_10.p2
  repeat' (first | split at h | (rw [Option.bind_eq_some_iff] at h; obtain ⟨_, _, h⟩ := h) | (rw [room_some] at h; obtain ⟨_, h⟩ := h) | (rw [tooLong_some] at h; obtain ⟨_, h⟩ := h))
  all_goals first | (cases h; done) | (cases h; simp only [Option.bind_some, room_pos, tooLong_pos, if_true, and_self, and_true, not_false_eq_true, holds, *]; done) | (cases h; simp [holds, room_pos, tooLong_pos, *])
def junctionref14_Decimal_10.p : Pat κ := .str
def junctionref14_Decimal_10.b : List (BPat κ) := []
noncomputable def junctionref14_Decimal_10 (k : Nat) (t0 : Int) : Option (ByteArray × Unit) :=
    Option.bind (Go.Am.Tryd.junctionref14_Decimal_10.l0 k t0) fun r0 =>
      if Prod.fst (Prod.fst r0) = Bool.true then
        Option.bind (Go.Am.Tryd.junctionref1_Text k (Go.IntKind.wrap Go.IntKind.i32 t0)) fun r1 => Option.some (Prod.fst r1, ())
      else
        Option.bind (Go.Am.Tryd.junctionref14_Decimal_10.l1 k (Go.Am.rem t0 (10 : Int))) fun r2 =>
          Option.bind (Go.Am.Tryd.junctionref14_Decimal_10.l2 k t0 (Prod.fst (Prod.fst r2))) fun r3 => Option.some (Prod.fst (Prod.fst r3), ())
noncomputable def junctionref14_Decimal_10.f (k : Nat) : dens junctionref14_Decimal_10.i → Option (junctionref14_Decimal_10.p.den × densB junctionref14_Decimal_10.b) := fun d => junctionref14_Decimal_10 k d.1
noncomputable def junctionref14_Decimal_10.ctx (k : Nat) : Ctx κ := junctionref14_Decimal_10.x k [junctionref14_Decimal_10.m0 k, junctionref14_Decimal_10.m1 k, junctionref14_Decimal_10.m2 k]
theorem junctionref14_Decimal_10.xOk (k : Nat) : (junctionref14_Decimal_10.ctx k).Ok := ctxOk ⟨junctionref1_Text.entOk k, junctionref14_Decimal_9.entOk k, trivial⟩ ⟨junctionref1_Text.qentOk k, junctionref14_Decimal_9.qentOk k, trivial⟩
theorem junctionref14_Decimal_10.k0 (k : Nat) : LamOk (junctionref14_Decimal_10.ctx k) ((junctionref14_Decimal_10.ctx k).Λ 0) (sub [1, 0, 0] junctionref14_Decimal_10.c) :=
  cut_ok (kindOf := kindOf) (C := junctionref14_Decimal_10.ctx k) (n := .none) (L := junctionref14_Decimal_10.e0 k) (junctionref14_Decimal_10.xOk k) (by kernel_rfl) (by kernel_rfl) (fits_of (l := []) (by kernel_rfl) trivial) (fun _ => by kernel_rfl)
theorem junctionref14_Decimal_10.k1 (k : Nat) : LamOk (junctionref14_Decimal_10.ctx k) ((junctionref14_Decimal_10.ctx k).Λ 1) (sub [1, 1, 1, 0] junctionref14_Decimal_10.c) :=
  cut_ok (kindOf := kindOf) (C := junctionref14_Decimal_10.ctx k) (n := .none) (L := junctionref14_Decimal_10.e1 k) (junctionref14_Decimal_10.xOk k) (by kernel_rfl) (by kernel_rfl) (fits_of (l := []) (by kernel_rfl) trivial) (fun _ => by kernel_rfl)
theorem junctionref14_Decimal_10.k2 (k : Nat) : LamOk (junctionref14_Decimal_10.ctx k) ((junctionref14_Decimal_10.ctx k).Λ 2) (sub [1, 1, 1, 1, 0] junctionref14_Decimal_10.c) :=
  tree_ok (kindOf := kindOf) (C := junctionref14_Decimal_10.ctx k) (L := junctionref14_Decimal_10.e2 k) (tr := junctionref14_Decimal_10.t2) (junctionref14_Decimal_10.xOk k) (by kernel_rfl) (by kernel_rfl) (by kernel_rfl) (by kernel_rfl) fun d o h => (show runs (junctionref14_Decimal_10.ctx k) kindOf _ junctionref14_Decimal_10.t2 _ _ = junctionref14_Decimal_10.p2 k d.1.1 d.1.2.1 o by kernel_rfl).mpr (junctionref14_Decimal_10.q2 k d.1.1 d.1.2.1 o (by unfold junctionref14_Decimal_10.e2 at h; exact h))
theorem junctionref14_Decimal_10.call (k : Nat) : CallV Tryd.prog E glob 27 junctionref14_Decimal_10.i junctionref14_Decimal_10.p junctionref14_Decimal_10.b (junctionref14_Decimal_10.f k) :=
  fn_okZ (kindOf := kindOf) (C := junctionref14_Decimal_10.ctx k) (n := (.pair .none (.pair (.pair (.cut 0) .none) (.pair .none (.pair (.cut 1) (.pair (.cut 2) .none)))))) (junctionref14_Decimal_10.xOk k) Tryd.func27 junctionref14_Decimal_10.hb (fits_of (l := [(0, (sub [1, 0, 0] junctionref14_Decimal_10.c)), (1, (sub [1, 1, 1, 0] junctionref14_Decimal_10.c)), (2, (sub [1, 1, 1, 1, 0] junctionref14_Decimal_10.c))]) (by kernel_rfl) ⟨junctionref14_Decimal_10.k0 k, junctionref14_Decimal_10.k1 k, junctionref14_Decimal_10.k2 k, trivial⟩) (fun _ => by kernel_rfl)
noncomputable def junctionref14_Decimal_10.ent (k : Nat) : EntS κ := ⟨27, [], entOf junctionref14_Decimal_10.i junctionref14_Decimal_10.p junctionref14_Decimal_10.b true (junctionref14_Decimal_10.f k) E⟩
theorem junctionref14_Decimal_10.entOk (k : Nat) : EntOk Tryd.prog E glob 27 (junctionref14_Decimal_10.ent k).run := ent_free encOk (callable_of Tryd.func27 (by kernel_rfl) (by kernel_rfl)) (by rfl) trivial (junctionref14_Decimal_10.call k)
noncomputable def junctionref14_Decimal_10.qent (k : Nat) : QEntS κ := ⟨27, qentOf junctionref14_Decimal_10.i junctionref14_Decimal_10.p (junctionref14_Decimal_10.f k) E⟩
theorem junctionref14_Decimal_10.qentOk (k : Nat) : QEntOk Tryd.prog E glob 27 (junctionref14_Decimal_10.qent k).run := qent_ok encOk (callable_of Tryd.func27 (by kernel_rfl) (by kernel_rfl)) (junctionref14_Decimal_10.call k)
noncomputable def junctionref14_Decimal_11.c : Go.Code := match Tryd.f27.body with | some c => c | none => .skip
theorem junctionref14_Decimal_11.hb : Tryd.f27.body = some junctionref14_Decimal_11.c := by kernel_rfl
noncomputable def junctionref14_Decimal_11.x (k : Nat) (ls : List (LamS κ)) : Ctx κ := mkCtx [junctionref1_Text.ent k, junctionref14_Decimal_10.ent k] [junctionref1_Text.qent k, junctionref14_Decimal_10.qent k] ls
def junctionref14_Decimal_11.i : List (Pat κ) := [.int .i64]
def junctionref14_Decimal_11.s0 : Sh κ := ⟨0, [0], [.int .i64], []⟩
def junctionref14_Decimal_11.o0 : List (Ex × Sh κ) := [(.normal, ⟨0, [9], [.bool], []⟩)]
noncomputable def junctionref14_Decimal_11.l0 (k : Nat) (t0 : Int) : Option ((Bool × Unit) × Unit) :=
    if Decidable.decide (t0 ≥ (-2147483648 : Int)) = Bool.true then Option.some ((Decidable.decide (t0 ≤ (2147483647 : Int)), ()), ())
    else Option.some ((Bool.false, ()), ())
def junctionref14_Decimal_11.w0 : List Nat := [4, 5, 6, 7, 8, 9]
noncomputable def junctionref14_Decimal_11.e0 (k : Nat) : junctionref14_Decimal_11.s0.den → Option (OutT junctionref14_Decimal_11.o0) := fun d => junctionref14_Decimal_11.l0 k d.1.1
noncomputable def junctionref14_Decimal_11.m0 (k : Nat) : LamS κ := ⟨lamK 28 junctionref14_Decimal_11.w0 junctionref14_Decimal_11.s0 junctionref14_Decimal_11.o0 (junctionref14_Decimal_11.e0 k)⟩
def junctionref14_Decimal_11.s1 : Sh κ := ⟨0, [3], [.int .i64], []⟩
def junctionref14_Decimal_11.o1 : List (Ex × Sh κ) := [(.normal, ⟨0, [3], [.int .i64], []⟩)]
noncomputable def junctionref14_Decimal_11.l1 (k : Nat) (t3 : Int) : Option ((Int × Unit) × Unit) :=
    if Decidable.decide (t3 < (0 : Int)) = Bool.true then Option.some ((Go.IntKind.wrap Go.IntKind.i64 ((0 : Int) - t3), ()), ()) else Option.some ((t3, ()), ())
def junctionref14_Decimal_11.w1 : List Nat := [15, 16, 17, 18, 3]
noncomputable def junctionref14_Decimal_11.e1 (k : Nat) : junctionref14_Decimal_11.s1.den → Option (OutT junctionref14_Decimal_11.o1) := fun d => junctionref14_Decimal_11.l1 k d.1.1
noncomputable def junctionref14_Decimal_11.m1 (k : Nat) : LamS κ := ⟨lamK 28 junctionref14_Decimal_11.w1 junctionref14_Decimal_11.s1 junctionref14_Decimal_11.o1 (junctionref14_Decimal_11.e1 k)⟩
def junctionref14_Decimal_11.s2 : Sh κ := ⟨0, [0, 3], [.int .i64, .int .i64], []⟩
def junctionref14_Decimal_11.o2 : List (Ex × Sh κ) := [(.normal, ⟨0, [2], [.str], []⟩)]
noncomputable def junctionref14_Decimal_11.l2 (k : Nat) (t0 : Int) (t3 : Int) : Option ((ByteArray × Unit) × Unit) :=
    Option.bind (Go.Am.Tryd.junctionref14_Decimal_10 k (Go.Am.quo Go.IntKind.i64 t0 (10 : Int))) fun r0 =>
      Go.Am.tooLong
        (ByteArray.size (Prod.fst r0) +
          ByteArray.size (Go.strOfNums (List.map (fun x => x) [Go.IntKind.wrap Go.IntKind.u8 (Go.IntKind.wrap Go.IntKind.i64 ((48 : Int) + t3))])))
        (Option.some
          ((Prod.fst r0 ++ Go.strOfNums (List.map (fun x => x) [Go.IntKind.wrap Go.IntKind.u8 (Go.IntKind.wrap Go.IntKind.i64 ((48 : Int) + t3))]), ()), ()))
def junctionref14_Decimal_11.w2 : List Nat := [19, 20, 21, 22, 23, 24, 25, 26, 27, 2]
noncomputable def junctionref14_Decimal_11.e2 (k : Nat) : junctionref14_Decimal_11.s2.den → Option (OutT junctionref14_Decimal_11.o2) := fun d => junctionref14_Decimal_11.l2 k d.1.1 d.1.2.1
noncomputable def junctionref14_Decimal_11.m2 (k : Nat) : LamS κ := ⟨lamK 28 junctionref14_Decimal_11.w2 junctionref14_Decimal_11.s2 junctionref14_Decimal_11.o2 (junctionref14_Decimal_11.e2 k)⟩
def junctionref14_Decimal_11.t2 : Sched := (.take 0 (.take 1 (.take 3 (.take 4 (.take 5 (.all (.cons 2 (.all (.cons 6 (.all (.cons 7 (.take 8 (.take 9 .done)) .nil)) .nil)) (.cons 6 (.all (.cons 2 (.all (.cons 7 (.take 8 (.take 9 .done)) .nil)) (.cons 7 (.all (.cons 2 (.take 8 (.take 9 .done)) .nil)) .nil))) .nil))))))))
noncomputable def junctionref14_Decimal_11.p2 (k : Nat) (t0 : Int) (t3 : Int) (o : (ByteArray × Unit) × Unit) : Prop :=
    Go.Am.holds
        (Option.bind (Go.Am.Tryd.junctionref14_Decimal_10 k (Go.Am.quo Go.IntKind.i64 t0 (10 : Int))) fun r2 =>
          Option.some
            ((Go.Am.holds
                  (Go.Am.tooLong
                    (ByteArray.size (Prod.fst r2) +
                      ByteArray.size (Go.strOfNums (List.map (fun x => x) [Go.IntKind.wrap Go.IntKind.u8 (Go.IntKind.wrap Go.IntKind.i64 ((48 : Int) + t3))])))
                    (Option.some
                      (Option.some
                          ((Prod.fst r2 ++ Go.strOfNums (List.map (fun x => x) [Go.IntKind.wrap Go.IntKind.u8 (Go.IntKind.wrap Go.IntKind.i64 ((48 : Int) + t3))]),
                              ()),
                            ()) =
                        Option.some o))) ∧
                True) ∧
              True)) ∧
      (Go.Am.holds
            (Option.bind (Go.Am.Tryd.junctionref14_Decimal_10 k (Go.Am.quo Go.IntKind.i64 t0 (10 : Int))) fun r1 =>
              Option.some
                (Go.Am.holds
                    (Go.Am.tooLong
                      (ByteArray.size (Prod.fst r1) +
                        ByteArray.size (Go.strOfNums (List.map (fun x => x) [Go.IntKind.wrap Go.IntKind.u8 (Go.IntKind.wrap Go.IntKind.i64 ((48 : Int) + t3))])))
                      (Option.some
                        (Option.some
                            ((Prod.fst r1 ++
                                  Go.strOfNums (List.map (fun x => x) [Go.IntKind.wrap Go.IntKind.u8 (Go.IntKind.wrap Go.IntKind.i64 ((48 : Int) + t3))]),
                                ()),
                              ()) =
                          Option.some o))) ∧
                  True)) ∧
          (Go.Am.holds
                (Option.bind (Go.Am.Tryd.junctionref14_Decimal_10 k (Go.Am.quo Go.IntKind.i64 t0 (10 : Int))) fun r0 =>
                  Option.some
                    (Go.Am.holds
                      (Go.Am.tooLong
                        (ByteArray.size (Prod.fst r0) +
                          ByteArray.size (Go.strOfNums (List.map (fun x => x) [Go.IntKind.wrap Go.IntKind.u8 (Go.IntKind.wrap Go.IntKind.i64 ((48 : Int) + t3))])))
                        (Option.some
                          (Option.some
                              ((Prod.fst r0 ++
                                    Go.strOfNums (List.map (fun x => x) [Go.IntKind.wrap Go.IntKind.u8 (Go.IntKind.wrap Go.IntKind.i64 ((48 : Int) + t3))]),
                                  ()),
                                ()) =
                            Option.some o))))) ∧
              True) ∧
            True) ∧
        True
theorem junctionref14_Decimal_11.q2 (k : Nat) (t0 : Int) (t3 : Int) (o : (ByteArray × Unit) × Unit) (h : junctionref14_Decimal_11.l2 k t0 t3 = some o) : junctionref14_Decimal_11.p2 k t0 t3 o := by
  unfold junctionref14_Decimal_11.l2 at h
  unfold junctionref14_Decimal_11.p2
  repeat' (first | split at h | (rw [Option.bind_eq_some_iff] at h; obtain ⟨_, _, h⟩ := h) | (rw [room_some] at h; obtain ⟨_, h⟩ := h) | (rw [tooLong_some] at h; obtain ⟨_, h⟩ := h))
  all_goals first | (cases h; done) | (cases h; simp only [Option.bind_some, room_pos, tooLong_pos, if_true, and_self, and_true, not_false_eq_true, holds, *]; done) | (cases h; simp [holds, room_pos, tooLong_pos, *])
def junctionref14_Decimal_11.p : Pat κ := .str
def junctionref14_Decimal_11.b : List (BPat κ) := []
noncomputable def junctionref14_Decimal_11 (k : Nat) (t0 : Int) : Option (ByteArray × Unit) :=
    Option.bind (Go.Am.Tryd.junctionref14_Decimal_11.l0 k t0) fun r0 =>
      if Prod.fst (Prod.fst r0) = Bool.true then
        Option.bind (Go.Am.Tryd.junctionref1_Text k (Go.IntKind.wrap Go.IntKind.i32 t0)) fun r1 => Option.some (Prod.fst r1, ())
      else
        Option.bind (Go.Am.Tryd.junctionref14_Decimal_11.l1 k (Go.Am.rem t0 (10 : Int))) fun r2 =>
          Option.bind (Go.Am.Tryd.junctionref14_Decimal_11.l2 k t0 (Prod.fst (Prod.fst r2))) fun r3 => Option.some (Prod.fst (Prod.fst r3), ())
noncomputable def junctionref14_Decimal_11.f (k : Nat) : dens junctionref14_Decimal_11.i → Option (junctionref14_Decimal_11.p.den × densB junctionref14_Decimal_11.b) := fun d => junctionref14_Decimal_11 k d.1
noncomputable def junctionref14_Decimal_11.ctx (k : Nat) : Ctx κ := junctionref14_Decimal_11.x k [junctionref14_Decimal_11.m0 k, junctionref14_Decimal_11.m1 k, junctionref14_Decimal_11.m2 k]
theorem junctionref14_Decimal_11.xOk (k : Nat) : (junctionref14_Decimal_11.ctx k).Ok := ctxOk ⟨junctionref1_Text.entOk k, junctionref14_Decimal_10.entOk k, trivial⟩ ⟨junctionref1_Text.qentOk k, junctionref14_Decimal_10.qentOk k, trivial⟩
theorem junctionref14_Decimal_11.k0 (k : Nat) : LamOk (junctionref14_Decimal_11.ctx k) ((junctionref14_Decimal_11.ctx k).Λ 0) (sub [1, 0, 0] junctionref14_Decimal_11.c) :=
  cut_ok (kindOf := kindOf) (C := junctionref14_Decimal_11.ctx k) (n := .none) (L := junctionref14_Decimal_11.e0 k) (junctionref14_Decimal_11.xOk k) (by kernel_rfl) (by kernel_rfl) (fits_of (l := []) (by kernel_rfl) trivial) (fun _ => by kernel_rfl)
theorem junctionref14_Decimal_11.k1 (k : Nat) : LamOk (junctionref14_Decimal_11.ctx k) ((junctionref14_Decimal_11.ctx k).Λ 1) (sub [1, 1, 1, 0] junctionref14_Decimal_11.c) :=
  cut_ok (kindOf := kindOf) (C := junctionref14_Decimal_11.ctx k) (n := .none) (L := junctionref14_Decimal_11.e1 k) (junctionref14_Decimal_11.xOk k) (by kernel_rfl) (by kernel_rfl) (fits_of (l := []) (by kernel_rfl) trivial) (fun _ => by kernel_rfl)
theorem junctionref14_Decimal_11.k2 (k : Nat) : LamOk (junctionref14_Decimal_11.ctx k) ((junctionref14_Decimal_11.ctx k).Λ 2) (sub [1, 1, 1, 1, 0] junctionref14_Decimal_11.c) :=
  tree_ok (kindOf := kindOf) (C := junctionref14_Decimal_11.ctx k) (L := junctionref14_Decimal_11.e2 k) (tr := junctionref14_Decimal_11.t2) (junctionref14_Decimal_11.xOk k) (by kernel_rfl) (by kernel_rfl) (by kernel_rfl) (by kernel_rfl) fun d o h => (show runs (junctionref14_Decimal_11.ctx k) kindOf _ junctionref14_Decimal_11.t2 _ _ = junctionref14_Decimal_11.p2 k d.1.1 d.1.2.1 o by kernel_rfl).mpr (junctionref14_Decimal_11.q2 k d.1.1 d.1.2.1 o (by unfold junctionref14_Decimal_11.e2 at h; exact h))
theorem junctionref14_Decimal_11.call (k : Nat) : CallV Tryd.prog E glob 27 junctionref14_Decimal_11.i junctionref14_Decimal_11.p junctionref14_Decimal_11.b (junctionref14_Decimal_11.f k) :=
  fn_okZ (kindOf := kindOf) (C := junctionref14_Decimal_11.ctx k) (n := (.pair .none (.pair (.pair (.cut 0) .none) (.pair .none (.pair (.cut 1) (.pair (.cut 2) .none)))))) (junctionref14_Decimal_11.xOk k) Tryd.func27 junctionref14_Decimal_11.hb (fits_of (l := [(0, (sub [1, 0, 0] junctionref14_Decimal_11.c)), (1, (sub [1, 1, 1, 0] junctionref14_Decimal_11.c)), (2, (sub [1, 1, 1, 1, 0] junctionref14_Decimal_11.c))]) (by kernel_rfl) ⟨junctionref14_Decimal_11.k0 k, junctionref14_Decimal_11.k1 k, junctionref14_Decimal_11.k2 k, trivial⟩) (fun _ => by kernel_rfl)
noncomputable def junctionref14_Decimal_11.ent (k : Nat) : EntS κ := ⟨27, [], entOf junctionref14_Decimal_11.i junctionref14_Decimal_11.p junctionref14_Decimal_11.b true (junctionref14_Decimal_11.f k) E⟩
theorem junctionref14_Decimal_11.entOk (k : Nat) : EntOk Tryd.prog E glob 27 (junctionref14_Decimal_11.ent k).run := ent_free encOk (callable_of Tryd.func27 (by kernel_rfl) (by kernel_rfl)) (by rfl) trivial (junctionref14_Decimal_11.call k)
noncomputable def junctionref14_Decimal_11.qent (k : Nat) : QEntS κ := ⟨27, qentOf junctionref14_Decimal_11.i junctionref14_Decimal_11.p (junctionref14_Decimal_11.f k) E⟩
theorem junctionref14_Decimal_11.qentOk (k : Nat) : QEntOk Tryd.prog E glob 27 (junctionref14_Decimal_11.qent k).run := qent_ok encOk (callable_of Tryd.func27 (by kernel_rfl) (by kernel_rfl)) (junctionref14_Decimal_11.call k)
noncomputable def junctionref14_Report.c : Go.Code := match Tryd.f15.body with | some c => c | none => .skip
theorem junctionref14_Report.hb : Tryd.f15.body = some junctionref14_Report.c := by kernel_rfl
noncomputable def junctionref14_Report.x (k : Nat) (ls : List (LamS κ)) : Ctx κ := mkCtx [junctionref14_saying.ent k, junctionref14_Phase.ent k, junctionref14_Decimal_11.ent k] [junctionref14_Phase.qent k, junctionref14_Decimal_11.qent k] ls
def junctionref14_Report.i : List (Pat κ) := [.agg [.int .i64, .int .i64, .int .i64]]
def junctionref14_Report.s1 : Sh κ := ⟨0, [1, 3], [.rop [.int .i64, .int .i64, .int .i64], .str], []⟩
def junctionref14_Report.s0 : Sh κ := ⟨0, [1], [.rop [.int .i64, .int .i64, .int .i64]], []⟩
def junctionref14_Report.o0 : List (Ex × Sh κ) := [(.normal, ⟨0, [18], [.bool], []⟩)]
noncomputable def junctionref14_Report.l0 (k : Nat) (t1 : Int) (t1_1 : Int) (t1_2 : Int) : Option ((Bool × Unit) × Unit) :=
    if (t1_1 != (0 : Int)) = Bool.false then Option.some ((t1_2 != (0 : Int), ()), ()) else Option.some ((Bool.true, ()), ())
def junctionref14_Report.w0 : List Nat := [9, 10, 11, 12, 13, 14, 15, 16, 17, 18]
noncomputable def junctionref14_Report.e0 (k : Nat) : junctionref14_Report.s0.den → Option (OutT junctionref14_Report.o0) := fun d => junctionref14_Report.l0 k d.1.1.1 d.1.1.2.1 d.1.1.2.2.1
noncomputable def junctionref14_Report.m0 (k : Nat) : LamS κ := ⟨lamK 49 junctionref14_Report.w0 junctionref14_Report.s0 junctionref14_Report.o0 (junctionref14_Report.e0 k)⟩
def junctionref14_Report.o1 : List (Ex × Sh κ) := [(.normal, ⟨0, [3], [.str], []⟩)]
noncomputable def junctionref14_Report.l1 (k : Nat) (t1 : Int) (t1_1 : Int) (t1_2 : Int) (t3 : ByteArray) : Option ((ByteArray × Unit) × Unit) :=
    Option.bind (Go.Am.Tryd.junctionref14_Report.l0 k t1 t1_1 t1_2) fun r0 =>
      if Prod.fst (Prod.fst r0) = Bool.true then
        Option.bind (Go.Am.Tryd.junctionref14_Decimal_11 k t1_1) fun r1 =>
          Go.Am.tooLong (ByteArray.size (Prod.fst r1) + ByteArray.size (ByteArray.mk #[(58 : UInt8)]))
            (Option.bind (Go.Am.Tryd.junctionref14_Decimal_11 k t1_2) fun r2 =>
              Go.Am.tooLong (ByteArray.size (Prod.fst r1 ++ ByteArray.mk #[(58 : UInt8)]) + ByteArray.size (Prod.fst r2))
                (Go.Am.tooLong
                  (ByteArray.size (Prod.fst r1 ++ ByteArray.mk #[(58 : UInt8)] ++ Prod.fst r2) + ByteArray.size (ByteArray.mk #[(58 : UInt8), (32 : UInt8)]))
                  (Option.some ((Prod.fst r1 ++ ByteArray.mk #[(58 : UInt8)] ++ Prod.fst r2 ++ ByteArray.mk #[(58 : UInt8), (32 : UInt8)], ()), ()))))
      else Option.some ((t3, ()), ())
def junctionref14_Report.w1 : List Nat := [9, 10, 11, 12, 13, 14, 15, 16, 17, 18, 19, 20, 21, 22, 23, 24, 25, 26, 27, 28, 29, 3]
noncomputable def junctionref14_Report.e1 (k : Nat) : junctionref14_Report.s1.den → Option (OutT junctionref14_Report.o1) := fun d => junctionref14_Report.l1 k d.1.1.1 d.1.1.2.1 d.1.1.2.2.1 d.1.2.1
noncomputable def junctionref14_Report.m1 (k : Nat) : LamS κ := ⟨lamK 49 junctionref14_Report.w1 junctionref14_Report.s1 junctionref14_Report.o1 (junctionref14_Report.e1 k)⟩
def junctionref14_Report.s2 : Sh κ := ⟨0, [1, 4, 5], [.rop [.int .i64, .int .i64, .int .i64], .str, .bool], []⟩
def junctionref14_Report.o2 : List (Ex × Sh κ) := [(.normal, ⟨0, [4], [.str], []⟩)]
noncomputable def junctionref14_Report.l2 (k : Nat) (t1 : Int) (t1_1 : Int) (t1_2 : Int) (t4 : ByteArray) (t5 : Bool) : Option ((ByteArray × Unit) × Unit) :=
    if (!t5) = Bool.true then
      Option.bind (Go.Am.Tryd.junctionref14_Decimal_11 k t1) fun r0 =>
        Go.Am.tooLong
          (ByteArray.size (ByteArray.mk #[(101 : UInt8), (114 : UInt8), (114 : UInt8), (111 : UInt8), (114 : UInt8), (32 : UInt8)]) + ByteArray.size (Prod.fst r0))
          (Option.some ((ByteArray.mk #[(101 : UInt8), (114 : UInt8), (114 : UInt8), (111 : UInt8), (114 : UInt8), (32 : UInt8)] ++ Prod.fst r0, ()), ()))
    else Option.some ((t4, ()), ())
def junctionref14_Report.w2 : List Nat := [36, 37, 38, 39, 40, 41, 4]
noncomputable def junctionref14_Report.e2 (k : Nat) : junctionref14_Report.s2.den → Option (OutT junctionref14_Report.o2) := fun d => junctionref14_Report.l2 k d.1.1.1 d.1.1.2.1 d.1.1.2.2.1 d.1.2.1 d.1.2.2.1
noncomputable def junctionref14_Report.m2 (k : Nat) : LamS κ := ⟨lamK 49 junctionref14_Report.w2 junctionref14_Report.s2 junctionref14_Report.o2 (junctionref14_Report.e2 k)⟩
def junctionref14_Report.p : Pat κ := .str
def junctionref14_Report.b : List (BPat κ) := []
noncomputable def junctionref14_Report (k : Nat) (t0 : Int) (t0_1 : Int) (t0_2 : Int) : Option (ByteArray × Unit) :=
    if (t0 == (0 : Int)) = Bool.true then Option.some (ByteArray.mk #[(111 : UInt8), (107 : UInt8)], ())
    else
      Option.bind (Go.Am.Tryd.junctionref14_Report.l1 k t0 t0_1 t0_2 (ByteArray.mk #[])) fun r0 =>
        Option.bind (Go.Am.Tryd.junctionref14_saying k t0) fun r1 =>
          Option.bind (Go.Am.Tryd.junctionref14_Report.l2 k t0 t0_1 t0_2 (Prod.fst (Prod.fst r1)) (Prod.fst (Prod.snd (Prod.fst r1)))) fun r2 =>
            Option.bind (Go.Am.Tryd.junctionref14_Phase k t0 t0_1 t0_2) fun r3 =>
              Go.Am.tooLong (ByteArray.size (Prod.fst (Prod.fst r0)) + ByteArray.size (Prod.fst r3))
                (Go.Am.tooLong (ByteArray.size (Prod.fst (Prod.fst r0) ++ Prod.fst r3) + ByteArray.size (ByteArray.mk #[(58 : UInt8), (32 : UInt8)]))
                  (Go.Am.tooLong
                    (ByteArray.size (Prod.fst (Prod.fst r0) ++ Prod.fst r3 ++ ByteArray.mk #[(58 : UInt8), (32 : UInt8)]) + ByteArray.size (Prod.fst (Prod.fst r2)))
                    (Option.some (Prod.fst (Prod.fst r0) ++ Prod.fst r3 ++ ByteArray.mk #[(58 : UInt8), (32 : UInt8)] ++ Prod.fst (Prod.fst r2), ()))))
noncomputable def junctionref14_Report.f (k : Nat) : dens junctionref14_Report.i → Option (junctionref14_Report.p.den × densB junctionref14_Report.b) := fun d => junctionref14_Report k d.1.1 d.1.2.1 d.1.2.2.1
noncomputable def junctionref14_Report.ctx (k : Nat) : Ctx κ := junctionref14_Report.x k [junctionref14_Report.m0 k, junctionref14_Report.m1 k, junctionref14_Report.m2 k]
theorem junctionref14_Report.xOk (k : Nat) : (junctionref14_Report.ctx k).Ok := ctxOk ⟨junctionref14_saying.entOk k, junctionref14_Phase.entOk k, junctionref14_Decimal_11.entOk k, trivial⟩ ⟨junctionref14_Phase.qentOk k, junctionref14_Decimal_11.qentOk k, trivial⟩
theorem junctionref14_Report.k0 (k : Nat) : LamOk (junctionref14_Report.ctx k) ((junctionref14_Report.ctx k).Λ 0) (sub [1, 1, 1, 0, 0] junctionref14_Report.c) :=
  cut_ok (kindOf := kindOf) (C := junctionref14_Report.ctx k) (n := .none) (L := junctionref14_Report.e0 k) (junctionref14_Report.xOk k) (by kernel_rfl) (by kernel_rfl) (fits_of (l := []) (by kernel_rfl) trivial) (fun _ => by kernel_rfl)
theorem junctionref14_Report.k1 (k : Nat) : LamOk (junctionref14_Report.ctx k) ((junctionref14_Report.ctx k).Λ 1) (sub [1, 1, 1, 0] junctionref14_Report.c) :=
  cut_ok (kindOf := kindOf) (C := junctionref14_Report.ctx k) (n := (.pair (.cut 0) (.pair (.ops [] 12) .none))) (L := junctionref14_Report.e1 k) (junctionref14_Report.xOk k) (by kernel_rfl) (by kernel_rfl) (fits_of (l := [(0, (sub [1, 1, 1, 0, 0] junctionref14_Report.c))]) (by kernel_rfl) ⟨junctionref14_Report.k0 k, trivial⟩) (fun _ => by kernel_rfl)
theorem junctionref14_Report.k2 (k : Nat) : LamOk (junctionref14_Report.ctx k) ((junctionref14_Report.ctx k).Λ 2) (sub [1, 1, 1, 1, 1, 0] junctionref14_Report.c) :=
  cut_ok (kindOf := kindOf) (C := junctionref14_Report.ctx k) (n := .none) (L := junctionref14_Report.e2 k) (junctionref14_Report.xOk k) (by kernel_rfl) (by kernel_rfl) (fits_of (l := []) (by kernel_rfl) trivial) (fun _ => by kernel_rfl)
theorem junctionref14_Report.call (k : Nat) : CallV Tryd.prog E glob 15 junctionref14_Report.i junctionref14_Report.p junctionref14_Report.b (junctionref14_Report.f k) :=
  fn_okZ (kindOf := kindOf) (C := junctionref14_Report.ctx k) (n := (.pair (.ops [0] 0) (.pair .none (.pair .none (.pair (.cut 1) (.pair .none (.pair (.cut 2) .none))))))) (junctionref14_Report.xOk k) Tryd.func15 junctionref14_Report.hb (fits_of (l := [(1, (sub [1, 1, 1, 0] junctionref14_Report.c)), (2, (sub [1, 1, 1, 1, 1, 0] junctionref14_Report.c))]) (by kernel_rfl) ⟨junctionref14_Report.k1 k, junctionref14_Report.k2 k, trivial⟩) (fun _ => by kernel_rfl)
noncomputable def junctionref14_Report.ent (k : Nat) : EntS κ := ⟨15, [], entOf junctionref14_Report.i junctionref14_Report.p junctionref14_Report.b true (junctionref14_Report.f k) E⟩
theorem junctionref14_Report.entOk (k : Nat) : EntOk Tryd.prog E glob 15 (junctionref14_Report.ent k).run := ent_free encOk (callable_of Tryd.func15 (by kernel_rfl) (by kernel_rfl)) (by rfl) trivial (junctionref14_Report.call k)
noncomputable def junctionref14_Report.qent (k : Nat) : QEntS κ := ⟨15, qentOf junctionref14_Report.i junctionref14_Report.p (junctionref14_Report.f k) E⟩
theorem junctionref14_Report.qentOk (k : Nat) : QEntOk Tryd.prog E glob 15 (junctionref14_Report.qent k).run := qent_ok encOk (callable_of Tryd.func15 (by kernel_rfl) (by kernel_rfl)) (junctionref14_Report.call k)
noncomputable def junctionlaw14_DriverReports.c : Go.Code := match Tryd.f5.body with | some c => c | none => .skip
theorem junctionlaw14_DriverReports.hb : Tryd.f5.body = some junctionlaw14_DriverReports.c := by kernel_rfl
noncomputable def junctionlaw14_DriverReports.x (k : Nat) (ls : List (LamS κ)) : Ctx κ := mkCtx [driver_Report.ent k, junctionref14_Report.ent k] [driver_Report.qent k, junctionref14_Report.qent k] ls
def junctionlaw14_DriverReports.i : List (Pat κ) := [.agg [.int .i64, .int .i64, .int .i64]]
def junctionlaw14_DriverReports.p : Pat κ := .bool
def junctionlaw14_DriverReports.b : List (BPat κ) := []
noncomputable def junctionlaw14_DriverReports (k : Nat) (t0 : Int) (t0_1 : Int) (t0_2 : Int) : Option (Bool × Unit) :=
    Option.bind (Go.Am.Tryd.driver_Report k t0 t0_1 t0_2) fun r0 =>
      Option.bind (Go.Am.Tryd.junctionref14_Report k t0 t0_1 t0_2) fun r1 => Option.some (ByteArray.toList (Prod.fst r0) == ByteArray.toList (Prod.fst r1), ())
noncomputable def junctionlaw14_DriverReports.f (k : Nat) : dens junctionlaw14_DriverReports.i → Option (junctionlaw14_DriverReports.p.den × densB junctionlaw14_DriverReports.b) := fun d => junctionlaw14_DriverReports k d.1.1 d.1.2.1 d.1.2.2.1
noncomputable def junctionlaw14_DriverReports.ctx (k : Nat) : Ctx κ := junctionlaw14_DriverReports.x k []
theorem junctionlaw14_DriverReports.xOk (k : Nat) : (junctionlaw14_DriverReports.ctx k).Ok := ctxOk ⟨driver_Report.entOk k, junctionref14_Report.entOk k, trivial⟩ ⟨driver_Report.qentOk k, junctionref14_Report.qentOk k, trivial⟩
theorem junctionlaw14_DriverReports.call (k : Nat) : CallV Tryd.prog E glob 5 junctionlaw14_DriverReports.i junctionlaw14_DriverReports.p junctionlaw14_DriverReports.b (junctionlaw14_DriverReports.f k) :=
  fn_okZ (kindOf := kindOf) (C := junctionlaw14_DriverReports.ctx k) (n := (.pair (.ops [0] 0) (.pair (.ops [] 6) .none))) (junctionlaw14_DriverReports.xOk k) Tryd.func5 junctionlaw14_DriverReports.hb (fits_of (l := []) (by kernel_rfl) trivial) (fun _ => by kernel_rfl)
noncomputable def junctionlaw14_DriverReports.ent (k : Nat) : EntS κ := ⟨5, [], entOf junctionlaw14_DriverReports.i junctionlaw14_DriverReports.p junctionlaw14_DriverReports.b true (junctionlaw14_DriverReports.f k) E⟩
theorem junctionlaw14_DriverReports.entOk (k : Nat) : EntOk Tryd.prog E glob 5 (junctionlaw14_DriverReports.ent k).run := ent_free encOk (callable_of Tryd.func5 (by kernel_rfl) (by kernel_rfl)) (by rfl) trivial (junctionlaw14_DriverReports.call k)
noncomputable def junctionlaw14_DriverReports.qent (k : Nat) : QEntS κ := ⟨5, qentOf junctionlaw14_DriverReports.i junctionlaw14_DriverReports.p (junctionlaw14_DriverReports.f k) E⟩
theorem junctionlaw14_DriverReports.qentOk (k : Nat) : QEntOk Tryd.prog E glob 5 (junctionlaw14_DriverReports.qent k).run := qent_ok encOk (callable_of Tryd.func5 (by kernel_rfl) (by kernel_rfl)) (junctionlaw14_DriverReports.call k)
end Go.Am.Tryd
