/- Contracts of the library's functions, as the machine over data takes them. -/
import Derived.Test.YtebbipofemjnmaaDoorTBldW
import Derived.Test.YtebbipofemjnmaaDoorShelf
import Derived.Lib.AppendIntMem
import Derived.KernelRfl
namespace Go.Am.Tryd
open Go.Proofs Go.Am Go.RowKit
set_option maxRecDepth 100000

noncomputable def strconv_Itoa (_k : Nat) (n : Int) : Option (ByteArray × Unit) := if -9223372036854775808 ≤ n ∧ n ≤ 9223372036854775807 then some (⟨(Lib.itoa n).toArray⟩, ()) else none
def strconv_Itoa.i : List (Pat κ) := [.int .i64]
def strconv_Itoa.p : Pat κ := .str
def strconv_Itoa.b : List (BPat κ) := []
noncomputable def strconv_Itoa.f (k : Nat) : dens strconv_Itoa.i → Option (strconv_Itoa.p.den × densB strconv_Itoa.b) := fun d => strconv_Itoa k d.1
theorem pow10_name : Tryd.prog.globalNamed "internal/strconv.uint64pow10" = some 2 := by kernel_rfl
theorem strconv_Itoa.call (k : Nat) : CallV Tryd.prog E glob 23 strconv_Itoa.i strconv_Itoa.p strconv_Itoa.b (strconv_Itoa.f k) := callV_below fun d r hd w F us hg hf hus => by
  unfold strconv_Itoa.f strconv_Itoa at hd
  split at hd
  · rename_i hc
    obtain rfl := Option.some.inj hd
    refine ⟨.string ⟨(Lib.itoa d.1).toArray⟩, rfl, ?_⟩
    obtain ⟨u, us', h1, h2, h3⟩ := (show Reps E F noPl (.val (.int .i64 d.1) :: []) us.toList from hus).cons_inv
    obtain rfl := h3.nil_inv
    obtain rfl := val_inv h2
    have hT : Lib.TabIs Tryd.prog w "internal/strconv.uint64pow10" .u64 Lib.pow10Tab := tabIs_of (E := E) (G := glob) (k := Kc.T73) (xs := tab2) pow10_name rfl (by kernel_rfl) (by kernel_rfl) hg hf
    have hus' : us = #[.int .i64 d.1] := by cases us; simp_all
    rw [hus']
    refine (Go.Proofs.Tryd.strconv_Itoa d.1 hc.1 hc.2 w hT).mono ?_
    rintro e w' ⟨rfl, k, os, rfl⟩
    exact ⟨rfl, Lib.below_grow _ w (Nat.le_refl _) k os⟩
  · cases hd
noncomputable def strconv_Itoa.ent (k : Nat) : EntS κ := ⟨23, [], entOf strconv_Itoa.i strconv_Itoa.p strconv_Itoa.b true (strconv_Itoa.f k) E⟩
theorem strconv_Itoa.entOk (k : Nat) : EntOk Tryd.prog E glob 23 (strconv_Itoa.ent k).run := ent_free encOk (callIs Tryd.func23 (by kernel_rfl) (by kernel_rfl)) (by rfl) trivial (strconv_Itoa.call k)
noncomputable def strconv_Itoa.qent (k : Nat) : QEntS κ := ⟨23, qentOf strconv_Itoa.i strconv_Itoa.p (strconv_Itoa.f k) E⟩
theorem strconv_Itoa.qentOk (k : Nat) : QEntOk Tryd.prog E glob 23 (strconv_Itoa.qent k).run := qent_ok encOk (callIs Tryd.func23 (by kernel_rfl) (by kernel_rfl)) (strconv_Itoa.call k)

noncomputable def junctionref14_Decimal_0 (_k : Nat) (_n : Int) : Option (ByteArray × Unit) := none
noncomputable def junctionref14_Decimal_0.f (k : Nat) : dens [(.int .i64 : Pat κ)] → Option ((.str : Pat κ).den × densB ([] : List (BPat κ))) := fun d => junctionref14_Decimal_0 k d.1
theorem junctionref14_Decimal_0.call (k : Nat) : CallV Tryd.prog E glob 27 [.int .i64] .str [] (junctionref14_Decimal_0.f k) := fun d r h => by cases h
noncomputable def junctionref14_Decimal_0.ent (k : Nat) : EntS κ := ⟨27, [], entOf [.int .i64] .str [] true (junctionref14_Decimal_0.f k) E⟩
theorem junctionref14_Decimal_0.entOk (k : Nat) : EntOk Tryd.prog E glob 27 (junctionref14_Decimal_0.ent k).run := ent_free encOk (callIs Tryd.func27 (by kernel_rfl) (by kernel_rfl)) (by rfl) trivial (junctionref14_Decimal_0.call k)
noncomputable def junctionref14_Decimal_0.qent (k : Nat) : QEntS κ := ⟨27, qentOf [.int .i64] .str (junctionref14_Decimal_0.f k) E⟩
theorem junctionref14_Decimal_0.qentOk (k : Nat) : QEntOk Tryd.prog E glob 27 (junctionref14_Decimal_0.qent k).run := qent_ok encOk (callIs Tryd.func27 (by kernel_rfl) (by kernel_rfl)) (junctionref14_Decimal_0.call k)

noncomputable def strings_IndexByte (_k : Nat) (s : ByteArray) (c : Int) : Option (Int × Unit) := some (Lib.indexByte s.data.toList c.toNat.toUInt8, ())
def strings_IndexByte.i : List (Pat κ) := [.str, .int .u8]
def strings_IndexByte.p : Pat κ := .int .i64
def strings_IndexByte.b : List (BPat κ) := []
noncomputable def strings_IndexByte.f (k : Nat) : dens strings_IndexByte.i → Option (strings_IndexByte.p.den × densB strings_IndexByte.b) := fun d => strings_IndexByte k d.1 d.2.1
theorem strings_IndexByte.call (k : Nat) : CallV Tryd.prog E glob 39 strings_IndexByte.i strings_IndexByte.p strings_IndexByte.b (strings_IndexByte.f k) := callV_below fun d r hd w F us hg hf hus => by
  unfold strings_IndexByte.f strings_IndexByte at hd
  obtain rfl := Option.some.inj hd
  refine ⟨_, rfl, ?_⟩
  obtain ⟨u, us', h1, h2, h3⟩ := (show Reps E F noPl (.val (.string d.1) :: .val (.int .u8 d.2.1) :: []) us.toList from hus).cons_inv
  obtain ⟨u2, us'', h4, h5, h6⟩ := h3.cons_inv
  obtain rfl := h6.nil_inv
  obtain rfl := val_inv h2
  obtain rfl := val_inv h5
  subst h4
  have hus' : us = #[.string d.1, .int .u8 d.2.1] := by cases us; simp_all
  rw [hus']
  refine (Go.Proofs.Tryd.strings_IndexByte d.1 d.2.1 w).mono ?_
  rintro e w' ⟨rfl, rfl⟩
  exact ⟨rfl, Below.refl _ _⟩
noncomputable def strings_IndexByte.ent (k : Nat) : EntS κ := ⟨39, [], entOf strings_IndexByte.i strings_IndexByte.p strings_IndexByte.b true (strings_IndexByte.f k) E⟩
theorem strings_IndexByte.entOk (k : Nat) : EntOk Tryd.prog E glob 39 (strings_IndexByte.ent k).run := ent_free encOk (callIs Tryd.func39 (by kernel_rfl) (by kernel_rfl)) (by rfl) trivial (strings_IndexByte.call k)
noncomputable def strings_IndexByte.qent (k : Nat) : QEntS κ := ⟨39, qentOf strings_IndexByte.i strings_IndexByte.p (strings_IndexByte.f k) E⟩
theorem strings_IndexByte.qentOk (k : Nat) : QEntOk Tryd.prog E glob 39 (strings_IndexByte.qent k).run := qent_ok encOk (callIs Tryd.func39 (by kernel_rfl) (by kernel_rfl)) (strings_IndexByte.call k)
end Go.Am.Tryd
