/- The library's search of a byte, below strings.Cut. -/
import Derived.Test.YtdgempbldhdihaaDoorVKindsTryd
import Derived.Test.YtdgempbldhdihaaDoorShelf
import Derived.KernelRfl
import Derived.Test.YtdgempbldhdihaaDoorVAm20
namespace Go.Am.Tryd
open Go.Proofs Go.Am Go.RowKit
set_option maxRecDepth 100000
theorem callIs {fid : FuncId} {fn : Func} (h : Tryd.prog.funcs[fid]? = some fn) (hn : (fn.name == "runtime.NumGoroutine") = false) (hb : fn.body.isNone = false) (us : Array Value) (w : World) : (callFunc fid us).run Tryd.prog w = .ok (.enter fid us) w := by
  unfold callFunc
  simp only [Sem.run_bind, run_program, Result.andThen_ok, h, hn, hb]
  rfl

noncomputable def stringslite_IndexByte (_k : Nat) (s : ByteArray) (c : Int) : Option (Int × Unit) := some (Lib.indexByte s.data.toList c.toNat.toUInt8, ())
def stringslite_IndexByte.i : List (Pat κ) := [.str, .int .u8]
def stringslite_IndexByte.p : Pat κ := .int .i64
def stringslite_IndexByte.b : List (BPat κ) := []
noncomputable def stringslite_IndexByte.f (k : Nat) : dens stringslite_IndexByte.i → Option (stringslite_IndexByte.p.den × densB stringslite_IndexByte.b) := fun d => stringslite_IndexByte k d.1 d.2.1
theorem stringslite_IndexByte.call (k : Nat) : CallV Tryd.prog E glob 145 stringslite_IndexByte.i stringslite_IndexByte.p stringslite_IndexByte.b (stringslite_IndexByte.f k) := callV_below fun d r hd w F us hg hf hus => by
  unfold stringslite_IndexByte.f stringslite_IndexByte at hd
  obtain rfl := Option.some.inj hd
  refine ⟨_, rfl, ?_⟩
  obtain ⟨u, us', h1, h2, h3⟩ := (show Reps E F noPl (.val (.string d.1) :: .val (.int .u8 d.2.1) :: []) us.toList from hus).cons_inv
  obtain ⟨u2, us'', h4, h5, h6⟩ := h3.cons_inv
  obtain rfl := h6.nil_inv
  obtain rfl := val_inv h2
  obtain rfl := val_inv h5
  subst h4
  have hus' : us = #[.string d.1, .int .u8 d.2.1] := by cases us; simp_all
  rw [hus']
  refine (Go.Proofs.Tryd.stringslite_IndexByte d.1 d.2.1 w).mono ?_
  rintro e w' ⟨rfl, rfl⟩
  exact ⟨rfl, Below.refl _ _⟩
noncomputable def stringslite_IndexByte.ent (k : Nat) : EntS κ := ⟨145, [], entOf stringslite_IndexByte.i stringslite_IndexByte.p stringslite_IndexByte.b true (stringslite_IndexByte.f k) E⟩
theorem stringslite_IndexByte.entOk (k : Nat) : EntOk Tryd.prog E glob 145 (stringslite_IndexByte.ent k).run := ent_free encOk (callIs Tryd.func145 (by kernel_rfl) (by kernel_rfl)) (by rfl) trivial (stringslite_IndexByte.call k)
noncomputable def stringslite_IndexByte.qent (k : Nat) : QEntS κ := ⟨145, qentOf stringslite_IndexByte.i stringslite_IndexByte.p (stringslite_IndexByte.f k) E⟩
theorem stringslite_IndexByte.qentOk (k : Nat) : QEntOk Tryd.prog E glob 145 (stringslite_IndexByte.qent k).run := qent_ok encOk (callIs Tryd.func145 (by kernel_rfl) (by kernel_rfl)) (stringslite_IndexByte.call k)

noncomputable def stringslite_Index (_k : Nat) (s sep : ByteArray) : Option (Int × Unit) := match sep.data.toList with | [c] => some (Lib.indexByte s.data.toList c, ()) | _ => none
def stringslite_Index.i : List (Pat κ) := [.str, .str]
def stringslite_Index.p : Pat κ := .int .i64
def stringslite_Index.b : List (BPat κ) := []
noncomputable def stringslite_Index.f (k : Nat) : dens stringslite_Index.i → Option (stringslite_Index.p.den × densB stringslite_Index.b) := fun d => stringslite_Index k d.1 d.2.1
theorem stringslite_Index.call (k : Nat) : CallV Tryd.prog E glob 144 stringslite_Index.i stringslite_Index.p stringslite_Index.b (stringslite_Index.f k) := callV_below fun d r hd w F us hg hf hus => by
  unfold stringslite_Index.f stringslite_Index at hd
  split at hd
  case h_2 => cases hd
  rename_i c hc
  obtain rfl := Option.some.inj hd
  refine ⟨_, rfl, ?_⟩
  obtain ⟨u, us', h1, h2, h3⟩ := (show Reps E F noPl (.val (.string d.1) :: .val (.string d.2.1) :: []) us.toList from hus).cons_inv
  obtain ⟨u2, us'', h4, h5, h6⟩ := h3.cons_inv
  obtain rfl := h6.nil_inv
  obtain rfl := val_inv h2
  obtain rfl := val_inv h5
  subst h4
  have e : d.2.1 = ⟨#[c]⟩ := by
    apply ByteArray.ext
    apply Array.toList_inj.1
    exact hc
  have hus' : us = #[.string d.1, .string ⟨#[c]⟩] := by cases us; simp_all
  rw [hus']
  refine (Any.stringslite_Index_one Tryd.lays219 d.1 c w).mono ?_
  rintro e w' ⟨rfl, rfl⟩
  exact ⟨rfl, Below.refl _ _⟩
noncomputable def stringslite_Index.ent (k : Nat) : EntS κ := ⟨144, [], entOf stringslite_Index.i stringslite_Index.p stringslite_Index.b true (stringslite_Index.f k) E⟩
theorem stringslite_Index.entOk (k : Nat) : EntOk Tryd.prog E glob 144 (stringslite_Index.ent k).run := ent_free encOk (callIs Tryd.func144 (by kernel_rfl) (by kernel_rfl)) (by rfl) trivial (stringslite_Index.call k)
noncomputable def stringslite_Index.qent (k : Nat) : QEntS κ := ⟨144, qentOf stringslite_Index.i stringslite_Index.p (stringslite_Index.f k) E⟩
theorem stringslite_Index.qentOk (k : Nat) : QEntOk Tryd.prog E glob 144 (stringslite_Index.qent k).run := qent_ok encOk (callIs Tryd.func144 (by kernel_rfl) (by kernel_rfl)) (stringslite_Index.call k)
end Go.Am.Tryd
