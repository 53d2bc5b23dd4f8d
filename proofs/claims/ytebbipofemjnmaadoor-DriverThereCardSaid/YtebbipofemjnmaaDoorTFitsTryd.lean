/- What elements read as, opened by their parts. -/
import Derived.Test.YtebbipofemjnmaaDoorTAm18
import Derived.Test.YtebbipofemjnmaaDoorTKindsTryd
namespace Go.Am.Tryd
open Go.Proofs Go.Am Go.RowKit
set_option maxRecDepth 100000
def okT38 (x : S38) : Prop := ByteArray.size x.f0 ≤ 140737488351232 ∧ (Lit.int .i64 x.f1).wf = true
theorem fitsT38 : Fits' Tryd.prog E 38 (D.pats Kc.T38) (fun d => okT38 (D.to Kc.T38 d)) := by
  have h := (fits_struct (E := E) Tryd.underlying38 (by kernel_rfl) (fitsF_cons rfl (fits_string Tryd.underlying9) (by kernel_rfl) (fitsF_cons rfl (fits_int Tryd.underlying3) (by kernel_rfl) fitsF_nil)))
  exact fits_imp h fun x hx => by
    obtain ⟨h0, h1, _⟩ := hx
    exact ⟨h0, h1⟩
def okT5 (x : Int) : Prop := (Lit.int .u8 x).wf = true
theorem fitsT5 : Fits' Tryd.prog E 5 (D.pats Kc.T5) (fun d => okT5 (D.to Kc.T5 d)) := fits_imp (fits_int (E := E) Tryd.underlying5) fun x hx => hx
def okT73 (x : Int) : Prop := (Lit.int .u64 x).wf = true
theorem fitsT73 : Fits' Tryd.prog E 73 (D.pats Kc.T73) (fun d => okT73 (D.to Kc.T73 d)) := fits_imp (fits_int (E := E) Tryd.underlying73) fun x hx => hx
end Go.Am.Tryd
