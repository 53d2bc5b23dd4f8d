/- What the struct types read as, and what is known of each value that came in. -/
import Derived.Test.YtdgempbldhdihaaP0
import Derived.Test.YtdgempbldhdihaaOpen
namespace Go.Proofs.Ytdgempbldhdihaa.Fit
open Go.RowKit Go.Proofs.YtdgempbldhdihaaW.PrintWords Go.Proofs.Ytdgempbldhdihaa.P
instance : Inhabited S43 := ⟨z43⟩
def ok43 (x : S43) : Prop := x.f0.size ≤ 140737488351232 ∧ (Lit.int .i64 x.f1).wf = true ∧ (Lit.int .i64 x.f2).wf = true ∧ (Lit.int .i64 x.f3).wf = true ∧ (Lit.int .i64 x.f4).wf = true
theorem fits43 : Open.Fits Try.prog 43 k43 ok43 :=
  Open.fits_imp (Open.fits_iso (fun p => ⟨p.1, p.2.1, p.2.2.1, p.2.2.2.1, p.2.2.2.2⟩) (fun _ => rfl) (Open.fits_struct Try.underlying43 (by kernel_rfl) (Open.fitsF_cons rfl (Open.fits_string Try.underlying9) (by kernel_rfl) (Open.fitsF_cons rfl (Open.fits_int Try.underlying3) (by kernel_rfl) (Open.fitsF_cons rfl (Open.fits_int Try.underlying3) (by kernel_rfl) (Open.fitsF_cons rfl (Open.fits_int Try.underlying3) (by kernel_rfl) (Open.fitsF_one rfl (Open.fits_int Try.underlying3) (by kernel_rfl)))))))) (fun _ h => h)
instance : Inhabited S45 := ⟨z45⟩
def ok45 (x : S45) : Prop := (Lit.int .i64 x.f0).wf = true ∧ (Lit.int .i64 x.f1).wf = true ∧ (Lit.int .i64 x.f2).wf = true ∧ (Lit.int .i64 x.f3).wf = true
theorem fits45 : Open.Fits Try.prog 45 k45 ok45 :=
  Open.fits_imp (Open.fits_iso (fun p => ⟨p.1, p.2.1, p.2.2.1, p.2.2.2⟩) (fun _ => rfl) (Open.fits_struct Try.underlying45 (by kernel_rfl) (Open.fitsF_cons rfl (Open.fits_int Try.underlying3) (by kernel_rfl) (Open.fitsF_cons rfl (Open.fits_int Try.underlying3) (by kernel_rfl) (Open.fitsF_cons rfl (Open.fits_int Try.underlying3) (by kernel_rfl) (Open.fitsF_one rfl (Open.fits_int Try.underlying3) (by kernel_rfl))))))) (fun _ h => h)
instance : Inhabited S77 := ⟨z77⟩
def ok77 (x : S77) : Prop := (Lit.int .i64 x.f0).wf = true ∧ (Lit.int .i64 x.f1).wf = true
theorem fits77 : Open.Fits Try.prog 77 k77 ok77 :=
  Open.fits_imp (Open.fits_iso (fun p => ⟨p.1, p.2⟩) (fun _ => rfl) (Open.fits_struct Try.underlying77 (by kernel_rfl) (Open.fitsF_cons rfl (Open.fits_int Try.underlying3) (by kernel_rfl) (Open.fitsF_one rfl (Open.fits_int Try.underlying3) (by kernel_rfl))))) (fun _ h => h)
instance : Inhabited S79 := ⟨z79⟩
def ok79 (x : S79) : Prop := (Lit.int .i64 x.f0).wf = true ∧ (Lit.int .i32 x.f1).wf = true ∧ x.f2.size ≤ 140737488351232 ∧ ok77 x.f3
theorem fits79 : Open.Fits Try.prog 79 k79 ok79 :=
  Open.fits_imp (Open.fits_iso (fun p => ⟨p.1, p.2.1, p.2.2.1, p.2.2.2⟩) (fun _ => rfl) (Open.fits_struct Try.underlying79 (by kernel_rfl) (Open.fitsF_cons rfl (Open.fits_int Try.underlying3) (by kernel_rfl) (Open.fitsF_cons rfl (Open.fits_int Try.underlying21) (by kernel_rfl) (Open.fitsF_cons rfl (Open.fits_string Try.underlying9) (by kernel_rfl) (Open.fitsF_one rfl fits77 (by kernel_rfl))))))) (fun _ h => h)
instance : Inhabited S81 := ⟨z81⟩
def ok81 (x : S81) : Prop := (Lit.int .i64 x.f0).wf = true ∧ x.f1.size ≤ 140737488351232 ∧ (Lit.int .i64 x.f2).wf = true ∧ (x.f3.length * 48 ≤ 140737488351232 ∧ ∀ x_ ∈ x.f3, ok79 x_) ∧ ok77 x.f4
theorem fits81 : Open.Fits Try.prog 81 k81 ok81 :=
  Open.fits_imp (Open.fits_iso (fun p => ⟨p.1, p.2.1, p.2.2.1, p.2.2.2.1, p.2.2.2.2⟩) (fun _ => rfl) (Open.fits_struct Try.underlying81 (by kernel_rfl) (Open.fitsF_cons rfl (Open.fits_int Try.underlying3) (by kernel_rfl) (Open.fitsF_cons rfl (Open.fits_string Try.underlying9) (by kernel_rfl) (Open.fitsF_cons rfl (Open.fits_int Try.underlying3) (by kernel_rfl) (Open.fitsF_cons rfl (Open.fits_slice Try.underlying48 fits79 (by kernel_rfl) (by kernel_rfl : Try.prog.bytesOf 79 = 48)) (by kernel_rfl) (Open.fitsF_one rfl fits77 (by kernel_rfl)))))))) (fun _ h => h)
instance : Inhabited S50 := ⟨z50⟩
def ok50 (x : S50) : Prop := (Lit.int .i64 x.f0).wf = true ∧ (x.f1.length * 48 ≤ 140737488351232 ∧ ∀ x_ ∈ x.f1, ok79 x_)
theorem fits50 : Open.Fits Try.prog 50 k50 ok50 :=
  Open.fits_imp (Open.fits_iso (fun p => ⟨p.1, p.2⟩) (fun _ => rfl) (Open.fits_struct Try.underlying50 (by kernel_rfl) (Open.fitsF_cons rfl (Open.fits_int Try.underlying3) (by kernel_rfl) (Open.fitsF_one rfl (Open.fits_slice Try.underlying48 fits79 (by kernel_rfl) (by kernel_rfl : Try.prog.bytesOf 79 = 48)) (by kernel_rfl))))) (fun _ h => h)
instance : Inhabited S53 := ⟨z53⟩
def ok53 (x : S53) : Prop := x.f0.size ≤ 140737488351232 ∧ (Lit.int .i64 x.f1).wf = true ∧ (Lit.int .u64 x.f2).wf = true ∧ (x.f3.length * 72 ≤ 140737488351232 ∧ ∀ x_ ∈ x.f3, ok81 x_) ∧ (x.f4.length * 72 ≤ 140737488351232 ∧ ∀ x_ ∈ x.f4, ok81 x_) ∧ (x.f5.length * 72 ≤ 140737488351232 ∧ ∀ x_ ∈ x.f5, ok81 x_) ∧ (x.f6.length * 32 ≤ 140737488351232 ∧ ∀ x_ ∈ x.f6, ok50 x_)
theorem fits53 : Open.Fits Try.prog 53 k53 ok53 :=
  Open.fits_imp (Open.fits_iso (fun p => ⟨p.1, p.2.1, p.2.2.1, p.2.2.2.1, p.2.2.2.2.1, p.2.2.2.2.2.1, p.2.2.2.2.2.2⟩) (fun _ => rfl) (Open.fits_struct Try.underlying53 (by kernel_rfl) (Open.fitsF_cons rfl (Open.fits_string Try.underlying9) (by kernel_rfl) (Open.fitsF_cons rfl (Open.fits_int Try.underlying3) (by kernel_rfl) (Open.fitsF_cons rfl (Open.fits_int Try.underlying26) (by kernel_rfl) (Open.fitsF_cons rfl (Open.fits_slice Try.underlying51 fits81 (by kernel_rfl) (by kernel_rfl : Try.prog.bytesOf 81 = 72)) (by kernel_rfl) (Open.fitsF_cons rfl (Open.fits_slice Try.underlying51 fits81 (by kernel_rfl) (by kernel_rfl : Try.prog.bytesOf 81 = 72)) (by kernel_rfl) (Open.fitsF_cons rfl (Open.fits_slice Try.underlying51 fits81 (by kernel_rfl) (by kernel_rfl : Try.prog.bytesOf 81 = 72)) (by kernel_rfl) (Open.fitsF_one rfl (Open.fits_slice Try.underlying47 fits50 (by kernel_rfl) (by kernel_rfl : Try.prog.bytesOf 50 = 32)) (by kernel_rfl)))))))))) (fun _ h => h)
end Go.Proofs.Ytdgempbldhdihaa.Fit
