/- What the struct types read as, and what is known of each value that came in. -/
import Derived.Test.YtdgempbldhdihaaDoorP0
import Derived.Test.YtdgempbldhdihaaDoorOpen
namespace Go.Proofs.YtdgempbldhdihaaDoor.Fit
open Go.RowKit Go.Proofs.YtdgempbldhdihaaDoorW.PrintWords Go.Proofs.YtdgempbldhdihaaDoor.P
instance : Inhabited S42 := ⟨z42⟩
def ok42 (x : S42) : Prop := x.f0.size ≤ 140737488351232 ∧ (Lit.int .i64 x.f1).wf = true ∧ (Lit.int .i64 x.f2).wf = true ∧ (Lit.int .i64 x.f3).wf = true ∧ (Lit.int .i64 x.f4).wf = true
theorem fits42 : Open.Fits Tryd.prog 42 k42 ok42 :=
  Open.fits_imp (Open.fits_iso (fun p => ⟨p.1, p.2.1, p.2.2.1, p.2.2.2.1, p.2.2.2.2⟩) (fun _ => rfl) (Open.fits_struct Tryd.underlying42 (by kernel_rfl) (Open.fitsF_cons rfl (Open.fits_string Tryd.underlying9) (by kernel_rfl) (Open.fitsF_cons rfl (Open.fits_int Tryd.underlying3) (by kernel_rfl) (Open.fitsF_cons rfl (Open.fits_int Tryd.underlying3) (by kernel_rfl) (Open.fitsF_cons rfl (Open.fits_int Tryd.underlying3) (by kernel_rfl) (Open.fitsF_one rfl (Open.fits_int Tryd.underlying3) (by kernel_rfl)))))))) (fun _ h => h)
instance : Inhabited S47 := ⟨z47⟩
def ok47 (x : S47) : Prop := (Lit.int .i64 x.f0).wf = true ∧ (Lit.int .i64 x.f1).wf = true ∧ (Lit.int .i64 x.f2).wf = true ∧ (Lit.int .i64 x.f3).wf = true
theorem fits47 : Open.Fits Tryd.prog 47 k47 ok47 :=
  Open.fits_imp (Open.fits_iso (fun p => ⟨p.1, p.2.1, p.2.2.1, p.2.2.2⟩) (fun _ => rfl) (Open.fits_struct Tryd.underlying47 (by kernel_rfl) (Open.fitsF_cons rfl (Open.fits_int Tryd.underlying3) (by kernel_rfl) (Open.fitsF_cons rfl (Open.fits_int Tryd.underlying3) (by kernel_rfl) (Open.fitsF_cons rfl (Open.fits_int Tryd.underlying3) (by kernel_rfl) (Open.fitsF_one rfl (Open.fits_int Tryd.underlying3) (by kernel_rfl))))))) (fun _ h => h)
instance : Inhabited S118 := ⟨z118⟩
def ok118 (x : S118) : Prop := (Lit.int .i64 x.f0).wf = true ∧ (Lit.int .i64 x.f1).wf = true
theorem fits118 : Open.Fits Tryd.prog 118 k118 ok118 :=
  Open.fits_imp (Open.fits_iso (fun p => ⟨p.1, p.2⟩) (fun _ => rfl) (Open.fits_struct Tryd.underlying118 (by kernel_rfl) (Open.fitsF_cons rfl (Open.fits_int Tryd.underlying3) (by kernel_rfl) (Open.fitsF_one rfl (Open.fits_int Tryd.underlying3) (by kernel_rfl))))) (fun _ h => h)
instance : Inhabited S120 := ⟨z120⟩
def ok120 (x : S120) : Prop := (Lit.int .i64 x.f0).wf = true ∧ (Lit.int .i32 x.f1).wf = true ∧ x.f2.size ≤ 140737488351232 ∧ ok118 x.f3
theorem fits120 : Open.Fits Tryd.prog 120 k120 ok120 :=
  Open.fits_imp (Open.fits_iso (fun p => ⟨p.1, p.2.1, p.2.2.1, p.2.2.2⟩) (fun _ => rfl) (Open.fits_struct Tryd.underlying120 (by kernel_rfl) (Open.fitsF_cons rfl (Open.fits_int Tryd.underlying3) (by kernel_rfl) (Open.fitsF_cons rfl (Open.fits_int Tryd.underlying21) (by kernel_rfl) (Open.fitsF_cons rfl (Open.fits_string Tryd.underlying9) (by kernel_rfl) (Open.fitsF_one rfl fits118 (by kernel_rfl))))))) (fun _ h => h)
instance : Inhabited S165 := ⟨z165⟩
def ok165 (x : S165) : Prop := (Lit.int .i64 x.f0).wf = true ∧ x.f1.size ≤ 140737488351232 ∧ (Lit.int .i64 x.f2).wf = true ∧ (x.f3.length * 48 ≤ 140737488351232 ∧ ∀ x_ ∈ x.f3, ok120 x_) ∧ ok118 x.f4
theorem fits165 : Open.Fits Tryd.prog 165 k165 ok165 :=
  Open.fits_imp (Open.fits_iso (fun p => ⟨p.1, p.2.1, p.2.2.1, p.2.2.2.1, p.2.2.2.2⟩) (fun _ => rfl) (Open.fits_struct Tryd.underlying165 (by kernel_rfl) (Open.fitsF_cons rfl (Open.fits_int Tryd.underlying3) (by kernel_rfl) (Open.fitsF_cons rfl (Open.fits_string Tryd.underlying9) (by kernel_rfl) (Open.fitsF_cons rfl (Open.fits_int Tryd.underlying3) (by kernel_rfl) (Open.fitsF_cons rfl (Open.fits_slice Tryd.underlying93 fits120 (by kernel_rfl) (by kernel_rfl : Tryd.prog.bytesOf 120 = 48)) (by kernel_rfl) (Open.fitsF_one rfl fits118 (by kernel_rfl)))))))) (fun _ h => h)
instance : Inhabited S95 := ⟨z95⟩
def ok95 (x : S95) : Prop := (Lit.int .i64 x.f0).wf = true ∧ (x.f1.length * 48 ≤ 140737488351232 ∧ ∀ x_ ∈ x.f1, ok120 x_)
theorem fits95 : Open.Fits Tryd.prog 95 k95 ok95 :=
  Open.fits_imp (Open.fits_iso (fun p => ⟨p.1, p.2⟩) (fun _ => rfl) (Open.fits_struct Tryd.underlying95 (by kernel_rfl) (Open.fitsF_cons rfl (Open.fits_int Tryd.underlying3) (by kernel_rfl) (Open.fitsF_one rfl (Open.fits_slice Tryd.underlying93 fits120 (by kernel_rfl) (by kernel_rfl : Tryd.prog.bytesOf 120 = 48)) (by kernel_rfl))))) (fun _ h => h)
instance : Inhabited S98 := ⟨z98⟩
def ok98 (x : S98) : Prop := x.f0.size ≤ 140737488351232 ∧ (Lit.int .i64 x.f1).wf = true ∧ (Lit.int .u64 x.f2).wf = true ∧ (x.f3.length * 72 ≤ 140737488351232 ∧ ∀ x_ ∈ x.f3, ok165 x_) ∧ (x.f4.length * 72 ≤ 140737488351232 ∧ ∀ x_ ∈ x.f4, ok165 x_) ∧ (x.f5.length * 72 ≤ 140737488351232 ∧ ∀ x_ ∈ x.f5, ok165 x_) ∧ (x.f6.length * 32 ≤ 140737488351232 ∧ ∀ x_ ∈ x.f6, ok95 x_)
theorem fits98 : Open.Fits Tryd.prog 98 k98 ok98 :=
  Open.fits_imp (Open.fits_iso (fun p => ⟨p.1, p.2.1, p.2.2.1, p.2.2.2.1, p.2.2.2.2.1, p.2.2.2.2.2.1, p.2.2.2.2.2.2⟩) (fun _ => rfl) (Open.fits_struct Tryd.underlying98 (by kernel_rfl) (Open.fitsF_cons rfl (Open.fits_string Tryd.underlying9) (by kernel_rfl) (Open.fitsF_cons rfl (Open.fits_int Tryd.underlying3) (by kernel_rfl) (Open.fitsF_cons rfl (Open.fits_int Tryd.underlying26) (by kernel_rfl) (Open.fitsF_cons rfl (Open.fits_slice Tryd.underlying96 fits165 (by kernel_rfl) (by kernel_rfl : Tryd.prog.bytesOf 165 = 72)) (by kernel_rfl) (Open.fitsF_cons rfl (Open.fits_slice Tryd.underlying96 fits165 (by kernel_rfl) (by kernel_rfl : Tryd.prog.bytesOf 165 = 72)) (by kernel_rfl) (Open.fitsF_cons rfl (Open.fits_slice Tryd.underlying96 fits165 (by kernel_rfl) (by kernel_rfl : Tryd.prog.bytesOf 165 = 72)) (by kernel_rfl) (Open.fitsF_one rfl (Open.fits_slice Tryd.underlying92 fits95 (by kernel_rfl) (by kernel_rfl : Tryd.prog.bytesOf 95 = 32)) (by kernel_rfl)))))))))) (fun _ h => h)
instance : Inhabited S163 := ⟨z163⟩
def ok163 (x : S163) : Prop := (Lit.int .i64 x.f0).wf = true ∧ (Lit.int .i64 x.f1).wf = true
theorem fits163 : Open.Fits Tryd.prog 163 k163 ok163 :=
  Open.fits_imp (Open.fits_iso (fun p => ⟨p.1, p.2⟩) (fun _ => rfl) (Open.fits_struct Tryd.underlying163 (by kernel_rfl) (Open.fitsF_cons rfl (Open.fits_int Tryd.underlying3) (by kernel_rfl) (Open.fitsF_one rfl (Open.fits_int Tryd.underlying3) (by kernel_rfl))))) (fun _ h => h)
end Go.Proofs.YtdgempbldhdihaaDoor.Fit
