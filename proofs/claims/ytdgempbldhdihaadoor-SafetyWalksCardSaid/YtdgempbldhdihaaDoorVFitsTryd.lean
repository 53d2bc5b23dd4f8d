/- What elements read as, opened by their parts. -/
import Derived.Test.YtdgempbldhdihaaDoorVAm18
import Derived.Test.YtdgempbldhdihaaDoorVKindsTryd
namespace Go.Am.Tryd
open Go.Proofs Go.Am Go.RowKit
set_option maxRecDepth 100000
def okT42 (x : S42) : Prop := ByteArray.size x.f0 ≤ 140737488351232 ∧ (Lit.int .i64 x.f1).wf = true ∧ (Lit.int .i64 x.f2).wf = true ∧ (Lit.int .i64 x.f3).wf = true ∧ (Lit.int .i64 x.f4).wf = true
theorem fitsT42 : Fits' Tryd.prog E 42 (D.pats Kc.T42) (fun d => okT42 (D.to Kc.T42 d)) := by
  have h := (fits_struct (E := E) Tryd.underlying42 (by kernel_rfl) (fitsF_cons rfl (fits_string Tryd.underlying9) (by kernel_rfl) (fitsF_cons rfl (fits_int Tryd.underlying3) (by kernel_rfl) (fitsF_cons rfl (fits_int Tryd.underlying3) (by kernel_rfl) (fitsF_cons rfl (fits_int Tryd.underlying3) (by kernel_rfl) (fitsF_cons rfl (fits_int Tryd.underlying3) (by kernel_rfl) fitsF_nil))))))
  exact fits_imp h fun x hx => by
    obtain ⟨h0, h1, h2, h3, h4, _⟩ := hx
    exact ⟨h0, h1, h2, h3, h4⟩
def okT47 (x : S47) : Prop := (Lit.int .i64 x.f0).wf = true ∧ (Lit.int .i64 x.f1).wf = true ∧ (Lit.int .i64 x.f2).wf = true ∧ (Lit.int .i64 x.f3).wf = true
theorem fitsT47 : Fits' Tryd.prog E 47 (D.pats Kc.T47) (fun d => okT47 (D.to Kc.T47 d)) := by
  have h := (fits_struct (E := E) Tryd.underlying47 (by kernel_rfl) (fitsF_cons rfl (fits_int Tryd.underlying3) (by kernel_rfl) (fitsF_cons rfl (fits_int Tryd.underlying3) (by kernel_rfl) (fitsF_cons rfl (fits_int Tryd.underlying3) (by kernel_rfl) (fitsF_cons rfl (fits_int Tryd.underlying3) (by kernel_rfl) fitsF_nil)))))
  exact fits_imp h fun x hx => by
    obtain ⟨h0, h1, h2, h3, _⟩ := hx
    exact ⟨h0, h1, h2, h3⟩
def okT120 (x : S120) : Prop := (Lit.int .i64 x.f0).wf = true ∧ (Lit.int .i32 x.f1).wf = true ∧ ByteArray.size x.f2 ≤ 140737488351232 ∧ (Lit.int .i64 x.f3).wf = true ∧ (Lit.int .i64 x.f4).wf = true
theorem fitsT120 : Fits' Tryd.prog E 120 (D.pats Kc.T120) (fun d => okT120 (D.to Kc.T120 d)) := by
  have h := (fits_struct (E := E) Tryd.underlying120 (by kernel_rfl) (fitsF_cons rfl (fits_int Tryd.underlying3) (by kernel_rfl) (fitsF_cons rfl (fits_int Tryd.underlying21) (by kernel_rfl) (fitsF_cons rfl (fits_string Tryd.underlying9) (by kernel_rfl) (fitsF_cons rfl (fits_struct Tryd.underlying118 (by kernel_rfl) (fitsF_cons rfl (fits_int Tryd.underlying3) (by kernel_rfl) (fitsF_cons rfl (fits_int Tryd.underlying3) (by kernel_rfl) fitsF_nil))) (by kernel_rfl) fitsF_nil)))))
  exact fits_imp h fun x hx => by
    obtain ⟨h0, h1, h2, ⟨h3, h4, _⟩, _⟩ := hx
    exact ⟨h0, h1, h2, h3, h4⟩
def okT165 (x : S165) : Prop := (Lit.int .i64 x.f0).wf = true ∧ ByteArray.size x.f1 ≤ 140737488351232 ∧ (Lit.int .i64 x.f2).wf = true ∧ (List.length x.f3 * 48 ≤ 140737488351232 ∧ ∀ y ∈ x.f3, okT120 y) ∧ (Lit.int .i64 x.f4).wf = true ∧ (Lit.int .i64 x.f5).wf = true
theorem fitsT165 : Fits' Tryd.prog E 165 (D.pats Kc.T165) (fun d => okT165 (D.to Kc.T165 d)) := by
  have h := (fits_struct (E := E) Tryd.underlying165 (by kernel_rfl) (fitsF_cons rfl (fits_int Tryd.underlying3) (by kernel_rfl) (fitsF_cons rfl (fits_string Tryd.underlying9) (by kernel_rfl) (fitsF_cons rfl (fits_int Tryd.underlying3) (by kernel_rfl) (fitsF_cons rfl (fits_slice D (k := Kc.T120) encOk Tryd.underlying93 fitsT120 (by kernel_rfl) (by kernel_rfl : Tryd.prog.bytesOf 120 = 48) (fun _ => rfl)) (by kernel_rfl) (fitsF_cons rfl (fits_struct Tryd.underlying118 (by kernel_rfl) (fitsF_cons rfl (fits_int Tryd.underlying3) (by kernel_rfl) (fitsF_cons rfl (fits_int Tryd.underlying3) (by kernel_rfl) fitsF_nil))) (by kernel_rfl) fitsF_nil))))))
  exact fits_imp h fun x hx => by
    obtain ⟨h0, h1, h2, h3, ⟨h4, h5, _⟩, _⟩ := hx
    exact ⟨h0, h1, h2, h3, h4, h5⟩
def okT95 (x : S95) : Prop := (Lit.int .i64 x.f0).wf = true ∧ (List.length x.f1 * 48 ≤ 140737488351232 ∧ ∀ y ∈ x.f1, okT120 y)
theorem fitsT95 : Fits' Tryd.prog E 95 (D.pats Kc.T95) (fun d => okT95 (D.to Kc.T95 d)) := by
  have h := (fits_struct (E := E) Tryd.underlying95 (by kernel_rfl) (fitsF_cons rfl (fits_int Tryd.underlying3) (by kernel_rfl) (fitsF_cons rfl (fits_slice D (k := Kc.T120) encOk Tryd.underlying93 fitsT120 (by kernel_rfl) (by kernel_rfl : Tryd.prog.bytesOf 120 = 48) (fun _ => rfl)) (by kernel_rfl) fitsF_nil)))
  exact fits_imp h fun x hx => by
    obtain ⟨h0, h1, _⟩ := hx
    exact ⟨h0, h1⟩
def okT98 (x : S98) : Prop := ByteArray.size x.f0 ≤ 140737488351232 ∧ (Lit.int .i64 x.f1).wf = true ∧ (Lit.int .u64 x.f2).wf = true ∧ (List.length x.f3 * 72 ≤ 140737488351232 ∧ ∀ y ∈ x.f3, okT165 y) ∧ (List.length x.f4 * 72 ≤ 140737488351232 ∧ ∀ y ∈ x.f4, okT165 y) ∧ (List.length x.f5 * 72 ≤ 140737488351232 ∧ ∀ y ∈ x.f5, okT165 y) ∧ (List.length x.f6 * 32 ≤ 140737488351232 ∧ ∀ y ∈ x.f6, okT95 y)
theorem fitsT98 : Fits' Tryd.prog E 98 (D.pats Kc.T98) (fun d => okT98 (D.to Kc.T98 d)) := by
  have h := (fits_struct (E := E) Tryd.underlying98 (by kernel_rfl) (fitsF_cons rfl (fits_string Tryd.underlying9) (by kernel_rfl) (fitsF_cons rfl (fits_int Tryd.underlying3) (by kernel_rfl) (fitsF_cons rfl (fits_int Tryd.underlying26) (by kernel_rfl) (fitsF_cons rfl (fits_slice D (k := Kc.T165) encOk Tryd.underlying96 fitsT165 (by kernel_rfl) (by kernel_rfl : Tryd.prog.bytesOf 165 = 72) (fun _ => rfl)) (by kernel_rfl) (fitsF_cons rfl (fits_slice D (k := Kc.T165) encOk Tryd.underlying96 fitsT165 (by kernel_rfl) (by kernel_rfl : Tryd.prog.bytesOf 165 = 72) (fun _ => rfl)) (by kernel_rfl) (fitsF_cons rfl (fits_slice D (k := Kc.T165) encOk Tryd.underlying96 fitsT165 (by kernel_rfl) (by kernel_rfl : Tryd.prog.bytesOf 165 = 72) (fun _ => rfl)) (by kernel_rfl) (fitsF_cons rfl (fits_slice D (k := Kc.T95) encOk Tryd.underlying92 fitsT95 (by kernel_rfl) (by kernel_rfl : Tryd.prog.bytesOf 95 = 32) (fun _ => rfl)) (by kernel_rfl) fitsF_nil))))))))
  exact fits_imp h fun x hx => by
    obtain ⟨h0, h1, h2, h3, h4, h5, h6, _⟩ := hx
    exact ⟨h0, h1, h2, h3, h4, h5, h6⟩
def okT92 (x : List (S95)) : Prop := (List.length x * 32 ≤ 140737488351232 ∧ ∀ y ∈ x, okT95 y)
theorem fitsT92 : Fits' Tryd.prog E 92 (D.pats Kc.T92) (fun d => okT92 (D.to Kc.T92 d)) := fits_imp (fits_slice D (k := Kc.T95) encOk Tryd.underlying92 fitsT95 (by kernel_rfl) (by kernel_rfl : Tryd.prog.bytesOf 95 = 32) (fun _ => rfl)) fun x hx => hx
def okT3 (x : Int) : Prop := (Lit.int .i64 x).wf = true
theorem fitsT3 : Fits' Tryd.prog E 3 (D.pats Kc.T3) (fun d => okT3 (D.to Kc.T3 d)) := fits_imp (fits_int (E := E) Tryd.underlying3) fun x hx => hx
def okT21 (x : Int) : Prop := (Lit.int .i32 x).wf = true
theorem fitsT21 : Fits' Tryd.prog E 21 (D.pats Kc.T21) (fun d => okT21 (D.to Kc.T21 d)) := fits_imp (fits_int (E := E) Tryd.underlying21) fun x hx => hx
def okT26 (x : Int) : Prop := (Lit.int .u64 x).wf = true
theorem fitsT26 : Fits' Tryd.prog E 26 (D.pats Kc.T26) (fun d => okT26 (D.to Kc.T26 d)) := fits_imp (fits_int (E := E) Tryd.underlying26) fun x hx => hx
def okT110 (x : S110) : Prop := ByteArray.size x.f0 ≤ 140737488351232 ∧ True ∧ (Lit.int .i64 x.f2).wf = true ∧ (Lit.int .i64 x.f3).wf = true
theorem fitsT110 : Fits' Tryd.prog E 110 (D.pats Kc.T110) (fun d => okT110 (D.to Kc.T110 d)) := by
  have h := (fits_struct (E := E) Tryd.underlying110 (by kernel_rfl) (fitsF_cons rfl (fits_string Tryd.underlying9) (by kernel_rfl) (fitsF_cons rfl (fits_bool Tryd.underlying4) (by kernel_rfl) (fitsF_cons rfl (fits_int Tryd.underlying3) (by kernel_rfl) (fitsF_cons rfl (fits_int Tryd.underlying3) (by kernel_rfl) fitsF_nil)))))
  exact fits_imp h fun x hx => by
    obtain ⟨h0, h1, h2, h3, _⟩ := hx
    exact ⟨h0, h1, h2, h3⟩
def okT9 (x : ByteArray) : Prop := ByteArray.size x ≤ 140737488351232
theorem fitsT9 : Fits' Tryd.prog E 9 (D.pats Kc.T9) (fun d => okT9 (D.to Kc.T9 d)) := fits_imp (fits_string (E := E) Tryd.underlying9) fun x hx => hx
def okT112 (x : S112) : Prop := ByteArray.size x.f0 ≤ 140737488351232 ∧ (Lit.int .i32 x.f1).wf = true
theorem fitsT112 : Fits' Tryd.prog E 112 (D.pats Kc.T112) (fun d => okT112 (D.to Kc.T112 d)) := by
  have h := (fits_struct (E := E) Tryd.underlying112 (by kernel_rfl) (fitsF_cons rfl (fits_string Tryd.underlying9) (by kernel_rfl) (fitsF_cons rfl (fits_int Tryd.underlying21) (by kernel_rfl) fitsF_nil)))
  exact fits_imp h fun x hx => by
    obtain ⟨h0, h1, _⟩ := hx
    exact ⟨h0, h1⟩
def okT4 (x : Bool) : Prop := True
theorem fitsT4 : Fits' Tryd.prog E 4 (D.pats Kc.T4) (fun d => okT4 (D.to Kc.T4 d)) := fits_imp (fits_bool (E := E) Tryd.underlying4) fun x hx => hx
def okT122 (x : S122) : Prop := (Lit.int .i64 x.f0).wf = true ∧ (Lit.int .i64 x.f1).wf = true ∧ (Lit.int .i64 x.f2).wf = true ∧ (Lit.int .i64 x.f3).wf = true
theorem fitsT122 : Fits' Tryd.prog E 122 (D.pats Kc.T122) (fun d => okT122 (D.to Kc.T122 d)) := by
  have h := (fits_struct (E := E) Tryd.underlying122 (by kernel_rfl) (fitsF_cons rfl (fits_int Tryd.underlying33) (by kernel_rfl) (fitsF_cons rfl (fits_int Tryd.underlying3) (by kernel_rfl) (fitsF_cons rfl (fits_int Tryd.underlying3) (by kernel_rfl) (fitsF_cons rfl (fits_int Tryd.underlying3) (by kernel_rfl) fitsF_nil)))))
  exact fits_imp h fun x hx => by
    obtain ⟨h0, h1, h2, h3, _⟩ := hx
    exact ⟨h0, h1, h2, h3⟩
def okT5 (x : Int) : Prop := (Lit.int .u8 x).wf = true
theorem fitsT5 : Fits' Tryd.prog E 5 (D.pats Kc.T5) (fun d => okT5 (D.to Kc.T5 d)) := fits_imp (fits_int (E := E) Tryd.underlying5) fun x hx => hx
def okT163 (x : S163) : Prop := (Lit.int .i64 x.f0).wf = true ∧ (Lit.int .i64 x.f1).wf = true
theorem fitsT163 : Fits' Tryd.prog E 163 (D.pats Kc.T163) (fun d => okT163 (D.to Kc.T163 d)) := by
  have h := (fits_struct (E := E) Tryd.underlying163 (by kernel_rfl) (fitsF_cons rfl (fits_int Tryd.underlying3) (by kernel_rfl) (fitsF_cons rfl (fits_int Tryd.underlying3) (by kernel_rfl) fitsF_nil)))
  exact fits_imp h fun x hx => by
    obtain ⟨h0, h1, _⟩ := hx
    exact ⟨h0, h1⟩
def okT161 (x : List (S163)) : Prop := (List.length x * 16 ≤ 140737488351232 ∧ ∀ y ∈ x, okT163 y)
theorem fitsT161 : Fits' Tryd.prog E 161 (D.pats Kc.T161) (fun d => okT161 (D.to Kc.T161 d)) := fits_imp (fits_slice D (k := Kc.T163) encOk Tryd.underlying161 fitsT163 (by kernel_rfl) (by kernel_rfl : Tryd.prog.bytesOf 163 = 16) (fun _ => rfl)) fun x hx => hx
def okT195 (x : S195) : Prop := (Lit.int .i64 x.f0).wf = true ∧ (Lit.int .i64 x.f1).wf = true
theorem fitsT195 : Fits' Tryd.prog E 195 (D.pats Kc.T195) (fun d => okT195 (D.to Kc.T195 d)) := by
  have h := (fits_struct (E := E) Tryd.underlying195 (by kernel_rfl) (fitsF_cons rfl (fits_int Tryd.underlying3) (by kernel_rfl) (fitsF_cons rfl (fits_int Tryd.underlying3) (by kernel_rfl) fitsF_nil)))
  exact fits_imp h fun x hx => by
    obtain ⟨h0, h1, _⟩ := hx
    exact ⟨h0, h1⟩
end Go.Am.Tryd
