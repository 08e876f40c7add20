/- For every text the program's FormatOf returns what the reference's FormatOf returns. No condition. -/
import Derived.Test.YtoihkkkdkpllnaaPFnExactFormatOfx1
namespace Go.Proofs.Ytoihkkkdkpllnaa.Pure
open Go.RowKit Go.Proofs.Ytoihkkkdkpllnaa.PFnExactFormatOf Go.Proofs.YtoihkkkdkpllnaaW.PrintWords Go.Proofs.YtoihkkkdkpllnaaW.PrintLast

theorem FnExactFormatOf : laws_FnExactFormatOf.Pure := by
  intro a0 _
  refine ⟨6, ?_⟩
  unfold laws_FnExactFormatOf.f
  split
  · rfl
  · unfold spec_FormatOf.f impl_FormatOf.f slices_Index_string_string.f impl_formatNames.f
    simp only [spec_FormatOf.l0, slices_Index_string_string.l0, spec_FormatName.f, spec_l01In.f, spec_l12Names.f]
    simp [wrap64, rdOf]
    simp only [eq_comm (b := a0.toList)]
    repeat' split
    all_goals simp

end Go.Proofs.Ytoihkkkdkpllnaa.Pure
