/- For every int the program's FormatName returns what the reference's FormatName returns. No condition. -/
import Derived.Test.YtoihkkkdkpllnaaPFnExactFormatNamex1
namespace Go.Proofs.Ytoihkkkdkpllnaa.Pure
open Go.RowKit Go.Proofs.Ytoihkkkdkpllnaa.PFnExactFormatName Go.Proofs.YtoihkkkdkpllnaaW.PrintWords Go.Proofs.YtoihkkkdkpllnaaW.PrintLast

theorem FnExactFormatName : laws_FnExactFormatName.Pure := by
  intro a0 _
  unfold laws_FnExactFormatName.f spec_FormatName.f impl_FormatName.f spec_l01In.f impl_within.f impl_formatNames.f spec_l12Names.f
  by_cases h0 : a0 ≥ 0
  · by_cases h1 : a0 ≤ 4
    · have h3 : a0 < 5 := by omega
      simp [h0, h1, h3]
    · simp [h0, h1]
  · simp [h0]

end Go.Proofs.Ytoihkkkdkpllnaa.Pure
