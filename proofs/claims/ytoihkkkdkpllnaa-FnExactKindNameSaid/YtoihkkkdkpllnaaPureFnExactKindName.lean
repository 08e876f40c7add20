/- For every int the program's KindName returns what the reference's KindName returns. No condition. -/
import Derived.Test.YtoihkkkdkpllnaaPFnExactKindNamex1
namespace Go.Proofs.Ytoihkkkdkpllnaa.Pure
open Go.RowKit Go.Proofs.Ytoihkkkdkpllnaa.PFnExactKindName Go.Proofs.YtoihkkkdkpllnaaW.PrintWords Go.Proofs.YtoihkkkdkpllnaaW.PrintLast

theorem FnExactKindName : laws_FnExactKindName.Pure := by
  intro a0 _
  unfold laws_FnExactKindName.f spec_KindName.f impl_KindName.f spec_l01In.f impl_within.f impl_kindNames.f
  by_cases h0 : a0 ≥ 0
  · by_cases h1 : a0 ≤ 3
    · have h3 : a0 < 4 := by omega
      simp [h0, h1, h3]
    · simp [h0, h1]
  · simp [h0]

end Go.Proofs.Ytoihkkkdkpllnaa.Pure
