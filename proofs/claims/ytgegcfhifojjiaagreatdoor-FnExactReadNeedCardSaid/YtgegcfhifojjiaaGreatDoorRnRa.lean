/- ReadNeed: the card, its first part. For all texts, the program's ReadNeed returns what the reference's ReadNeed returns. The listed variables are tied to the program's text; no other condition. -/
import Derived.Test.YtgegcfhifojjiaaGreatDoorRz
import Derived.Test.YtgegcfhifojjiaaGreatDoorRnL
namespace Go.Proofs.YtgegcfhifojjiaaGreatDoor.fnExactReadNeed
open Go Go.ChangeShapes Go.WideShapes Go.ChangeAt Go.ChangeMaps Go.RowKit
open Go.Proofs.YtgegcfhifojjiaaGreatDoor.Vm
set_option linter.unusedVariables false
set_option maxRecDepth 100000 in
theorem lifted (os : Os) (started : os.Started) (H : Type) (enc : TypeId × Value → H) :
    ReturnsInHanded {} Go.Proofs.Tryz.checked os 4 .any (fun w args => (Rows.fnExactReadNeedSpec.pre enc Go.Proofs.Tryz.prog Go.Proofs.Tryz.f4 Rows.fnExactReadNeedRow.domain false w args ∧ laidMetH Go.Proofs.Tryz.prog Rows.fnExactReadNeedRow.laid w) ∧ sizedMet enc Go.Proofs.Tryz.prog Go.Proofs.Tryz.f4 (OpenSpec.ofChange Rows.fnExactReadNeedSpec) false w args)
      (Rows.fnExactReadNeedSpec.post enc Go.Proofs.Tryz.prog Go.Proofs.Tryz.f4 false true false false) := by
  refine returnsIn_shape (C := Go.Proofs.Tryz.checked) (X := fun w _ => laidMetH Go.Proofs.Tryz.prog Rows.fnExactReadNeedRow.laid w) (fun _ _ _ hh h => h.of_heap hh) own started (by kernel_rfl) Go.Proofs.Tryz.func4
    (ChangeSpec.witness_shaped (enc := enc) (C := Go.Proofs.Tryz.checked) (os := os) (X := fun w _ => laidMetH Go.Proofs.Tryz.prog Rows.fnExactReadNeedRow.laid w) false (World.laidAll Go.Proofs.Tryz.prog os Rows.fnExactReadNeedRow.laid) #[.string ⟨#[]⟩] 8 (World.laidAll_os _ _ _)
      (World.shaped_of_ZipB (by kernel_rfl) (by kernel_rfl)) (by kernel_rfl) (by kernel_rfl) (by kernel_rfl)
      (by rw [MakeChecks.laidMetH_plain _ _ _ (by kernel_rfl)]; exact laidMet_laidAll _ (by kernel_rfl) (by kernel_rfl))) ?_
  intro W base args ds gs before hval0 hW hL hS
  have hval : ∀ (j : Nat) t v, Go.Proofs.Tryz.f4.params[j]? = some t → args[j]? = some v → Value.okWide Go.Proofs.Tryz.prog W .any base t v := hval0
  have hW' := hW
  obtain ⟨p, q, hA0, hV, rfl, hfz, hnd⟩ := hW
  have hA : DataW.TrodAll enc Go.Proofs.Tryz.prog W 0 (fun _ => true) true Go.Proofs.Tryz.f4.params.toList args.toList ds p := hA0
  rw [Go.Proofs.Tryz.params4] at hA hval
  obtain ⟨v0, vs0, d0, ds0, p0, q0, hargs, rfl, rfl, h0, r0⟩ := trodAll_cons hA
  obtain ⟨rfl, rfl, rfl⟩ := trodAll_nil r0
  obtain rfl : args = #[v0] := by cases args; simp_all
  obtain ⟨rfl, rfl⟩ := trodVars_none hV
  obtain ⟨s, rfl, rfl, rfl, ws⟩ := open_string Go.Proofs.Tryz.underlying9 (hval 0 9 v0 rfl rfl) h0
  rw [MakeChecks.laidMetH_plain _ _ _ (by kernel_rfl)] at hL
  clear hA0 hval0
  have hZ := KZ_of hL hS (by simp [Rows.fnExactReadNeedRow]) (by simp [Rows.fnExactReadNeedRow]) (by simp [Rows.fnExactReadNeedRow])
  have hF := needLaw_fx (E := EW W) rfl (KZ_EW hZ) s
  refine (row_calls hF (EW_self W) (vs := #[.string s]) rfl (fun x hx i v c hv hc => ?_)).mono fun e W' ⟨he, bel⟩ => ?_
  · match i with
    | 0 => obtain rfl := Option.some.inj hv; obtain rfl := Option.some.inj hc; exact .lit _ rfl
    | i + 1 => simp at hv
  subst he
  exact ⟨_, rfl, _, _, _, [], _, [], hW', trodAll_mk1 (shut_bool Go.Proofs.Tryz.underlying4 _), (trodAll_cons_mk (shut_string Go.Proofs.Tryz.underlying9 ws) trodAll_mk0), rfl, bel.frame _, fun h => by cases h⟩
end Go.Proofs.YtgegcfhifojjiaaGreatDoor.fnExactReadNeed
