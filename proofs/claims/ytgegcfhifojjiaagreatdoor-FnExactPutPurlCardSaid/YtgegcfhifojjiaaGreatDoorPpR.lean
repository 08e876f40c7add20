/- PutPurl: the card. For all kinds, names and versions, the program's PutPurl returns what the reference's PutPurl returns. The listed variables are tied to the program's text; no other condition. -/
import Derived.Test.YtgegcfhifojjiaaGreatDoorRz
import Derived.Test.YtgegcfhifojjiaaGreatDoorPpL
namespace Go.Proofs.YtgegcfhifojjiaaGreatDoor.fnExactPutPurl
open Go Go.ChangeShapes Go.WideShapes Go.ChangeAt Go.ChangeMaps Go.RowKit
open Go.Proofs.YtgegcfhifojjiaaGreatDoor.Vm
set_option linter.unusedVariables false
set_option maxRecDepth 100000 in
theorem lifted (os : Os) (started : os.Started) (H : Type) (enc : TypeId × Value → H) :
    ReturnsInHanded {} Go.Proofs.Tryz.checked os 3 .any (fun w args => (Rows.fnExactPutPurlSpec.pre enc Go.Proofs.Tryz.prog Go.Proofs.Tryz.f3 Rows.fnExactPutPurlRow.domain false w args ∧ laidMetH Go.Proofs.Tryz.prog Rows.fnExactPutPurlRow.laid w) ∧ sizedMet enc Go.Proofs.Tryz.prog Go.Proofs.Tryz.f3 (OpenSpec.ofChange Rows.fnExactPutPurlSpec) false w args)
      (Rows.fnExactPutPurlSpec.post enc Go.Proofs.Tryz.prog Go.Proofs.Tryz.f3 false true false false) := by
  refine returnsIn_shape (C := Go.Proofs.Tryz.checked) (X := fun w _ => laidMetH Go.Proofs.Tryz.prog Rows.fnExactPutPurlRow.laid w) (fun _ _ _ hh h => h.of_heap hh) own started (by kernel_rfl) Go.Proofs.Tryz.func3
    (ChangeSpec.witness_shaped (enc := enc) (C := Go.Proofs.Tryz.checked) (os := os) (X := fun w _ => laidMetH Go.Proofs.Tryz.prog Rows.fnExactPutPurlRow.laid w) false (World.laidAll Go.Proofs.Tryz.prog os Rows.fnExactPutPurlRow.laid) #[.int .i64 0, .string ⟨#[]⟩, .string ⟨#[]⟩] 8 (World.laidAll_os _ _ _)
      (World.shaped_of_ZipB (by kernel_rfl) (by kernel_rfl)) (by kernel_rfl) (by kernel_rfl) (by kernel_rfl)
      (by rw [MakeChecks.laidMetH_plain _ _ _ (by kernel_rfl)]; exact laidMet_laidAll _ (by kernel_rfl) (by kernel_rfl))) ?_
  intro W base args ds gs before hval0 hW hL hS
  have hval : ∀ (j : Nat) t v, Go.Proofs.Tryz.f3.params[j]? = some t → args[j]? = some v → Value.okWide Go.Proofs.Tryz.prog W .any base t v := hval0
  have hW' := hW
  obtain ⟨p, q, hA0, hV, rfl, hfz, hnd⟩ := hW
  have hA : DataW.TrodAll enc Go.Proofs.Tryz.prog W 0 (fun _ => true) true Go.Proofs.Tryz.f3.params.toList args.toList ds p := hA0
  rw [Go.Proofs.Tryz.params3] at hA hval
  obtain ⟨v0, vs0, d0, ds0, p0, q0, hargs, rfl, rfl, h0, r0⟩ := trodAll_cons hA
  obtain ⟨v1, vs1, d1, ds1, p1, q1, rfl, rfl, rfl, h1, r1⟩ := trodAll_cons r0
  obtain ⟨v2, vs2, d2, ds2, p2, q2, rfl, rfl, rfl, h2, r2⟩ := trodAll_cons r1
  obtain ⟨rfl, rfl, rfl⟩ := trodAll_nil r2
  obtain rfl : args = #[v0, v1, v2] := by cases args; simp_all
  obtain ⟨rfl, rfl⟩ := trodVars_none hV
  obtain ⟨k, rfl, rfl, rfl, wk⟩ := open_int Go.Proofs.Tryz.underlying3 (hval 0 3 v0 rfl rfl) h0
  obtain ⟨name, rfl, rfl, rfl, wname⟩ := open_string Go.Proofs.Tryz.underlying9 (hval 1 9 v1 rfl rfl) h1
  obtain ⟨ver, rfl, rfl, rfl, wver⟩ := open_string Go.Proofs.Tryz.underlying9 (hval 2 9 v2 rfl rfl) h2
  rw [MakeChecks.laidMetH_plain _ _ _ (by kernel_rfl)] at hL
  clear hA0 hval0
  have hZ := KZ_of hL hS (by simp [Rows.fnExactPutPurlRow]) (by simp [Rows.fnExactPutPurlRow]) (by simp [Rows.fnExactPutPurlRow])
  have hF := purlLaw_fx (E := EW W) rfl (KZ_EW hZ) k name ver
  refine (row_calls hF (EW_self W) (vs := #[.int .i64 k, .string name, .string ver]) rfl (fun x hx i v c hv hc => ?_)).mono fun e W' ⟨he, bel⟩ => ?_
  · match i with
    | 0 => obtain rfl := Option.some.inj hv; obtain rfl := Option.some.inj hc; exact .lit _ rfl
    | 1 => obtain rfl := Option.some.inj hv; obtain rfl := Option.some.inj hc; exact .lit _ rfl
    | 2 => obtain rfl := Option.some.inj hv; obtain rfl := Option.some.inj hc; exact .lit _ rfl
    | i + 3 => simp at hv
  subst he
  exact ⟨_, rfl, _, _, _, [], _, [], hW', trodAll_mk1 (shut_bool Go.Proofs.Tryz.underlying4 _), (trodAll_cons_mk (shut_int Go.Proofs.Tryz.underlying3 wk) (trodAll_cons_mk (shut_string Go.Proofs.Tryz.underlying9 wname) (trodAll_cons_mk (shut_string Go.Proofs.Tryz.underlying9 wver) trodAll_mk0))), rfl, bel.frame _, fun h => by cases h⟩
theorem holds : Rows.FnExactPutPurlSaid :=
  OpenClaim.holds_of_wide 3 Go.Proofs.Tryz.f3 rfl rfl rfl rfl rfl rfl rfl ⟨rfl, rfl, rfl, rfl, rfl⟩ rfl rfl rfl rfl rfl (by kernel_rfl) Go.Proofs.Tryz.func3 (by kernel_rfl)
    (of_decide_eq_true (by kernel_rfl)) (by unfold Func.isWrapper; first | (rw [if_pos (by decide +kernel)]; kernel_rfl) | (rw [if_neg (by decide +kernel)]; exact ⟨rfl, rfl⟩))
    (fun os started H enc _ => lifted os started H enc)
theorem card_holds : Rows.FnExactPutPurlCardSaid :=
  Claim7.holds_tied_plain_at .later [] _ true _ true holds (fun _ h => by cases h) (by kernel_rfl) (fun _ h => by cases h) fnExactPutPurl_row_tie rfl ⟨rfl, rfl⟩ (by kernel_rfl) rfl
    (fun f fn hf hfn => by
      obtain rfl : f = 3 := Option.some.inj ((show Go.Proofs.Tryz.prog.funcNamed "loop.example/g00445/laws.FnExactPutPurl" = some 3 by kernel_rfl).symm.trans hf) |>.symm
      obtain rfl : fn = Go.Proofs.Tryz.f3 := (Option.some.inj (Go.Proofs.Tryz.func3.symm.trans hfn)).symm
      exact ⟨by kernel_rfl, fun j t ht => by
        rw [Go.Proofs.Tryz.params3] at ht
        have hm : t ∈ [3, 9] := by
          have := Array.mem_of_getElem? ht
          simp at this ⊢
          try omega
        have hall : ([3, 9].all fun u => !Go.Proofs.Tryz.prog.wantsStandIn u) = true := by kernel_rfl
        exact (show Go.Proofs.Tryz.prog.wantsStandIn t = false by simpa using List.all_eq_true.1 hall t hm)⟩)
    (by kernel_rfl)
#print axioms card_holds
end Go.Proofs.YtgegcfhifojjiaaGreatDoor.fnExactPutPurl
namespace Go.Proofs.YtgegcfhifojjiaaGreatDoor
/-- The card, under a short name, for the claim. -/
theorem fnExactPutPurl_holds : Rows.FnExactPutPurlCardSaid := fnExactPutPurl.card_holds
end Go.Proofs.YtgegcfhifojjiaaGreatDoor
