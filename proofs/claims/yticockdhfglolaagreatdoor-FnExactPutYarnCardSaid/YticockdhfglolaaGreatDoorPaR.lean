/- PutYarn: the card. For all rows of entries, the program's PutYarn returns what the reference's PutYarn returns, and leaves the entries as they were. The listed variables are tied to the program's text; no other condition. -/
import Derived.Test.YticockdhfglolaaGreatDoorPa8
namespace Go.Proofs.YticockdhfglolaaGreatDoor.fnExactPutYarn
open Go Go.ChangeShapes Go.WideShapes Go.ChangeAt Go.ChangeMaps Go.RowKit
open Go.Proofs.YticockdhfglolaaGreatDoor.Vm
set_option linter.unusedVariables false
set_option maxRecDepth 100000 in
theorem lifted (os : Os) (started : os.Started) (H : Type) (enc : TypeId × Value → H) :
    ReturnsInHanded {} Go.Proofs.Tryz.checked os 6 .any (fun w args => (Rows.fnExactPutYarnSpec.pre enc Go.Proofs.Tryz.prog Go.Proofs.Tryz.f6 Rows.fnExactPutYarnRow.domain false w args ∧ laidMetH Go.Proofs.Tryz.prog Rows.fnExactPutYarnRow.laid w) ∧ sizedMet enc Go.Proofs.Tryz.prog Go.Proofs.Tryz.f6 (OpenSpec.ofChange Rows.fnExactPutYarnSpec) false w args)
      (Rows.fnExactPutYarnSpec.post enc Go.Proofs.Tryz.prog Go.Proofs.Tryz.f6 false true false false) := by
  refine returnsIn_shape (C := Go.Proofs.Tryz.checked) (X := fun w _ => laidMetH Go.Proofs.Tryz.prog Rows.fnExactPutYarnRow.laid w) (fun _ _ _ hh h => h.of_heap hh) own started (by kernel_rfl) Go.Proofs.Tryz.func6
    (ChangeSpec.witness_shaped (enc := enc) (C := Go.Proofs.Tryz.checked) (os := os) (X := fun w _ => laidMetH Go.Proofs.Tryz.prog Rows.fnExactPutYarnRow.laid w) false (World.laidAll Go.Proofs.Tryz.prog os Rows.fnExactPutYarnRow.laid) #[.slice none 0 0] 8 (World.laidAll_os _ _ _)
      (World.shaped_of_ZipB (by kernel_rfl) (by kernel_rfl)) (by kernel_rfl) (by kernel_rfl) (by kernel_rfl)
      (by rw [MakeChecks.laidMetH_plain _ _ _ (by kernel_rfl)]; exact laidMet_laidAll _ (by kernel_rfl) (by kernel_rfl))) ?_
  intro W base args ds gs before hval0 hW hL hS
  have hval : ∀ (j : Nat) t v, Go.Proofs.Tryz.f6.params[j]? = some t → args[j]? = some v → Value.okWide Go.Proofs.Tryz.prog W .any base t v := hval0
  have hW' := hW
  obtain ⟨p, q, hA0, hV, rfl, hfz, hnd⟩ := hW
  have hA : DataW.TrodAll enc Go.Proofs.Tryz.prog W 0 (fun _ => true) true Go.Proofs.Tryz.f6.params.toList args.toList ds p := hA0
  rw [Go.Proofs.Tryz.params6] at hA hval
  obtain ⟨v0, vs0, d0, ds0, p0, q0, hargs, rfl, rfl, h0, r0⟩ := trodAll_cons hA
  obtain ⟨rfl, rfl, rfl⟩ := trodAll_nil r0
  obtain rfl : args = #[v0] := by cases args; simp_all
  obtain ⟨rfl, rfl⟩ := trodVars_none hV
  obtain ⟨b0, n0, m0, rfl⟩ := okWide_slice Go.Proofs.Tryz.underlying40 (hval 0 40 v0 rfl rfl)
  have k0 := h0
  have lt0 : ∀ x ∈ p0, x.block < W.heap.size := by obtain ⟨m, hm⟩ := k0; exact DataW.trod_lt m _ _ _ hm
  obtain ⟨fu0, hf0⟩ := h0
  obtain ⟨l, hK0, hg0⟩ := (opEntries (B := fu0)).out (Nat.le_refl _) hf0
  rw [MakeChecks.laidMetH_plain _ _ _ (by kernel_rfl)] at hL
  clear hA0 hval0
  have hZ := KZ_of hL hS (by simp [Rows.fnExactPutYarnRow]) (by simp [Rows.fnExactPutYarnRow]) (by simp [Rows.fnExactPutYarnRow])
  have hF := yarnLaw_fx (E := EW W) rfl (KZ_EW hZ) l hg0
  refine (row_calls hF (EW_self W) (vs := #[.slice b0 n0 m0]) rfl (fun x hx i v c hv hc => ?_)).mono fun e W' ⟨he, bel⟩ => ?_
  · match i with
    | 0 => obtain rfl := Option.some.inj hv; obtain rfl := Option.some.inj hc; exact rel_one' hx (by simpa [Value.cells] using hK0) (Pl_sl _ _)
    | i + 1 => simp at hv
  subst he
  exact ⟨_, rfl, _, _, _, [], _, [], hW', trodAll_mk1 (shut_bool Go.Proofs.Tryz.underlying4 _), (trodAll_cons_mk (Below.trod laidOut (by kernel_rfl) (of_decide_eq_true (by kernel_rfl)) k0 bel lt0) trodAll_mk0), rfl, bel.frame _, fun h => by cases h⟩
theorem holds : Rows.FnExactPutYarnSaid :=
  OpenClaim.holds_of_wide 6 Go.Proofs.Tryz.f6 rfl rfl rfl rfl rfl rfl rfl ⟨rfl, rfl, rfl, rfl, rfl⟩ rfl rfl rfl rfl rfl (by kernel_rfl) Go.Proofs.Tryz.func6 (by kernel_rfl)
    (of_decide_eq_true (by kernel_rfl)) (by unfold Func.isWrapper; first | (rw [if_pos (by decide +kernel)]; kernel_rfl) | (rw [if_neg (by decide +kernel)]; exact ⟨rfl, rfl⟩))
    (fun os started H enc _ => lifted os started H enc)
theorem card_holds : Rows.FnExactPutYarnCardSaid :=
  Claim7.holds_tied_plain_at .later [] _ true _ true holds (fun _ h => by cases h) (by kernel_rfl) (fun _ h => by cases h) fnExactPutYarn_row_tie rfl ⟨rfl, rfl⟩ (by kernel_rfl) rfl
    (fun f fn hf hfn => by
      obtain rfl : f = 6 := Option.some.inj ((show Go.Proofs.Tryz.prog.funcNamed "loop.example/g00445/laws.FnExactPutYarn" = some 6 by kernel_rfl).symm.trans hf) |>.symm
      obtain rfl : fn = Go.Proofs.Tryz.f6 := (Option.some.inj (Go.Proofs.Tryz.func6.symm.trans hfn)).symm
      exact ⟨by kernel_rfl, fun j t ht => by
        rw [Go.Proofs.Tryz.params6] at ht
        have hm : t ∈ [40] := by
          have := Array.mem_of_getElem? ht
          simp at this ⊢
          try omega
        have hall : ([40].all fun u => !Go.Proofs.Tryz.prog.wantsStandIn u) = true := by kernel_rfl
        exact (show Go.Proofs.Tryz.prog.wantsStandIn t = false by simpa using List.all_eq_true.1 hall t hm)⟩)
    (by kernel_rfl)
#print axioms card_holds
end Go.Proofs.YticockdhfglolaaGreatDoor.fnExactPutYarn
namespace Go.Proofs.YticockdhfglolaaGreatDoor
/-- The card, under a short name, for the claim. -/
theorem fnExactPutYarn_holds : Rows.FnExactPutYarnCardSaid := fnExactPutYarn.card_holds
end Go.Proofs.YticockdhfglolaaGreatDoor
