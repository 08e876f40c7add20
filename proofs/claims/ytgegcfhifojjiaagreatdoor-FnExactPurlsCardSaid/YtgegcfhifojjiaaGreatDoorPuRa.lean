/- Purls: the card, its first part. For all graphs and kinds, the program's Purls returns what the reference's Purls returns, leaves the graph as it was, and owns what it returns. The listed variables are tied to the program's text; no other condition. -/
import Derived.Test.YtgegcfhifojjiaaGreatDoorRz
import Derived.Test.YtgegcfhifojjiaaGreatDoorRo
import Derived.Test.YtgegcfhifojjiaaGreatDoorPuL
namespace Go.Proofs.YtgegcfhifojjiaaGreatDoor.fnExactPurls
open Go Go.ChangeShapes Go.WideShapes Go.ChangeAt Go.ChangeMaps Go.RowKit
open Go.Proofs.YtgegcfhifojjiaaGreatDoor.Vm
set_option linter.unusedVariables false
set_option maxRecDepth 100000 in
theorem lifted (os : Os) (started : os.Started) (H : Type) (enc : TypeId × Value → H) :
    ReturnsInHanded {} Go.Proofs.Tryz.checked os 9 .any (fun w args => (Rows.fnExactPurlsSpec.pre enc Go.Proofs.Tryz.prog Go.Proofs.Tryz.f9 Rows.fnExactPurlsRow.domain false w args ∧ laidMetH Go.Proofs.Tryz.prog Rows.fnExactPurlsRow.laid w) ∧ sizedMet enc Go.Proofs.Tryz.prog Go.Proofs.Tryz.f9 (OpenSpec.ofChange Rows.fnExactPurlsSpec) false w args)
      (Rows.fnExactPurlsSpec.post enc Go.Proofs.Tryz.prog Go.Proofs.Tryz.f9 false true false false) := by
  refine returnsIn_shape (C := Go.Proofs.Tryz.checked) (X := fun w _ => laidMetH Go.Proofs.Tryz.prog Rows.fnExactPurlsRow.laid w) (fun _ _ _ hh h => h.of_heap hh) own started (by kernel_rfl) Go.Proofs.Tryz.func9
    (ChangeSpec.witness_shaped (enc := enc) (C := Go.Proofs.Tryz.checked) (os := os) (X := fun w _ => laidMetH Go.Proofs.Tryz.prog Rows.fnExactPurlsRow.laid w) false (World.laidAll Go.Proofs.Tryz.prog os Rows.fnExactPurlsRow.laid) #[.agg #[.slice none 0 0, .slice none 0 0], .int .i64 0] 8 (World.laidAll_os _ _ _)
      (World.shaped_of_ZipB (by kernel_rfl) (by kernel_rfl)) (by kernel_rfl) (by kernel_rfl) (by kernel_rfl)
      (by rw [MakeChecks.laidMetH_plain _ _ _ (by kernel_rfl)]; exact laidMet_laidAll _ (by kernel_rfl) (by kernel_rfl))) ?_
  intro W base args ds gs before hval0 hW hL hS
  have hval : ∀ (j : Nat) t v, Go.Proofs.Tryz.f9.params[j]? = some t → args[j]? = some v → Value.okWide Go.Proofs.Tryz.prog W .any base t v := hval0
  have hW' := hW
  obtain ⟨p, q, hA0, hV, rfl, hfz, hnd⟩ := hW
  have hA : DataW.TrodAll enc Go.Proofs.Tryz.prog W 0 (fun _ => true) true Go.Proofs.Tryz.f9.params.toList args.toList ds p := hA0
  rw [Go.Proofs.Tryz.params9] at hA hval
  obtain ⟨v0, vs0, d0, ds0, p0, q0, hargs, rfl, rfl, h0, r0⟩ := trodAll_cons hA
  obtain ⟨v1, vs1, d1, ds1, p1, q1, rfl, rfl, rfl, h1, r1⟩ := trodAll_cons r0
  obtain ⟨rfl, rfl, rfl⟩ := trodAll_nil r1
  obtain rfl : args = #[v0, v1] := by cases args; simp_all
  obtain ⟨rfl, rfl⟩ := trodVars_none hV
  obtain ⟨c0, rfl, hs0⟩ := okWide_struct Go.Proofs.Tryz.underlying35 (hval 0 35 v0 rfl rfl)
  have k0 := h0
  have lt0 : ∀ x ∈ p0, x.block < W.heap.size := by obtain ⟨m, hm⟩ := k0; exact DataW.trod_lt m _ _ _ hm
  obtain ⟨fu0, hf0⟩ := h0
  obtain ⟨g, hK0, hg0⟩ := (opGraph (B := fu0)).out (Nat.le_refl _) hf0
  obtain ⟨k, rfl, rfl, rfl, wk⟩ := open_int Go.Proofs.Tryz.underlying3 (hval 1 3 v1 rfl rfl) h1
  rw [MakeChecks.laidMetH_plain _ _ _ (by kernel_rfl)] at hL
  clear hA0 hval0
  have hZ := KZ_of hL hS (by simp [Rows.fnExactPurlsRow]) (by simp [Rows.fnExactPurlsRow]) (by simp [Rows.fnExactPurlsRow])
  have hF := purlsLaw_fx (E := EW W) rfl (KZ_EW hZ) g hg0 k
  refine (row_calls hF (EW_self W) (vs := #[.agg c0, .int .i64 k]) rfl (fun x hx i v c hv hc => ?_)).mono fun e W' ⟨he, bel⟩ => ?_
  · match i with
    | 0 => obtain rfl := Option.some.inj hv; obtain rfl := Option.some.inj hc; exact rel_struct hx (by simpa [Value.cells, AV.cells] using hK0) (Gr.pl _)
    | 1 => obtain rfl := Option.some.inj hv; obtain rfl := Option.some.inj hc; exact .lit _ rfl
    | i + 2 => simp at hv
  subst he
  exact ⟨_, rfl, _, _, _, [], _, [], hW', trodAll_mk1 (shut_bool Go.Proofs.Tryz.underlying4 _), (trodAll_cons_mk (Below.trod laidOut (by kernel_rfl) (of_decide_eq_true (by kernel_rfl)) k0 bel lt0) (trodAll_cons_mk (shut_int Go.Proofs.Tryz.underlying3 wk) trodAll_mk0)), rfl, bel.frame _, fun h => by cases h⟩
end Go.Proofs.YtgegcfhifojjiaaGreatDoor.fnExactPurls
