/- Purls: the card. For all graphs and kinds, the program's Purls returns what the reference's Purls returns, leaves the graph as it was, and owns what it returns. The listed variables are tied to the program's text; no other condition. -/
import Derived.Test.YtgegcfhifojjiaaGreatDoorPuRa
namespace Go.Proofs.YtgegcfhifojjiaaGreatDoor.fnExactPurls
open Go Go.ChangeShapes Go.WideShapes Go.ChangeAt Go.ChangeMaps Go.RowKit
open Go.Proofs.YtgegcfhifojjiaaGreatDoor.Vm
set_option linter.unusedVariables false
theorem fact1 : (Rows.fnExactPurlsRow.inPlace == (Go.Proofs.Tryz.prog).inPlace 9) = true := by kernel_rfl
theorem fact2 : (Rows.fnExactPurlsRow.unfollowed == (Go.Proofs.Tryz.prog).unfollowed 9) = true := by kernel_rfl
theorem fact3 : (Rows.fnExactPurlsRow.recurses == (Go.Proofs.Tryz.prog).recurses 9) = true := by kernel_rfl
theorem fact4 : (Rows.fnExactPurlsRow.named == (Go.Proofs.Tryz.prog).varsNamed 9) = true := by kernel_rfl
theorem facts : joinedFacts Go.Proofs.Tryz.prog 9 Go.Proofs.Tryz.f9 Rows.fnExactPurlsSpec Rows.fnExactPurlsRow = true := by
  unfold joinedFacts
  rw [fact1, fact2, fact3, fact4]
  kernel_rfl
theorem holds : Rows.FnExactPurlsSaid :=
  OpenClaim.holds_of_wide 9 Go.Proofs.Tryz.f9 rfl rfl rfl rfl rfl rfl rfl ⟨rfl, rfl, rfl, rfl, rfl⟩ rfl rfl rfl rfl rfl (by kernel_rfl) Go.Proofs.Tryz.func9 facts
    (of_decide_eq_true (by kernel_rfl)) (by unfold Func.isWrapper; first | (rw [if_pos (by decide +kernel)]; kernel_rfl) | (rw [if_neg (by decide +kernel)]; exact ⟨rfl, rfl⟩))
    (fun os started H enc _ => lifted os started H enc)
theorem card_holds : Rows.FnExactPurlsCardSaid :=
  Claim7.holds_tied_plain_at .later [] _ true _ true holds (fun _ h => by cases h) (by kernel_rfl) (fun _ h => by cases h) fnExactPurls_row_tie rfl ⟨rfl, rfl⟩ (by kernel_rfl) rfl
    (fun f fn hf hfn => by
      obtain rfl : f = 9 := Option.some.inj ((show Go.Proofs.Tryz.prog.funcNamed "loop.example/g00445/laws.FnExactPurls" = some 9 by kernel_rfl).symm.trans hf) |>.symm
      obtain rfl : fn = Go.Proofs.Tryz.f9 := (Option.some.inj (Go.Proofs.Tryz.func9.symm.trans hfn)).symm
      exact ⟨by kernel_rfl, fun j t ht => by
        rw [Go.Proofs.Tryz.params9] at ht
        have hm : t ∈ [35, 3] := by
          have := Array.mem_of_getElem? ht
          simp at this ⊢
          try omega
        have hall : ([35, 3].all fun u => !Go.Proofs.Tryz.prog.wantsStandIn u) = true := by kernel_rfl
        exact (show Go.Proofs.Tryz.prog.wantsStandIn t = false by simpa using List.all_eq_true.1 hall t hm)⟩)
    (by kernel_rfl)
#print axioms card_holds
end Go.Proofs.YtgegcfhifojjiaaGreatDoor.fnExactPurls
namespace Go.Proofs.YtgegcfhifojjiaaGreatDoor
/-- The card, under a short name, for the claim. -/
theorem fnExactPurls_holds : Rows.FnExactPurlsCardSaid := fnExactPurls.card_holds
end Go.Proofs.YtgegcfhifojjiaaGreatDoor
