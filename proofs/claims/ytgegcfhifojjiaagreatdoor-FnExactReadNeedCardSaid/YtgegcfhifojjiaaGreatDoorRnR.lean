/- ReadNeed: the card. For all texts, the program's ReadNeed returns what the reference's ReadNeed returns. The listed variables are tied to the program's text; no other condition. -/
import Derived.Test.YtgegcfhifojjiaaGreatDoorRnRa
namespace Go.Proofs.YtgegcfhifojjiaaGreatDoor.fnExactReadNeed
open Go Go.ChangeShapes Go.WideShapes Go.ChangeAt Go.ChangeMaps Go.RowKit
open Go.Proofs.YtgegcfhifojjiaaGreatDoor.Vm
set_option linter.unusedVariables false
theorem fact1 : (Rows.fnExactReadNeedRow.inPlace == (Go.Proofs.Tryz.prog).inPlace 4) = true := by kernel_rfl
theorem fact2 : (Rows.fnExactReadNeedRow.unfollowed == (Go.Proofs.Tryz.prog).unfollowed 4) = true := by kernel_rfl
theorem fact3 : (Rows.fnExactReadNeedRow.recurses == (Go.Proofs.Tryz.prog).recurses 4) = true := by kernel_rfl
theorem fact4 : (Rows.fnExactReadNeedRow.named == (Go.Proofs.Tryz.prog).varsNamed 4) = true := by kernel_rfl
theorem facts : joinedFacts Go.Proofs.Tryz.prog 4 Go.Proofs.Tryz.f4 Rows.fnExactReadNeedSpec Rows.fnExactReadNeedRow = true := by
  unfold joinedFacts
  rw [fact1, fact2, fact3, fact4]
  kernel_rfl
theorem holds : Rows.FnExactReadNeedSaid :=
  OpenClaim.holds_of_wide 4 Go.Proofs.Tryz.f4 rfl rfl rfl rfl rfl rfl rfl ⟨rfl, rfl, rfl, rfl, rfl⟩ rfl rfl rfl rfl rfl (by kernel_rfl) Go.Proofs.Tryz.func4 facts
    (of_decide_eq_true (by kernel_rfl)) (by unfold Func.isWrapper; first | (rw [if_pos (by decide +kernel)]; kernel_rfl) | (rw [if_neg (by decide +kernel)]; exact ⟨rfl, rfl⟩))
    (fun os started H enc _ => lifted os started H enc)
theorem card_holds : Rows.FnExactReadNeedCardSaid :=
  Claim7.holds_tied_plain_at .later [] _ true _ true holds (fun _ h => by cases h) (by kernel_rfl) (fun _ h => by cases h) fnExactReadNeed_row_tie rfl ⟨rfl, rfl⟩ (by kernel_rfl) rfl
    (fun f fn hf hfn => by
      obtain rfl : f = 4 := Option.some.inj ((show Go.Proofs.Tryz.prog.funcNamed "loop.example/g00445/laws.FnExactReadNeed" = some 4 by kernel_rfl).symm.trans hf) |>.symm
      obtain rfl : fn = Go.Proofs.Tryz.f4 := (Option.some.inj (Go.Proofs.Tryz.func4.symm.trans hfn)).symm
      exact ⟨by kernel_rfl, fun j t ht => by
        rw [Go.Proofs.Tryz.params4] at ht
        have hm : t ∈ [9] := by
          have := Array.mem_of_getElem? ht
          simp at this ⊢
          try omega
        have hall : ([9].all fun u => !Go.Proofs.Tryz.prog.wantsStandIn u) = true := by kernel_rfl
        exact (show Go.Proofs.Tryz.prog.wantsStandIn t = false by simpa using List.all_eq_true.1 hall t hm)⟩)
    (by kernel_rfl)
#print axioms card_holds
end Go.Proofs.YtgegcfhifojjiaaGreatDoor.fnExactReadNeed
namespace Go.Proofs.YtgegcfhifojjiaaGreatDoor
/-- The card, under a short name, for the claim. -/
theorem fnExactReadNeed_holds : Rows.FnExactReadNeedCardSaid := fnExactReadNeed.card_holds
end Go.Proofs.YtgegcfhifojjiaaGreatDoor
