/- PutGoSum, GoFits: the laws. -/
import Derived.Test.YtgegcfhifojjiaaGreatDoorGs
namespace Go.Proofs.YtgegcfhifojjiaaGreatDoor.Vm
open Go Go.RowKit
set_option linter.unusedVariables false
set_option linter.unusedSimpArgs false
def v6 : VC := .seq (.reg false [⟨some 1, .box 2 (.t 0), none⟩, ⟨some 2, .as (.c (.lit (.bool false))), none⟩] [2]) (.seq (.reg false [⟨some 3, .as (.c (.lit (.int .i64 1048576))), none⟩] []) (.seq (.reg false [⟨some 9, .ld true 2 (.t 1), none⟩, ⟨some 10, .mv (.t 3), none⟩, ⟨some 11, .call false 18 [(.t 9), (.t 10)], none⟩, ⟨some 3, .as (.t 11), none⟩] [9, 10, 11]) (.seq (.seq (.reg false [⟨some 12, .mv (.t 3), none⟩, ⟨some 13, .bin .lss 0 (.t 12) (.c (.lit (.int .i64 0))), none⟩] [12]) (.cond (.t 13) (.seq (.reg false [⟨some 2, .as (.c (.lit (.bool true))), none⟩] []) (.ret)) (.skip))) (.seq (.reg false [⟨some 15, .ld true 2 (.t 1), none⟩, ⟨some 16, .call false 20 [(.t 15)], none⟩, ⟨some 17, .call false 19 [(.t 16)], none⟩, ⟨some 14, .mv (.t 17), none⟩, ⟨some 18, .ext (.t 14) 0, none⟩, ⟨some 19, .ext (.t 14) 1, none⟩, ⟨some 4, .as (.t 18), none⟩, ⟨some 5, .as (.t 19), none⟩] [15, 16, 17, 14, 18, 19]) (.seq (.reg false [⟨some 20, .ld true 2 (.t 1), none⟩, ⟨some 21, .call false 20 [(.t 20)], none⟩, ⟨some 6, .alloc (.agg [(.sl ⟨.nl, true⟩ 1 []), (.sl ⟨.nl, true⟩ 1 [])]), none⟩, ⟨none, .st 2 (.t 6) (.t 21), none⟩] [20, 21]) (.seq (.reg false [⟨some 23, .ld true 2 (.t 6), none⟩, ⟨some 24, .call false 21 [(.t 23)], none⟩, ⟨some 22, .mv (.t 24), none⟩, ⟨some 25, .ext (.t 22) 0, none⟩, ⟨some 26, .ext (.t 22) 1, none⟩, ⟨some 7, .as (.t 25), none⟩, ⟨some 8, .as (.t 26), none⟩] [23, 24, 22, 25, 26]) (.seq (.seq (.reg false [⟨some 27, .mv (.t 7), none⟩, ⟨some 28, .mv (.t 4), none⟩, ⟨some 29, .bin .neq 0 (.t 27) (.t 28), none⟩, ⟨some 30, .mv (.t 29), none⟩, ⟨some 31, .mv (.t 8), (some (30, false))⟩, ⟨some 32, .mv (.t 5), (some (30, false))⟩, ⟨some 33, .bin .neq 2 (.t 31) (.t 32), (some (30, false))⟩, ⟨some 34, .pick (.t 30) (.c (.lit (.bool true))) (.t 33), none⟩] [27, 28, 29, 30, 31, 32, 33]) (.cond (.t 34) (.seq (.reg false [⟨some 2, .as (.c (.lit (.bool false))), none⟩] []) (.ret)) (.skip))) (.seq (.seq (.reg true [⟨some 35, .ld true 2 (.t 6), none⟩, ⟨some 36, .ld true 2 (.t 1), none⟩, ⟨some 37, .call true 20 [(.t 36)], none⟩, ⟨some 38, .call true 22 [(.t 35), (.t 37)], none⟩, ⟨some 39, .un .not (.t 38), none⟩] [35, 36, 37, 38]) (.cond (.t 39) (.seq (.reg false [⟨some 2, .as (.c (.lit (.bool false))), none⟩] []) (.ret)) (.skip))) (.seq (.reg false [⟨some 2, .as (.c (.lit (.bool true))), none⟩] []) (.ret))))))))))
theorem is6 : Is Go.Proofs.Tryz.prog 6 40 v6 [.t 2] := ⟨Go.Proofs.Tryz.f6, dl [(0, [2]), (2, [9, 10, 11]), (3, [12]), (5, [15, 16, 17, 14, 18, 19]), (6, [20, 21]), (7, [23, 24, 22, 25, 26]), (8, [27, 28, 29, 30, 31, 32, 33]), (10, [35, 36, 37, 38])], Go.Proofs.Tryz.func6, by kernel_rfl, by kernel_rfl, by kernel_rfl, by kernel_rfl⟩
def v7 : VC := .seq (.reg false [⟨some 1, .box 2 (.t 0), none⟩, ⟨some 2, .as (.c (.lit (.bool false))), none⟩] [2]) (.seq (.reg false [⟨some 3, .as (.c (.lit (.int .i64 1048576))), none⟩] []) (.seq (.reg false [⟨some 7, .ld true 2 (.t 1), none⟩, ⟨some 8, .mv (.t 3), none⟩, ⟨some 9, .call false 18 [(.t 7), (.t 8)], none⟩, ⟨some 3, .as (.t 9), none⟩] [7, 8, 9]) (.seq (.seq (.reg false [⟨some 10, .mv (.t 3), none⟩, ⟨some 11, .bin .lss 0 (.t 10) (.c (.lit (.int .i64 0))), none⟩] [10]) (.cond (.t 11) (.seq (.reg false [⟨some 2, .as (.c (.lit (.bool true))), none⟩] []) (.ret)) (.skip))) (.seq (.reg false [⟨some 12, .ld true 2 (.t 1), none⟩, ⟨some 13, .call false 20 [(.t 12)], none⟩, ⟨some 14, .call false 23 [(.t 13)], none⟩, ⟨some 4, .as (.t 14), none⟩] [12, 13, 14]) (.seq (.reg false [⟨some 15, .ld true 2 (.t 1), none⟩, ⟨some 16, .call false 20 [(.t 15)], none⟩, ⟨some 5, .alloc (.agg [(.sl ⟨.nl, true⟩ 1 []), (.sl ⟨.nl, true⟩ 1 [])]), none⟩, ⟨none, .st 2 (.t 5) (.t 16), none⟩] [15, 16]) (.seq (.reg false [⟨some 17, .ld true 2 (.t 5), none⟩, ⟨some 18, .call false 24 [(.t 17)], none⟩, ⟨some 6, .as (.t 18), none⟩] [17, 18]) (.seq (.seq (.reg false [⟨some 19, .mv (.t 6), none⟩, ⟨some 20, .mv (.t 4), none⟩, ⟨some 21, .bin .neq 2 (.t 19) (.t 20), none⟩] [19, 20]) (.cond (.t 21) (.seq (.reg false [⟨some 2, .as (.c (.lit (.bool false))), none⟩] []) (.ret)) (.skip))) (.seq (.seq (.reg true [⟨some 22, .ld true 2 (.t 5), none⟩, ⟨some 23, .ld true 2 (.t 1), none⟩, ⟨some 24, .call true 20 [(.t 23)], none⟩, ⟨some 25, .call true 22 [(.t 22), (.t 24)], none⟩, ⟨some 26, .un .not (.t 25), none⟩] [22, 23, 24, 25]) (.cond (.t 26) (.seq (.reg false [⟨some 2, .as (.c (.lit (.bool false))), none⟩] []) (.ret)) (.skip))) (.seq (.reg false [⟨some 2, .as (.c (.lit (.bool true))), none⟩] []) (.ret))))))))))
theorem is7 : Is Go.Proofs.Tryz.prog 7 27 v7 [.t 2] := ⟨Go.Proofs.Tryz.f7, dl [(0, [2]), (2, [7, 8, 9]), (3, [10]), (5, [12, 13, 14]), (6, [15, 16]), (7, [17, 18]), (8, [19, 20]), (10, [22, 23, 24, 25])], Go.Proofs.Tryz.func7, by kernel_rfl, by kernel_rfl, by kernel_rfl, by kernel_rfl⟩
section
variable {E : Env} (hE : E.P = Go.Proofs.Tryz.prog) (hZ : ∀ w, E.K w → KZ w)
include hE hZ
set_option maxHeartbeats 4000000 in
theorem goSumLaw_fx (g : Gr) (hg : g.good) : Fx E 6 [] [.agg g.av] [] (.lit (.bool true)) := by
  have hgv : g.av = [.sl ro 1 (g.top.map fun x => .lit (.string x)), .sl ro 6 (g.packs.map fun x => .agg x.av)] := rfl
  refine (is6.to hE).fx [] (by simp) rfl rfl ?_
  simp [v6, hgv, okC]
  refine vcall_go (szGraph_fx hE g 1048576 hg (by omega) (by omega)) (by simp [hgv, ro]) (by simp) (by simp) (by simp) ?_
  simp
  by_cases c1 : g.sz 1048576 < 0
  · simp [c1]
    exact Fin_ret rfl rfl
  have hs := g.small_of 1048576 (by omega) (by omega) (by omega)
  simp [c1]
  refine vcall_go (toGraph_fx hE g hs) (by simp [hgv, ro]) (by simp) (by simp) (by simp) ?_
  simp
  refine vcall_go (specGoSum_fx hE g hs) (by simp [hgv, ro, mkF, mkF.mkL]) (by simp) (by simp) (by simp) ?_
  simp [gsRes]
  refine vcall_go (toGraph_fx hE g hs) (by simp [hgv, ro]) (by simp) (by simp) (by simp) ?_
  simp [hgv, okC, putElem, upd, mkF, mkF.mkL, ro]
  refine vcall_go (implGoSum_fx hE hZ g hs) (by simp [hgv, ro, mkF, mkF.mkL]) (by simp) (by simp) (by simp) ?_
  simp [gsRes]
  refine vcall_go (toGraph_fx hE g hs) (by simp [hgv, ro]) (by simp) (by simp) (by simp) ?_
  simp [hgv, okC, putElem, upd, mkF, mkF.mkL, ro]
  refine vcall_go (eqGraph_fx hE g hs) (by simp [hgv, ro, mkF, mkF.mkL]) (by simp) (by simp) (by simp) ?_
  simp
  exact Fin_ret rfl rfl
set_option maxHeartbeats 4000000 in
theorem goFitsLaw_fx (g : Gr) (hg : g.good) : Fx E 7 [] [.agg g.av] [] (.lit (.bool true)) := by
  have hgv : g.av = [.sl ro 1 (g.top.map fun x => .lit (.string x)), .sl ro 6 (g.packs.map fun x => .agg x.av)] := rfl
  refine (is7.to hE).fx [] (by simp) rfl rfl ?_
  simp [v7, hgv, okC]
  refine vcall_go (szGraph_fx hE g 1048576 hg (by omega) (by omega)) (by simp [hgv, ro]) (by simp) (by simp) (by simp) ?_
  simp
  by_cases c1 : g.sz 1048576 < 0
  · simp [c1]
    exact Fin_ret rfl rfl
  have hs := g.small_of 1048576 (by omega) (by omega) (by omega)
  simp [c1]
  refine vcall_go (toGraph_fx hE g hs) (by simp [hgv, ro]) (by simp) (by simp) (by simp) ?_
  simp
  refine vcall_go (specFits_fx hE g hs) (by simp [hgv, ro, mkF, mkF.mkL]) (by simp) (by simp) (by simp) ?_
  simp
  refine vcall_go (toGraph_fx hE g hs) (by simp [hgv, ro]) (by simp) (by simp) (by simp) ?_
  simp [hgv, okC, putElem, upd, mkF, mkF.mkL, ro]
  refine vcall_go (implFits_fx hE hZ g hs) (by simp [hgv, ro, mkF, mkF.mkL]) (by simp) (by simp) (by simp) ?_
  simp
  refine vcall_go (toGraph_fx hE g hs) (by simp [hgv, ro]) (by simp) (by simp) (by simp) ?_
  simp [hgv, okC, putElem, upd, mkF, mkF.mkL, ro]
  refine vcall_go (eqGraph_fx hE g hs) (by simp [hgv, ro, mkF, mkF.mkL]) (by simp) (by simp) (by simp) ?_
  simp
  exact Fin_ret rfl rfl
end
end Go.Proofs.YtgegcfhifojjiaaGreatDoor.Vm
