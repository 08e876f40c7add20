/- PutPurl: the law. -/
import Derived.Test.YtgegcfhifojjiaaGreatDoorPi
namespace Go.Proofs.YtgegcfhifojjiaaGreatDoor.Vm
open Go Go.RowKit
set_option linter.unusedVariables false
set_option linter.unusedSimpArgs false
def v3 : VC := .seq (.reg false [⟨some 6, .as (.c (.lit (.bool false))), none⟩] [6]) (.seq (.seq (.reg false [⟨some 9, .mv (.t 1), none⟩, ⟨some 10, .len true (.t 9), none⟩, ⟨some 11, .bin .gtr 0 (.t 10) (.c (.lit (.int .i64 1048576))), none⟩] [9, 10]) (.cond (.t 11) (.seq (.reg false [⟨some 6, .as (.c (.lit (.bool true))), none⟩] []) (.ret)) (.skip))) (.seq (.seq (.reg false [⟨some 12, .mv (.t 2), none⟩, ⟨some 13, .len true (.t 12), none⟩, ⟨some 14, .bin .gtr 0 (.t 13) (.c (.lit (.int .i64 1048576))), none⟩] [12, 13]) (.cond (.t 14) (.seq (.reg false [⟨some 6, .as (.c (.lit (.bool true))), none⟩] []) (.ret)) (.skip))) (.seq (.reg false [⟨some 15, .mv (.t 0), none⟩, ⟨some 16, .mv (.t 1), none⟩, ⟨some 17, .mv (.t 2), none⟩, ⟨some 18, .call false 11 [(.t 15), (.t 16), (.t 17)], none⟩, ⟨some 7, .as (.t 18), none⟩] [15, 16, 17, 18]) (.seq (.reg false [⟨some 19, .mv (.t 0), none⟩, ⟨some 20, .mv (.t 1), none⟩, ⟨some 21, .mv (.t 2), none⟩, ⟨some 22, .call false 12 [(.t 19), (.t 20), (.t 21)], none⟩, ⟨some 8, .as (.t 22), none⟩] [19, 20, 21, 22]) (.seq (.seq (.reg false [⟨some 23, .mv (.t 8), none⟩, ⟨some 24, .mv (.t 7), none⟩, ⟨some 25, .bin .neq 0 (.t 23) (.t 24), none⟩] [23, 24]) (.cond (.t 25) (.seq (.reg false [⟨some 6, .as (.c (.lit (.bool false))), none⟩] []) (.ret)) (.skip))) (.seq (.reg false [⟨some 6, .as (.c (.lit (.bool true))), none⟩] []) (.ret)))))))
theorem is3 : Is Go.Proofs.Tryz.prog 3 26 v3 [.t 6] := ⟨Go.Proofs.Tryz.f3, dl [(0, [6]), (1, [9, 10]), (3, [12, 13]), (5, [15, 16, 17, 18]), (6, [19, 20, 21, 22]), (7, [23, 24])], Go.Proofs.Tryz.func3, by kernel_rfl, by kernel_rfl, by kernel_rfl, by kernel_rfl⟩
section
variable {E : Env} (hE : E.P = Go.Proofs.Tryz.prog) (hZ : ∀ w, E.K w → KZ w)
include hE hZ
theorem purlLaw_fx (k : Int) (name ver : ByteArray) : Fx E 3 [] [.lit (.int .i64 k), .lit (.string name), .lit (.string ver)] [] (.lit (.bool true)) := by
  refine (is3.to hE).fx [] (by simp) rfl rfl ?_
  simp [v3]
  by_cases c1 : (1048576 : Int) < name.size
  · simp [c1]
    exact Fin_ret rfl rfl
  simp [c1]
  by_cases c2 : (1048576 : Int) < ver.size
  · simp [c2]
    exact Fin_ret rfl rfl
  simp [c2]
  refine vcall_go (specPurl_fx hE k name ver (by omega) (by omega)) (by simp) (by simp) (by simp) (by simp) ?_
  simp
  refine vcall_go (implPurl_fx hE hZ k name ver (by omega) (by omega)) (by simp) (by simp) (by simp) (by simp) ?_
  simp
  exact Fin_ret rfl rfl
end
end Go.Proofs.YtgegcfhifojjiaaGreatDoor.Vm
