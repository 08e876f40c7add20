/- ReadNeed: the law. -/
import Derived.Test.YtgegcfhifojjiaaGreatDoorRn
namespace Go.Proofs.YtgegcfhifojjiaaGreatDoor.Vm
open Go Go.RowKit
set_option linter.unusedVariables false
set_option linter.unusedSimpArgs false
def v15 : VC := .seq (.reg false [⟨some 2, .box 2 (.t 0), none⟩, ⟨some 3, .box 2 (.t 1), none⟩, ⟨some 4, .as (.c (.lit (.bool false))), none⟩] [4]) (.seq (.seq (.reg false [⟨some 5, .fa 0 (.t 2), none⟩, ⟨some 6, .ld false 1 (.t 5), none⟩, ⟨some 7, .fa 0 (.t 3), none⟩, ⟨some 8, .ld false 1 (.t 7), none⟩, ⟨some 9, .bin .neq 0 (.t 6) (.t 8), none⟩] [5, 6, 7, 8]) (.cond (.t 9) (.seq (.reg false [⟨some 4, .as (.c (.lit (.bool false))), none⟩] []) (.ret)) (.skip))) (.seq (.seq (.reg false [⟨some 10, .fa 1 (.t 2), none⟩, ⟨some 11, .ld false 1 (.t 10), none⟩, ⟨some 12, .fa 1 (.t 3), none⟩, ⟨some 13, .ld false 1 (.t 12), none⟩, ⟨some 14, .bin .neq 0 (.t 11) (.t 13), none⟩] [10, 11, 12, 13]) (.cond (.t 14) (.seq (.reg false [⟨some 4, .as (.c (.lit (.bool false))), none⟩] []) (.ret)) (.skip))) (.seq (.reg false [⟨some 4, .as (.c (.lit (.bool true))), none⟩] []) (.ret))))
theorem is15 : Is Go.Proofs.Tryz.prog 15 15 v15 [.t 4] := ⟨Go.Proofs.Tryz.f15, dl [(0, [4]), (1, [5, 6, 7, 8]), (3, [10, 11, 12, 13])], Go.Proofs.Tryz.func15, by kernel_rfl, by kernel_rfl, by kernel_rfl, by kernel_rfl⟩
def v4 : VC := .seq (.reg false [⟨some 2, .as (.c (.lit (.bool false))), none⟩] [2]) (.seq (.seq (.reg false [⟨some 7, .mv (.t 0), none⟩, ⟨some 8, .len true (.t 7), none⟩, ⟨some 9, .bin .gtr 0 (.t 8) (.c (.lit (.int .i64 1048576))), none⟩] [7, 8]) (.cond (.t 9) (.seq (.reg false [⟨some 2, .as (.c (.lit (.bool true))), none⟩] []) (.ret)) (.skip))) (.seq (.reg false [⟨some 11, .mv (.t 0), none⟩, ⟨some 12, .call false 13 [(.t 11)], none⟩, ⟨some 10, .mv (.t 12), none⟩, ⟨some 13, .ext (.t 10) 0, none⟩, ⟨some 14, .ext (.t 10) 1, none⟩, ⟨some 3, .alloc (.agg [(.lit (.string (by8 ""))), (.lit (.string (by8 "")))]), none⟩, ⟨none, .st 2 (.t 3) (.t 13), none⟩, ⟨some 4, .as (.t 14), none⟩] [11, 12, 10, 13, 14]) (.seq (.reg false [⟨some 16, .mv (.t 0), none⟩, ⟨some 17, .call false 14 [(.t 16)], none⟩, ⟨some 15, .mv (.t 17), none⟩, ⟨some 18, .ext (.t 15) 0, none⟩, ⟨some 19, .ext (.t 15) 1, none⟩, ⟨some 5, .alloc (.agg [(.lit (.string (by8 ""))), (.lit (.string (by8 "")))]), none⟩, ⟨none, .st 2 (.t 5) (.t 18), none⟩, ⟨some 6, .as (.t 19), none⟩] [16, 17, 15, 18, 19]) (.seq (.seq (.reg false [⟨some 20, .ld true 2 (.t 5), none⟩, ⟨some 21, .ld true 2 (.t 3), none⟩, ⟨some 22, .call false 15 [(.t 20), (.t 21)], none⟩, ⟨some 23, .un .not (.t 22), none⟩, ⟨some 24, .mv (.t 23), none⟩, ⟨some 25, .mv (.t 6), (some (24, false))⟩, ⟨some 26, .mv (.t 4), (some (24, false))⟩, ⟨some 27, .bin .neq 2 (.t 25) (.t 26), (some (24, false))⟩, ⟨some 28, .pick (.t 24) (.c (.lit (.bool true))) (.t 27), none⟩] [20, 21, 22, 23, 24, 25, 26, 27]) (.cond (.t 28) (.seq (.reg false [⟨some 2, .as (.c (.lit (.bool false))), none⟩] []) (.ret)) (.skip))) (.seq (.reg false [⟨some 2, .as (.c (.lit (.bool true))), none⟩] []) (.ret))))))
theorem is4 : Is Go.Proofs.Tryz.prog 4 29 v4 [.t 2] := ⟨Go.Proofs.Tryz.f4, dl [(0, [2]), (1, [7, 8]), (3, [11, 12, 10, 13, 14]), (4, [16, 17, 15, 18, 19]), (5, [20, 21, 22, 23, 24, 25, 26, 27])], Go.Proofs.Tryz.func4, by kernel_rfl, by kernel_rfl, by kernel_rfl, by kernel_rfl⟩
section
variable {E : Env} (hE : E.P = Go.Proofs.Tryz.prog) (hZ : ∀ w, E.K w → KZ w)
include hE
theorem eqNeed_fx (a b : ByteArray) : Fx E 15 [] [bndV a b, bndV a b] [] (.lit (.bool true)) := by
  refine (is15.to hE).fx [] (by simp [bndV]) rfl rfl ?_
  simp [v15, bndV, okC]
  exact Fin_ret rfl rfl
include hZ in
set_option maxHeartbeats 4000000 in
theorem needLaw_fx (s : ByteArray) : Fx E 4 [] [.lit (.string s)] [] (.lit (.bool true)) := by
  refine (is4.to hE).fx [] (by simp) rfl rfl ?_
  simp [v4]
  by_cases c1 : (1048576 : Int) < s.size
  · simp [c1]
    exact Fin_ret rfl rfl
  simp [c1]
  obtain ⟨a, b, ok, hb⟩ : ∃ a b ok, bndR (needO s) = .tup [bndV a b, .lit (.bool ok)] := by
    cases needO s with
    | none => exact ⟨_, _, _, rfl⟩
    | some p => exact ⟨_, _, _, rfl⟩
  have h1 := specReadNeed_fx hE s (by omega)
  have h2 := implReadNeed_fx hE hZ s (by omega)
  rw [hb] at h1 h2
  refine vcall_go h1 (by simp) (by simp) (by simp) (by simp) ?_
  simp [bndV, okC, putElem, upd, fill]
  refine vcall_go h2 (by simp) (by simp) (by simp) (by simp) ?_
  simp [bndV, okC, putElem, upd, fill]
  refine vcall_go (eqNeed_fx hE a b) (by simp [bndV]) (by simp) (by simp) (by simp) ?_
  simp
  exact Fin_ret rfl rfl
end
end Go.Proofs.YtgegcfhifojjiaaGreatDoor.Vm
