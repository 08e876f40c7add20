/- Package URLs read back: both sides. -/
import Derived.Test.YtgegcfhifojjiaaGreatDoorGl
namespace Go.Proofs.YtgegcfhifojjiaaGreatDoor.Vm
open Go Go.RowKit
set_option linter.unusedVariables false
set_option linter.unusedSimpArgs false
def v16 : VC := .seq (.reg false [⟨some 2, .as (.c (.lit (.int .i64 0))), none⟩, ⟨some 3, .as (.c (.lit (.string (by8 "")))), none⟩, ⟨some 4, .as (.c (.lit (.string (by8 "")))), none⟩] [2, 3, 4]) (.seq (.reg false [⟨some 16, .mv (.t 0), none⟩, ⟨some 17, .call false 54 [(.t 16)], none⟩, ⟨some 15, .mv (.t 17), none⟩, ⟨some 18, .ext (.t 15) 0, none⟩, ⟨some 19, .ext (.t 15) 1, none⟩, ⟨some 5, .as (.t 18), none⟩, ⟨some 6, .as (.t 19), none⟩] [16, 17, 15, 18, 19]) (.seq (.reg false [⟨some 21, .mv (.t 6), none⟩, ⟨some 22, .call false 55 [(.t 21)], none⟩, ⟨some 20, .mv (.t 22), none⟩, ⟨some 23, .ext (.t 20) 0, none⟩, ⟨some 24, .ext (.t 20) 1, none⟩, ⟨some 7, .as (.t 23), none⟩, ⟨some 8, .as (.t 24), none⟩] [21, 22, 20, 23, 24]) (.seq (.reg false [⟨some 25, .mv (.t 5), none⟩, ⟨some 26, .call false 42 [(.t 25), (.c (.lit (.int .u8 47)))], none⟩, ⟨some 9, .as (.t 26), none⟩] [25, 26]) (.seq (.reg false [⟨some 10, .as (.c (.lit (.string (by8 "")))), none⟩] []) (.seq (.seq (.reg false [⟨some 11, .as (.c (.lit (.int .i64 1))), none⟩] []) (.block 0 (.loop (.seq (.seq (.reg false [⟨some 27, .mv (.t 11), none⟩, ⟨some 28, .mv (.t 9), none⟩, ⟨some 29, .len false (.t 28), none⟩, ⟨some 30, .bin .lss 0 (.t 27) (.t 29), none⟩] [27, 28, 29]) (.cond (.t 30) (.skip) (.exit 0))) (.seq (.block 1 (.seq (.reg false [⟨some 34, .mv (.t 9), none⟩, ⟨some 35, .mv (.t 11), none⟩, ⟨some 36, .ia 1 (.t 34) (.t 35), none⟩, ⟨some 37, .ld false 1 (.t 36), none⟩, ⟨some 38, .call false 55 [(.t 37)], none⟩, ⟨some 33, .mv (.t 38), none⟩, ⟨some 39, .ext (.t 33) 0, none⟩, ⟨some 40, .ext (.t 33) 1, none⟩, ⟨some 12, .as (.t 39), none⟩, ⟨some 13, .as (.t 40), none⟩] [34, 35, 36, 37, 38, 33, 39, 40]) (.seq (.reg false [⟨some 41, .mv (.t 8), none⟩, ⟨some 42, .mv (.t 41), none⟩, ⟨some 43, .mv (.t 13), (some (42, true))⟩, ⟨some 44, .pick (.t 42) (.t 43) (.c (.lit (.bool false))), none⟩, ⟨some 8, .as (.t 44), none⟩] [41, 42, 43, 44]) (.seq (.seq (.reg false [⟨some 45, .mv (.t 11), none⟩, ⟨some 46, .bin .gtr 0 (.t 45) (.c (.lit (.int .i64 1))), none⟩] [45]) (.cond (.t 46) (.reg false [⟨some 47, .mv (.t 10), none⟩, ⟨some 48, .bin .add 0 (.t 47) (.c (.lit (.string (by8 "/")))), none⟩, ⟨some 10, .as (.t 48), none⟩] [47, 48]) (.skip))) (.reg false [⟨some 49, .mv (.t 10), none⟩, ⟨some 50, .mv (.t 12), none⟩, ⟨some 51, .bin .add 0 (.t 49) (.t 50), none⟩, ⟨some 10, .as (.t 51), none⟩] [49, 50, 51]))))) (.reg false [⟨some 31, .mv (.t 11), none⟩, ⟨some 32, .bin .add 0 (.t 31) (.c (.lit (.int .i64 1))), none⟩, ⟨some 11, .as (.t 32), none⟩] [31, 32])))))) (.seq (.seq (.reg false [⟨some 14, .as (.c (.lit (.int .i64 0))), none⟩] []) (.block 2 (.loop (.seq (.seq (.reg false [⟨some 52, .mv (.t 14), none⟩, ⟨some 53, .bin .lss 0 (.t 52) (.c (.lit (.int .i64 4))), none⟩] [52]) (.cond (.t 53) (.skip) (.exit 2))) (.seq (.block 3 (.seq (.reg false [⟨some 56, .mv (.t 8), none⟩, ⟨some 57, .mv (.t 56), none⟩, ⟨some 58, .mv (.t 0), (some (57, true))⟩, ⟨some 59, .bin .neq 0 (.t 58) (.c (.lit (.string (by8 "")))), (some (57, true))⟩, ⟨some 60, .pick (.t 57) (.t 59) (.c (.lit (.bool false))), none⟩, ⟨some 61, .mv (.t 60), none⟩, ⟨some 62, .mv (.t 14), (some (61, true))⟩, ⟨some 63, .mv (.t 10), (some (61, true))⟩, ⟨some 64, .mv (.t 7), (some (61, true))⟩, ⟨some 65, .call false 11 [(.t 62), (.t 63), (.t 64)], (some (61, true))⟩, ⟨some 66, .mv (.t 0), (some (61, true))⟩, ⟨some 67, .bin .eql 0 (.t 65) (.t 66), (some (61, true))⟩, ⟨some 68, .pick (.t 61) (.t 67) (.c (.lit (.bool false))), none⟩] [56, 57, 58, 59, 60, 61, 62, 63, 64, 65, 66, 67]) (.cond (.t 68) (.seq (.reg false [⟨some 69, .mv (.t 14), none⟩, ⟨some 70, .mv (.t 10), none⟩, ⟨some 71, .mv (.t 7), none⟩, ⟨some 2, .as (.t 69), none⟩, ⟨some 3, .as (.t 70), none⟩, ⟨some 4, .as (.t 71), none⟩] [69, 70, 71]) (.ret)) (.skip)))) (.reg false [⟨some 54, .mv (.t 14), none⟩, ⟨some 55, .bin .add 0 (.t 54) (.c (.lit (.int .i64 1))), none⟩, ⟨some 14, .as (.t 55), none⟩] [54, 55])))))) (.seq (.reg false [⟨some 2, .as (.c (.lit (.int .i64 (-1)))), none⟩, ⟨some 3, .as (.c (.lit (.string (by8 "")))), none⟩, ⟨some 4, .as (.c (.lit (.string (by8 "")))), none⟩] []) (.ret))))))))
theorem is16 : Is Go.Proofs.Tryz.prog 16 72 v16 [.t 2, .t 3, .t 4] := ⟨Go.Proofs.Tryz.f16, dl [(0, [2, 3, 4]), (1, [16, 17, 15, 18, 19]), (2, [21, 22, 20, 23, 24]), (3, [25, 26]), (6, [27, 28, 29]), (8, [34, 35, 36, 37, 38, 33, 39, 40]), (9, [41, 42, 43, 44]), (10, [45]), (11, [47, 48]), (12, [49, 50, 51]), (7, [31, 32]), (14, [52]), (16, [56, 57, 58, 59, 60, 61, 62, 63, 64, 65, 66, 67]), (17, [69, 70, 71]), (15, [54, 55])], Go.Proofs.Tryz.func16, by kernel_rfl, by kernel_rfl, by kernel_rfl, by kernel_rfl⟩
def v17 : VC := .seq (.reg false [⟨some 2, .as (.c (.lit (.int .i64 0))), none⟩, ⟨some 3, .as (.c (.lit (.string (by8 "")))), none⟩, ⟨some 4, .as (.c (.lit (.string (by8 "")))), none⟩] [2, 3, 4]) (.seq (.reg false [⟨some 18, .mv (.t 0), none⟩, ⟨some 19, .call false 57 [(.t 18), (.c (.lit (.string (by8 "pkg:"))))], none⟩, ⟨some 20, .call false 56 [(.t 19), (.c (.lit (.string (by8 "/"))))], none⟩, ⟨some 17, .mv (.t 20), none⟩, ⟨some 21, .ext (.t 17) 0, none⟩, ⟨some 22, .ext (.t 17) 1, none⟩, ⟨some 23, .ext (.t 17) 2, none⟩, ⟨some 5, .as (.t 21), none⟩, ⟨some 6, .as (.t 22), none⟩, ⟨some 7, .as (.t 23), none⟩] [18, 19, 20, 17, 21, 22, 23, 7]) (.seq (.reg false [⟨some 24, .call false 59 [], none⟩, ⟨some 25, .mv (.t 5), none⟩, ⟨some 26, .call false 58 [(.t 24), (.t 25)], none⟩, ⟨some 8, .as (.t 26), none⟩] [24, 25, 26]) (.seq (.reg false [⟨some 28, .mv (.t 6), none⟩, ⟨some 29, .call false 51 [(.t 28)], none⟩, ⟨some 27, .mv (.t 29), none⟩, ⟨some 30, .ext (.t 27) 0, none⟩, ⟨some 31, .ext (.t 27) 1, none⟩, ⟨some 9, .as (.t 30), none⟩, ⟨some 10, .as (.t 31), none⟩] [28, 29, 27, 30, 31]) (.seq (.reg false [⟨some 32, .mv (.t 9), none⟩, ⟨some 33, .call false 47 [(.t 32), (.c (.lit (.string (by8 "/"))))], none⟩, ⟨some 11, .as (.t 33), none⟩] [32, 33]) (.seq (.seq (.reg false [⟨some 34, .mv (.t 11), none⟩, ⟨some 35, .len false (.t 34), none⟩, ⟨some 36, .mv (.c (.lit (.int .i64 0))), none⟩] []) (.block 0 (.loop (.seq (.reg false [⟨some 37, .bin .lss 0 (.t 36) (.t 35), none⟩] []) (.seq (.cond (.t 37) (.skip) (.exit 0)) (.seq (.block 1 (.seq (.reg false [⟨some 38, .mv (.t 36), none⟩, ⟨some 39, .ia 1 (.t 34) (.t 36), none⟩, ⟨some 40, .ld false 1 (.t 39), none⟩, ⟨some 12, .as (.t 38), none⟩, ⟨some 13, .as (.t 40), none⟩] [38, 39, 40]) (.reg false [⟨some 42, .mv (.t 11), none⟩, ⟨some 43, .mv (.t 12), none⟩, ⟨some 44, .mv (.t 13), none⟩, ⟨some 45, .call false 60 [(.t 44)], none⟩, ⟨some 41, .mv (.t 45), none⟩, ⟨some 46, .ext (.t 41) 0, none⟩, ⟨some 47, .ext (.t 41) 1, none⟩, ⟨some 48, .ia 1 (.t 42) (.t 43), none⟩, ⟨none, .st 1 (.t 48) (.t 46), none⟩] [42, 43, 44, 45, 41, 46, 47, 48]))) (.reg false [⟨some 49, .bin .add 0 (.t 36) (.c (.lit (.int .i64 1))), none⟩, ⟨some 36, .mv (.t 49), none⟩] [49]))))))) (.seq (.reg false [⟨some 50, .mv (.t 11), none⟩, ⟨some 51, .call false 49 [(.t 50), (.c (.lit (.string (by8 "/"))))], none⟩, ⟨some 14, .as (.t 51), none⟩] [50, 51]) (.seq (.reg false [⟨some 53, .mv (.t 10), none⟩, ⟨some 54, .call false 60 [(.t 53)], none⟩, ⟨some 52, .mv (.t 54), none⟩, ⟨some 55, .ext (.t 52) 0, none⟩, ⟨some 56, .ext (.t 52) 1, none⟩, ⟨some 15, .as (.t 55), none⟩, ⟨some 16, .as (.t 56), none⟩] [53, 54, 52, 55, 56, 16]) (.seq (.seq (.reg false [⟨some 57, .mv (.t 0), none⟩, ⟨some 58, .bin .eql 0 (.t 57) (.c (.lit (.string (by8 "")))), none⟩, ⟨some 59, .mv (.t 58), none⟩, ⟨some 60, .mv (.t 8), (some (59, false))⟩, ⟨some 61, .mv (.t 14), (some (59, false))⟩, ⟨some 62, .mv (.t 15), (some (59, false))⟩, ⟨some 63, .call false 12 [(.t 60), (.t 61), (.t 62)], (some (59, false))⟩, ⟨some 64, .mv (.t 0), (some (59, false))⟩, ⟨some 65, .bin .neq 0 (.t 63) (.t 64), (some (59, false))⟩, ⟨some 66, .pick (.t 59) (.c (.lit (.bool true))) (.t 65), none⟩] [57, 58, 59, 60, 61, 62, 63, 64, 65]) (.cond (.t 66) (.seq (.reg false [⟨some 2, .as (.c (.lit (.int .i64 (-1)))), none⟩, ⟨some 3, .as (.c (.lit (.string (by8 "")))), none⟩, ⟨some 4, .as (.c (.lit (.string (by8 "")))), none⟩] []) (.ret)) (.skip))) (.seq (.reg false [⟨some 67, .mv (.t 8), none⟩, ⟨some 68, .mv (.t 14), none⟩, ⟨some 69, .mv (.t 15), none⟩, ⟨some 2, .as (.t 67), none⟩, ⟨some 3, .as (.t 68), none⟩, ⟨some 4, .as (.t 69), none⟩] [67, 68, 69]) (.ret))))))))))
theorem is17 : Is Go.Proofs.Tryz.prog 17 70 v17 [.t 2, .t 3, .t 4] := ⟨Go.Proofs.Tryz.f17, dl [(0, [2, 3, 4]), (1, [18, 19, 20, 17, 21, 22, 23, 7]), (2, [24, 25, 26]), (3, [28, 29, 27, 30, 31]), (4, [32, 33]), (7, [38, 39, 40]), (8, [42, 43, 44, 45, 41, 46, 47, 48]), (9, [49]), (10, [50, 51]), (11, [53, 54, 52, 55, 56, 16]), (12, [57, 58, 59, 60, 61, 62, 63, 64, 65]), (14, [67, 68, 69])], Go.Proofs.Tryz.func17, by kernel_rfl, by kernel_rfl, by kernel_rfl, by kernel_rfl⟩
def v58 : VC := .seq (.reg false [⟨some 4, .as (.c (.lit (.int .i64 0))), none⟩] [4]) (.seq (.seq (.reg false [⟨some 6, .mv (.t 0), none⟩, ⟨some 7, .len false (.t 6), none⟩, ⟨some 8, .mv (.c (.lit (.int .i64 0))), none⟩] [6]) (.block 0 (.loop (.seq (.reg false [⟨some 9, .bin .lss 0 (.t 8) (.t 7), none⟩] []) (.seq (.cond (.t 9) (.skip) (.exit 0)) (.seq (.block 1 (.seq (.reg false [⟨some 10, .mv (.t 8), none⟩, ⟨some 5, .as (.t 10), none⟩] [10]) (.seq (.reg false [⟨some 11, .mv (.t 1), none⟩, ⟨some 12, .mv (.t 0), none⟩, ⟨some 13, .mv (.t 5), none⟩, ⟨some 14, .ia 1 (.t 12) (.t 13), none⟩, ⟨some 15, .ld false 1 (.t 14), none⟩, ⟨some 16, .bin .eql 0 (.t 11) (.t 15), none⟩] [11, 12, 13, 14, 15]) (.cond (.t 16) (.seq (.reg false [⟨some 17, .mv (.t 5), none⟩, ⟨some 4, .as (.t 17), none⟩] [17]) (.ret)) (.skip))))) (.reg false [⟨some 18, .bin .add 0 (.t 8) (.c (.lit (.int .i64 1))), none⟩, ⟨some 8, .mv (.t 18), none⟩] [18]))))))) (.seq (.reg false [⟨some 4, .as (.c (.lit (.int .i64 (-1)))), none⟩] []) (.ret)))
theorem is58 : Is Go.Proofs.Tryz.prog 58 19 v58 [.t 4] := ⟨Go.Proofs.Tryz.f58, dl [(0, [4]), (1, [6]), (3, [10]), (4, [11, 12, 13, 14, 15]), (5, [17]), (6, [18])], Go.Proofs.Tryz.func58, by kernel_rfl, by kernel_rfl, by kernel_rfl, by kernel_rfl⟩
def v5 : VC := .seq (.reg false [⟨some 2, .as (.c (.lit (.bool false))), none⟩] [2]) (.seq (.seq (.reg false [⟨some 9, .mv (.t 0), none⟩, ⟨some 10, .len true (.t 9), none⟩, ⟨some 11, .bin .gtr 0 (.t 10) (.c (.lit (.int .i64 1048576))), none⟩] [9, 10]) (.cond (.t 11) (.seq (.reg false [⟨some 2, .as (.c (.lit (.bool true))), none⟩] []) (.ret)) (.skip))) (.seq (.reg false [⟨some 13, .mv (.t 0), none⟩, ⟨some 14, .call false 16 [(.t 13)], none⟩, ⟨some 12, .mv (.t 14), none⟩, ⟨some 15, .ext (.t 12) 0, none⟩, ⟨some 16, .ext (.t 12) 1, none⟩, ⟨some 17, .ext (.t 12) 2, none⟩, ⟨some 3, .as (.t 15), none⟩, ⟨some 4, .as (.t 16), none⟩, ⟨some 5, .as (.t 17), none⟩] [13, 14, 12, 15, 16, 17]) (.seq (.reg false [⟨some 19, .mv (.t 0), none⟩, ⟨some 20, .call false 17 [(.t 19)], none⟩, ⟨some 18, .mv (.t 20), none⟩, ⟨some 21, .ext (.t 18) 0, none⟩, ⟨some 22, .ext (.t 18) 1, none⟩, ⟨some 23, .ext (.t 18) 2, none⟩, ⟨some 6, .as (.t 21), none⟩, ⟨some 7, .as (.t 22), none⟩, ⟨some 8, .as (.t 23), none⟩] [19, 20, 18, 21, 22, 23]) (.seq (.seq (.reg false [⟨some 24, .mv (.t 6), none⟩, ⟨some 25, .mv (.t 3), none⟩, ⟨some 26, .bin .neq 0 (.t 24) (.t 25), none⟩, ⟨some 27, .mv (.t 26), none⟩, ⟨some 28, .mv (.t 7), (some (27, false))⟩, ⟨some 29, .mv (.t 4), (some (27, false))⟩, ⟨some 30, .bin .neq 0 (.t 28) (.t 29), (some (27, false))⟩, ⟨some 31, .pick (.t 27) (.c (.lit (.bool true))) (.t 30), none⟩, ⟨some 32, .mv (.t 31), none⟩, ⟨some 33, .mv (.t 8), (some (32, false))⟩, ⟨some 34, .mv (.t 5), (some (32, false))⟩, ⟨some 35, .bin .neq 0 (.t 33) (.t 34), (some (32, false))⟩, ⟨some 36, .pick (.t 32) (.c (.lit (.bool true))) (.t 35), none⟩] [24, 25, 26, 27, 28, 29, 30, 31, 32, 33, 34, 35]) (.cond (.t 36) (.seq (.reg false [⟨some 2, .as (.c (.lit (.bool false))), none⟩] []) (.ret)) (.skip))) (.seq (.reg false [⟨some 2, .as (.c (.lit (.bool true))), none⟩] []) (.ret))))))
theorem is5 : Is Go.Proofs.Tryz.prog 5 37 v5 [.t 2] := ⟨Go.Proofs.Tryz.f5, dl [(0, [2]), (1, [9, 10]), (3, [13, 14, 12, 15, 16, 17]), (4, [19, 20, 18, 21, 22, 23]), (5, [24, 25, 26, 27, 28, 29, 30, 31, 32, 33, 34, 35])], Go.Proofs.Tryz.func5, by kernel_rfl, by kernel_rfl, by kernel_rfl, by kernel_rfl⟩
def missP (ok : Bool) (s name ver : ByteArray) (k : Nat) : Prop := ∀ j : Nat, j < k → ¬ (ok = true ∧ s ≠ by8 "" ∧ purlT j name ver = s)
theorem missP.next {ok : Bool} {s name ver : ByteArray} {k : Nat} (h : missP ok s name ver k) (h2 : ¬ (ok = true ∧ s ≠ by8 "" ∧ purlT k name ver = s)) : missP ok s name ver (k + 1) := fun j hj => by
  rcases Nat.lt_succ_iff_lt_or_eq.1 hj with h3 | rfl
  · exact h j h3
  · exact h2
theorem idxS_le : ∀ (l : List ByteArray) (v : ByteArray) (i : Nat), idxS l v i = -1 ∨ ∃ k, k < l.length ∧ l[k]? = some v ∧ idxS l v i = ((i + k : Nat) : Int)
  | [], v, i => .inl rfl
  | x :: r, v, i => by
    unfold idxS
    by_cases h : v = x
    · rw [if_pos h]; exact .inr ⟨0, by simp, by simp [h], rfl⟩
    · rw [if_neg h]
      rcases idxS_le r v (i + 1) with h2 | ⟨k, h2, h3, h4⟩
      · exact .inl h2
      · exact .inr ⟨k + 1, by simpa using h2, by simpa using h3, by rw [h4]; congr 1; omega⟩
section
variable {E : Env} (hE : E.P = Go.Proofs.Tryz.prog) (hZ : ∀ w, E.K w → KZ w) (hC : ∀ w, E.K w → KC w)
include hE
theorem sIndex_fx (xs : List ByteArray) (v : ByteArray) (hn : xs.length ≤ 1099511627776) : Fx E 58 [] [.sl ro 1 (xs.map fun x => .lit (.string x)), .lit (.string v)] [] (.lit (.int .i64 (idxS xs v 0))) := by
  refine (is58.to hE).fx [] (by simp) rfl rfl ?_
  simp [v58]
  refine X_loop (τ := Nat) (fun i => ⟨[(0, .sl ro 1 (xs.map fun x => .lit (.string x))), (1, .lit (.string v)), (7, .lit (.int .i64 xs.length)), (8, .lit (.int .i64 i))], []⟩) (fun i => i ≤ xs.length ∧ idxS xs v 0 = idxS (xs.drop i) v i) (fun i => xs.length - i) 0 (by simp) (Wk.both (by simp [wkL, wkV.same]) trivial) ?_
  rintro i ⟨hi, hx⟩
  simp
  by_cases hlt : i < xs.length
  · rw [List.drop_eq_getElem_cons hlt] at hx
    simp only [idxS] at hx
    simp [hlt, ro, mkF]
    by_cases c : v = xs[i]
    · rw [if_pos c] at hx
      simp [c]
      exact Fin_ret rfl (by rw [← c, hx]; rfl)
    · rw [if_neg c] at hx
      simp [c]
      exact ⟨i + 1, ⟨by omega, hx⟩, by omega, Wk.both (by simp [wkL, wkV.same, ro]; rw [wrapN (by omega)]; exact wkV.same _) trivial⟩
  · obtain rfl : i = xs.length := by omega
    rw [List.drop_of_length_le (Nat.le_refl _)] at hx
    simp
    exact Fin_ret rfl (by rw [hx]; rfl)
set_option maxHeartbeats 4000000 in
theorem specGetPurl_fx (s : ByteArray) (hs : s.size ≤ 1048576) : Fx E 16 [] [.lit (.string s)] [] (gpRes s) := by
  refine (is16.to hE).fx [] (by simp) rfl (gpRes_ok s) ?_
  simp [v16]
  refine vcall_go (specSplit_fx hE s (by omega)) (by simp) (by simp) (by simp) (by simp) ?_
  have zA := keyA_size s
  have zB := keyB_size s
  have zN := sN_size s
  have zV := dePct_size (keyB s)
  simp [keyRes]
  refine vcall_go (specGetPct_fx hE (keyB s) (by omega)) (by simp) (by simp) (by simp) (by simp) ?_
  rw [pctRes_eq]
  simp
  refine vcall_go (l01Cut_fx hE (keyA s) 47 (by omega)) (by simp) (by simp) (by simp) (by simp) ?_
  have hlen := spl_len_le 47 (keyA s)
  have hpz : ∀ (i : Nat) (p : ByteArray), (spl 47 (keyA s))[i]? = some p → p.size ≤ 1048576 := fun i p h => by have := spl_size h; omega
  obtain ⟨ps, hps⟩ : ∃ ps, spl 47 (keyA s) = ps := ⟨_, rfl⟩
  have hne : ps ≠ [] := hps ▸ spl_ne 47 (keyA s)
  obtain ⟨h0, q, rfl⟩ : ∃ h q, ps = h :: q := by cases ps with | nil => exact absurd rfl hne | cons h q => exact ⟨h, q, rfl⟩
  have eN : sN s = joinB (q.map dePct) (one 47) := by rw [sN, hps]; rfl
  have eO : sO s = ((unPct (keyB s)).isSome && q.all fun p => (unPct p).isSome) := by rw [sO, hps]; rfl
  obtain ⟨ov, hov⟩ : ∃ ov, (unPct (keyB s)).isSome = ov := ⟨_, rfl⟩
  obtain ⟨ver, hver⟩ : ∃ ver, dePct (keyB s) = ver := ⟨_, rfl⟩
  rw [hov] at eO ⊢
  rw [hver] at zV ⊢
  rw [hps] at hlen hpz ⊢
  simp only [List.length_cons] at hlen
  have zT : ∀ j, (joinB ((q.map dePct).take j) (one 47)).size ≤ 1048576 := fun j => by
    have := joinB_take (one 47) (q.map dePct) j
    rw [← eN] at this
    omega
  have e47 : by8 "/" = one 47 := by decide +kernel
  simp
  refine X_loop (τ := Nat) (fun j => ⟨[(0, .lit (.string s)), (7, .lit (.string ver)), (8, .lit (.bool (ov && (q.take j).all fun p => (unPct p).isSome))), (9, .sl ⟨.no, true⟩ 1 ((h0 :: q).map fun x => .lit (.string x))), (10, .lit (.string (joinB ((q.map dePct).take j) (one 47)))), (11, .lit (.int .i64 ((j + 1 : Nat) : Int)))], []⟩) (fun j => j ≤ q.length) (fun j => q.length - j) 0 (by simp) (Wk.both (by simp [wkL, wkV.same, joinB_nil]) trivial) ?_
  intro j hj
  have e1 : ((j + 1 : Nat) : Int).toNat = j + 1 := by omega
  simp
  by_cases hlt : j < q.length
  · have hz := hpz (j + 1) q[j] (by simp [hlt])
    have hz2 := dePct_size q[j]
    have zj := zT j
    have hnx : q.take (j + 1) = q.take j ++ [q[j]] := List.take_succ_eq_append_getElem hlt
    have hn2 : ∀ a : ByteArray, (if j = 0 then joinB ((q.map dePct).take j) (one 47) else joinB ((q.map dePct).take j) (one 47) ++ one 47) ++ dePct q[j] = joinB ((q.map dePct).take (j + 1)) (one 47) := fun _ => by
      rw [← List.map_take, ← List.map_take, hnx, List.map_append]
      by_cases c : j = 0
      · subst c
        simp [joinB_nil, joinB_one]
        rw [ba_nil, ByteArray.empty_append]
      · rw [if_neg c]
        rw [List.map_cons, List.map_nil, joinB_snoc _ _ (by simp; exact ⟨c, by rintro rfl; simp at hlt⟩)]
    have hn2 := hn2 s
    have ho2 : (ov && (q.take (j + 1)).all fun p => (unPct p).isSome) = ((ov && (q.take j).all fun p => (unPct p).isSome) && (unPct q[j]).isSome) := by
      rw [hnx, List.all_append, Bool.and_assoc]; simp
    have hlt1 : (j : Int) + 1 < (q.length : Int) + 1 := by omega
    obtain ⟨oj, hoj⟩ : ∃ oj, (ov && (q.take j).all fun p => (unPct p).isSome) = oj := ⟨_, rfl⟩
    obtain ⟨nj, hnj⟩ : ∃ nj, joinB ((q.map dePct).take j) (one 47) = nj := ⟨_, rfl⟩
    rw [hnj] at hn2 zj ⊢
    rw [hoj] at ho2 ⊢
    simp [hlt, mkF]
    refine ⟨by omega, ?_⟩
    refine vcall_go (specGetPct_fx hE q[j] (by omega)) (by simp) (by simp) (by simp) (by simp) ?_
    rw [pctRes_eq]
    simp
    have hone := one_size 47
    cases oj
    all_goals
      simp
      by_cases c : j = 0
      · have c' : ¬ (1 : Int) < (j : Int) + 1 := by omega
        rw [if_pos c] at hn2
        simp [c']
        refine ⟨by omega, j + 1, by omega, by omega, Wk.both ?_ trivial⟩
        rw [ho2, ← hn2]
        simp [wkL, wkV.same]
        rw [wrap_i64 (by omega) (by omega)]
        exact wkV.same _
      · have c' : (1 : Int) < (j : Int) + 1 := by omega
        rw [if_neg c] at hn2
        simp [c']
        rw [e47]
        refine ⟨by omega, by omega, j + 1, by omega, by omega, Wk.both ?_ trivial⟩
        rw [ho2, ← hn2]
        simp [wkL, wkV.same]
        rw [wrap_i64 (by omega) (by omega)]
        exact wkV.same _
  · obtain rfl : j = q.length := by omega
    rw [List.take_length, ← eO, show (q.map dePct).take q.length = q.map dePct from List.take_of_length_le (by simp), ← eN]
    have hmiss := gpRes_miss (s := s)
    have hhit : ∀ (k : Int), s ≠ by8 "" → purlT k (sN s) ver = s → gpRes s = .tup [.lit (.int .i64 k), .lit (.string (sN s)), .lit (.string ver)] := fun k a b => gpRes_hit b a
    rw [hver] at hmiss
    obtain ⟨name, hname⟩ : ∃ name, sN s = name := ⟨_, rfl⟩
    obtain ⟨ok, hok⟩ : ∃ ok, sO s = ok := ⟨_, rfl⟩
    rw [hname] at zN hmiss hhit ⊢
    rw [hok] at hmiss ⊢
    simp
    refine X_loop (τ := Nat) (fun k => ⟨[(0, .lit (.string s)), (7, .lit (.string ver)), (8, .lit (.bool ok)), (10, .lit (.string name)), (14, .lit (.int .i64 k))], []⟩) (fun k => k ≤ 4 ∧ missP ok s name ver k) (fun k => 4 - k) 0 ⟨by omega, fun j hj => by omega⟩ (Wk.both (by simp [wkL, wkV.same]) trivial) ?_
    rintro k ⟨hk, hall⟩
    simp
    by_cases hlt : k < 4
    · have hlt' : (k : Int) < 4 := by omega
      simp [hlt']
      cases ok
      · simp
        exact ⟨k + 1, ⟨by omega, hall.next (by simp)⟩, by omega, Wk.both (by simp [wkL, wkV.same]; rw [wrapN (by omega)]; exact wkV.same _) trivial⟩
      · simp
        by_cases c1 : s = by8 ""
        · simp [c1]
          rw [c1] at hall
          exact ⟨k + 1, ⟨by omega, hall.next (by simp)⟩, by omega, Wk.both (by simp [wkL, wkV.same]; rw [wrapN (by omega)]; exact wkV.same _) trivial⟩
        · simp [c1]
          refine vcall_go (specPurl_fx hE k name ver (by omega) (by omega)) (by simp) (by simp) (by simp) (by simp) ?_
          simp
          by_cases c2 : purlT k name ver = s
          · simp [c2]
            exact Fin_ret3 rfl (by rw [hhit k c1 c2]; rfl)
          · simp [c2]
            exact ⟨k + 1, ⟨by omega, hall.next (by simp [c2])⟩, by omega, Wk.both (by simp [wkL, wkV.same]; rw [wrapN (by omega)]; exact wkV.same _) trivial⟩
    · obtain rfl : k = 4 := by omega
      simp
      exact Fin_ret3 rfl (by rw [hmiss hall]; rfl)
include hZ hC
set_option maxHeartbeats 4000000 in
theorem implGetPurl_fx (s : ByteArray) (hs : s.size ≤ 1048576) : Fx E 17 [] [.lit (.string s)] [] (gpRes s) := by
  have e47 : by8 "/" = one 47 := by decide +kernel
  refine (is17.to hE).fx [] (by simp) rfl (gpRes_ok s) ?_
  simp [v17]
  refine vcall_go (trimPrefix_fx hE s (by8 "pkg:")) (by simp) (by simp) (by simp) (by simp) ?_
  simp
  rw [e47]
  have zt := trimP_size s (by8 "pkg:")
  refine vcall_go (cut_fx hE hZ 47 (trimP s (by8 "pkg:")) (by omega)) (by simp) (by simp) (by simp) (by simp) ?_
  have hcut : ∃ b, cutC 47 (trimP s (by8 "pkg:")) = .tup [.lit (.string (iCut (trimP s (by8 "pkg:"))).1), .lit (.string (iCut (trimP s (by8 "pkg:"))).2), .lit (.bool b)] := by
    unfold cutC iCut
    split
    · exact ⟨_, rfl⟩
    · exact ⟨_, rfl⟩
  obtain ⟨hb, hcut⟩ := hcut
  rw [hcut]
  have eK : iK s = idxS kinds (iCut (trimP s (by8 "pkg:"))).1 0 := rfl
  have eR : (iCut (trimP s (by8 "pkg:"))).2 = iR s := rfl
  rw [eR]
  simp
  refine vcall_go (kindNames_fx hE) (by simp) (by simp) (by simp) (by simp) ?_
  simp
  refine vcall_go (sIndex_fx hE kinds (iCut (trimP s (by8 "pkg:"))).1 (by decide)) (by simp [ro]) (by simp) (by simp) (by simp) ?_
  rw [← eK]
  have zR := iR_size s
  have zN := iN_size s
  have zV := iV_size s
  simp
  refine vcall_go (implSplit_fx hE (iR s) (by omega)) (by simp) (by simp) (by simp) (by simp) ?_
  have zA := keyA_size (iR s)
  have zB := keyB_size (iR s)
  have eN : iN s = joinB ((spl 47 (keyA (iR s))).map dePct) (one 47) := rfl
  have eV : iV s = dePct (keyB (iR s)) := rfl
  simp [keyRes]
  refine vcall_strs (args := [.string (keyA (iR s)), .string (one 47)]) (split_calls hE hZ (keyA (iR s)) (one 47) (by omega) (by decide)) (by simp) ?_
  rw [show spB (one 47) (keyA (iR s)) = spl 47 (keyA (iR s)) from rfl]
  have hlen := spl_len_le 47 (keyA (iR s))
  have hpz : ∀ p ∈ spl 47 (keyA (iR s)), p.size ≤ 1048576 := fun p hp => by
    obtain ⟨i, hi, rfl⟩ := List.getElem_of_mem hp
    have := spl_size (List.getElem?_eq_getElem hi)
    omega
  obtain ⟨ps, hps⟩ : ∃ ps, spl 47 (keyA (iR s)) = ps := ⟨_, rfl⟩
  obtain ⟨kb, hkb⟩ : ∃ kb, keyB (iR s) = kb := ⟨_, rfl⟩
  rw [hps] at hlen hpz eN ⊢
  rw [hkb] at eV zB ⊢
  simp
  refine X_loop (τ := Nat) (fun i => ⟨[(0, .lit (.string s)), (8, .lit (.int .i64 (iK s))), (10, .lit (.string kb)), (11, .bs 1033 1 ps.length), (34, .bs 1033 1 ps.length), (35, .lit (.int .i64 ps.length)), (36, .lit (.int .i64 i))], [(1033, rowG dePct ps i)]⟩) (fun i => i ≤ ps.length) (fun i => ps.length - i) 0 (by simp) (Wk.both (by simp [wkL, wkV.same]) (by simp [wkB, rowG_zero])) ?_
  rintro i hi
  simp
  by_cases hlt : i < ps.length
  · have hp1 := hpz _ (List.getElem_mem hlt)
    simp [hlt, rowG_get hlt]
    refine vcall_go (implGetPct_fx hE hC ps[i] (by omega)) (by simp) (by simp) (by simp) (by simp [rowG_noC]) ?_
    rw [pctRes_eq]
    simp [hlt, rowG_get hlt, okC, putElem, upd]
    rw [rowG_set hlt]
    exact ⟨i + 1, by omega, by omega, Wk.both (by simp [wkL, wkV.same]; rw [wrapN (by omega)]; exact wkV.same _) (by simp [wkB])⟩
  · obtain rfl : i = ps.length := by omega
    simp
    rw [rowG_all]
    obtain ⟨qs, hqs⟩ : ∃ qs, ps.map dePct = qs := ⟨_, rfl⟩
    have hql : ps.length = qs.length := by rw [← hqs]; simp
    rw [hqs] at eN ⊢
    rw [hql]
    refine vcall_box (n := 1033) (join_bx hE qs (one 47) (by omega) (by rw [← eN]; omega)) rfl (by simp; rfl) (by simp [argOk]) (by simp [ptrs, dd]) (by simp [lits_noC]) rfl (lits_strip qs) (lits_dat qs) ⟨lits_res qs, lits_dat qs⟩ ?_
    rw [lits_relab, ← eN]
    simp
    refine vcall_go (implGetPct_fx hE hC kb (by omega)) (by simp) (by simp) (by simp) (by simp [lits_noC]) ?_
    rw [pctRes_eq, ← eV]
    simp
    have hg : gpRes s = if s = by8 "" ∨ purlT (iK s) (iN s) (iV s) ≠ s then .tup [.lit (.int .i64 (-1)), .lit (.string (by8 "")), .lit (.string (by8 ""))] else .tup [.lit (.int .i64 (iK s)), .lit (.string (iN s)), .lit (.string (iV s))] := rfl
    obtain ⟨k, hk⟩ : ∃ k, iK s = k := ⟨_, rfl⟩
    obtain ⟨name, hname⟩ : ∃ name, iN s = name := ⟨_, rfl⟩
    obtain ⟨ver, hver⟩ : ∃ ver, iV s = ver := ⟨_, rfl⟩
    rw [hk, hname, hver] at hg
    rw [hname] at zN
    rw [hver] at zV
    rw [hk, hname, hver]
    by_cases c1 : s = by8 ""
    · rw [if_pos (.inl c1)] at hg
      rw [hg]
      simp [c1]
      exact Fin_ret3 rfl rfl
    · simp [c1]
      refine vcall_go (implPurl_fx hE hZ k name ver (by omega) (by omega)) (by simp) (by simp) (by simp) (by simp [lits_noC]) ?_
      simp
      by_cases c2 : purlT k name ver = s
      · rw [if_neg (by rintro (h | h); exact c1 h; exact h c2)] at hg
        rw [hg]
        simp [c2]
        exact Fin_ret3 rfl rfl
      · rw [if_pos (.inr c2)] at hg
        rw [hg]
        simp [c2]
        exact Fin_ret3 rfl rfl
theorem getPurlLaw_fx (s : ByteArray) : Fx E 5 [] [.lit (.string s)] [] (.lit (.bool true)) := by
  refine (is5.to hE).fx [] (by simp) rfl rfl ?_
  simp [v5]
  by_cases c1 : (1048576 : Int) < s.size
  · simp [c1]
    exact Fin_ret rfl rfl
  simp [c1]
  have h3 : ∃ (k : Int) (n v : ByteArray), gpRes s = .tup [.lit (.int .i64 k), .lit (.string n), .lit (.string v)] := by
    unfold gpRes
    split
    · exact ⟨_, _, _, rfl⟩
    · exact ⟨_, _, _, rfl⟩
  obtain ⟨k, n, v, h3⟩ := h3
  refine vcall_go (specGetPurl_fx hE s (by omega)) (by simp) (by simp) (by simp) (by simp) ?_
  rw [h3]
  simp
  refine vcall_go (implGetPurl_fx hE hZ hC s (by omega)) (by simp) (by simp) (by simp) (by simp) ?_
  rw [h3]
  simp
  exact Fin_ret rfl rfl
end
end Go.Proofs.YtgegcfhifojjiaaGreatDoor.Vm
