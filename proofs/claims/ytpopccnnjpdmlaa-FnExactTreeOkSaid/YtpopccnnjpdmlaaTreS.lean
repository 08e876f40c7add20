/- Trees: the specification's side of TreeOk. -/
import Derived.Test.YtpopccnnjpdmlaaTre
namespace Go.Proofs.Ytpopccnnjpdmlaa.Vm
open Go Go.RowKit
set_option linter.unusedVariables false
set_option linter.unusedSimpArgs false
def v96 : VC := .seq (.reg false [⟨some 6, .as (.c (.lit (.bool false))), none⟩] [6]) (.seq (.reg false [⟨some 7, .mv (.t 0), none⟩, ⟨some 8, .mv (.t 1), none⟩, ⟨some 9, .bin .geq 0 (.t 7) (.t 8), none⟩, ⟨some 10, .mv (.t 9), none⟩, ⟨some 11, .mv (.t 0), (some (10, true))⟩, ⟨some 12, .mv (.t 2), (some (10, true))⟩, ⟨some 13, .bin .leq 0 (.t 11) (.t 12), (some (10, true))⟩, ⟨some 14, .pick (.t 10) (.t 13) (.c (.lit (.bool false))), none⟩, ⟨some 6, .as (.t 14), none⟩] [7, 8, 9, 10, 11, 12, 13, 14]) (.ret))
theorem is96 : Is Go.Proofs.Try.prog 96 15 v96 [.t 6] := ⟨Go.Proofs.Try.f96, dl [(0, [6]), (1, [7, 8, 9, 10, 11, 12, 13, 14])], Go.Proofs.Try.func96, by kernel_rfl, by kernel_rfl, by kernel_rfl, by kernel_rfl⟩
def v107 : VC := .seq (.reg false [⟨some 4, .as (.c (.lit (.bool false))), none⟩] [4]) (.seq (.seq (.reg false [⟨some 5, .as (.c (.lit (.int .i64 0))), none⟩] []) (.block 0 (.loop (.seq (.seq (.reg false [⟨some 6, .mv (.t 5), none⟩, ⟨some 7, .mv (.t 0), none⟩, ⟨some 8, .len false (.t 7), none⟩, ⟨some 9, .bin .lss 0 (.t 6) (.t 8), none⟩] [6, 7, 8]) (.cond (.t 9) (.skip) (.exit 0))) (.seq (.block 1 (.seq (.reg false [⟨some 12, .mv (.t 0), none⟩, ⟨some 13, .mv (.t 5), none⟩, ⟨some 14, .ia 1 (.t 12) (.t 13), none⟩, ⟨some 15, .ld false 1 (.t 14), none⟩, ⟨some 16, .mv (.t 1), none⟩, ⟨some 17, .bin .eql 0 (.t 15) (.t 16), none⟩] [12, 13, 14, 15, 16]) (.cond (.t 17) (.seq (.reg false [⟨some 4, .as (.c (.lit (.bool true))), none⟩] []) (.ret)) (.skip)))) (.reg false [⟨some 10, .mv (.t 5), none⟩, ⟨some 11, .bin .add 0 (.t 10) (.c (.lit (.int .i64 1))), none⟩, ⟨some 5, .as (.t 11), none⟩] [10, 11])))))) (.seq (.reg false [⟨some 4, .as (.c (.lit (.bool false))), none⟩] []) (.ret)))
theorem is107 : Is Go.Proofs.Try.prog 107 18 v107 [.t 4] := ⟨Go.Proofs.Try.f107, dl [(0, [4]), (2, [6, 7, 8]), (4, [12, 13, 14, 15, 16]), (3, [10, 11])], Go.Proofs.Try.func107, by kernel_rfl, by kernel_rfl, by kernel_rfl, by kernel_rfl⟩
def v97 : VC := .seq (.reg false [⟨some 2, .as (.c (.lit (.bool false))), none⟩] [2]) (.seq (.seq (.reg false [⟨some 3, .as (.c (.lit (.int .i64 0))), none⟩] []) (.block 0 (.loop (.seq (.seq (.reg false [⟨some 4, .mv (.t 3), none⟩, ⟨some 5, .mv (.t 0), none⟩, ⟨some 6, .len false (.t 5), none⟩, ⟨some 7, .bin .lss 0 (.t 4) (.t 6), none⟩] [4, 5, 6]) (.cond (.t 7) (.skip) (.exit 0))) (.seq (.block 1 (.seq (.reg true [⟨some 10, .mv (.t 0), none⟩, ⟨some 11, .mv (.t 3), none⟩, ⟨some 12, .slL 1 (.t 10) none (some (.t 11)), none⟩, ⟨some 13, .mv (.t 0), none⟩, ⟨some 14, .mv (.t 3), none⟩, ⟨some 15, .ia 1 (.t 13) (.t 14), none⟩, ⟨some 16, .ld false 1 (.t 15), none⟩, ⟨some 17, .call true 107 [(.t 12), (.t 16)], none⟩] [10, 11, 12, 13, 14, 15, 16]) (.cond (.t 17) (.seq (.reg false [⟨some 2, .as (.c (.lit (.bool false))), none⟩] []) (.ret)) (.skip)))) (.reg false [⟨some 8, .mv (.t 3), none⟩, ⟨some 9, .bin .add 0 (.t 8) (.c (.lit (.int .i64 1))), none⟩, ⟨some 3, .as (.t 9), none⟩] [8, 9])))))) (.seq (.reg false [⟨some 18, .mv (.t 0), none⟩, ⟨some 19, .len false (.t 18), none⟩, ⟨some 20, .bin .leq 0 (.t 19) (.c (.lit (.int .i64 600))), none⟩, ⟨some 2, .as (.t 20), none⟩] [18, 19, 20]) (.ret)))
theorem is97 : Is Go.Proofs.Try.prog 97 21 v97 [.t 2] := ⟨Go.Proofs.Try.f97, dl [(0, [2]), (2, [4, 5, 6]), (4, [10, 11, 12, 13, 14, 15, 16]), (3, [8, 9]), (6, [18, 19, 20])], Go.Proofs.Try.func97, by kernel_rfl, by kernel_rfl, by kernel_rfl, by kernel_rfl⟩
def v81 : VC := .seq (.reg false [⟨some 1, .box 5 (.t 0), none⟩, ⟨some 2, .as (.c (.lit (.bool false))), none⟩] [2]) (.seq (.reg false [⟨some 4, .fa 3 (.t 1), none⟩, ⟨some 5, .ld false 1 (.t 4), none⟩, ⟨some 6, .len false (.t 5), none⟩, ⟨some 7, .bin .eql 0 (.t 6) (.c (.lit (.int .i64 0))), none⟩, ⟨some 8, .mv (.t 7), none⟩, ⟨some 9, .fa 4 (.t 1), (some (8, true))⟩, ⟨some 10, .ld false 1 (.t 9), (some (8, true))⟩, ⟨some 11, .len false (.t 10), (some (8, true))⟩, ⟨some 12, .bin .eql 0 (.t 11) (.c (.lit (.int .i64 0))), (some (8, true))⟩, ⟨some 13, .pick (.t 8) (.t 12) (.c (.lit (.bool false))), none⟩, ⟨some 3, .as (.t 13), none⟩] [4, 5, 6, 7, 8, 9, 10, 11, 12, 13]) (.seq (.seq (.reg false [⟨some 14, .fa 0 (.t 1), none⟩, ⟨some 15, .ld false 1 (.t 14), none⟩] [14]) (.block 0 (.seq (.seq (.reg false [⟨some 17, .bin .eql 0 (.t 15) (.c (.lit (.int .i64 0))), none⟩, ⟨some 16, .as (.t 17), none⟩] [17]) (.cond (.t 16) (.skip) (.seq (.reg false [⟨some 18, .bin .eql 0 (.t 15) (.c (.lit (.int .i64 1))), none⟩, ⟨some 16, .as (.t 18), none⟩] [18]) (.cond (.t 16) (.skip) (.reg false [⟨some 19, .bin .eql 0 (.t 15) (.c (.lit (.int .i64 2))), none⟩, ⟨some 16, .as (.t 19), none⟩] [19]))))) (.cond (.t 16) (.seq (.reg false [⟨some 20, .mv (.t 3), none⟩, ⟨some 21, .mv (.t 20), none⟩, ⟨some 22, .fa 1 (.t 1), (some (21, true))⟩, ⟨some 23, .ld false 1 (.t 22), (some (21, true))⟩, ⟨some 24, .bin .eql 0 (.t 23) (.c (.lit (.int .i64 0))), (some (21, true))⟩, ⟨some 25, .pick (.t 21) (.t 24) (.c (.lit (.bool false))), none⟩, ⟨some 26, .mv (.t 25), none⟩, ⟨some 27, .fa 2 (.t 1), (some (26, true))⟩, ⟨some 28, .ld false 1 (.t 27), (some (26, true))⟩, ⟨some 29, .bin .eql 0 (.t 28) (.c (.lit (.string (by8 "")))), (some (26, true))⟩, ⟨some 30, .pick (.t 26) (.t 29) (.c (.lit (.bool false))), none⟩, ⟨some 2, .as (.t 30), none⟩] [20, 21, 22, 23, 24, 25, 26, 27, 28, 29, 30]) (.ret)) (.seq (.reg false [⟨some 32, .bin .eql 0 (.t 15) (.c (.lit (.int .i64 3))), none⟩, ⟨some 31, .as (.t 32), none⟩] [32]) (.cond (.t 31) (.seq (.reg false [⟨some 33, .mv (.t 3), none⟩, ⟨some 34, .mv (.t 33), none⟩, ⟨some 35, .fa 2 (.t 1), (some (34, true))⟩, ⟨some 36, .ld false 1 (.t 35), (some (34, true))⟩, ⟨some 37, .bin .eql 0 (.t 36) (.c (.lit (.string (by8 "")))), (some (34, true))⟩, ⟨some 38, .pick (.t 34) (.t 37) (.c (.lit (.bool false))), none⟩, ⟨some 39, .mv (.t 38), none⟩, ⟨some 40, .fa 1 (.t 1), (some (39, true))⟩, ⟨some 41, .ld false 1 (.t 40), (some (39, true))⟩, ⟨some 42, .call false 96 [(.t 41), (.c (.lit (.int .i64 0))), (.c (.lit (.int .i64 999999999)))], (some (39, true))⟩, ⟨some 43, .pick (.t 39) (.t 42) (.c (.lit (.bool false))), none⟩, ⟨some 2, .as (.t 43), none⟩] [33, 34, 35, 36, 37, 38, 39, 40, 41, 42, 43]) (.ret)) (.seq (.reg false [⟨some 45, .bin .eql 0 (.t 15) (.c (.lit (.int .i64 4))), none⟩, ⟨some 44, .as (.t 45), none⟩] [45]) (.cond (.t 44) (.seq (.reg false [⟨some 46, .mv (.t 3), none⟩, ⟨some 47, .mv (.t 46), none⟩, ⟨some 48, .fa 1 (.t 1), (some (47, true))⟩, ⟨some 49, .ld false 1 (.t 48), (some (47, true))⟩, ⟨some 50, .bin .eql 0 (.t 49) (.c (.lit (.int .i64 0))), (some (47, true))⟩, ⟨some 51, .pick (.t 47) (.t 50) (.c (.lit (.bool false))), none⟩, ⟨some 2, .as (.t 51), none⟩] [46, 47, 48, 49, 50, 51]) (.ret)) (.seq (.reg false [⟨some 53, .bin .eql 0 (.t 15) (.c (.lit (.int .i64 5))), none⟩, ⟨some 52, .as (.t 53), none⟩] [53]) (.cond (.t 52) (.seq (.reg false [⟨some 54, .fa 3 (.t 1), none⟩, ⟨some 55, .ld false 1 (.t 54), none⟩, ⟨some 56, .len false (.t 55), none⟩, ⟨some 57, .bin .eql 0 (.t 56) (.c (.lit (.int .i64 0))), none⟩, ⟨some 58, .mv (.t 57), none⟩, ⟨some 59, .fa 1 (.t 1), (some (58, true))⟩, ⟨some 60, .ld false 1 (.t 59), (some (58, true))⟩, ⟨some 61, .bin .eql 0 (.t 60) (.c (.lit (.int .i64 0))), (some (58, true))⟩, ⟨some 62, .pick (.t 58) (.t 61) (.c (.lit (.bool false))), none⟩, ⟨some 63, .mv (.t 62), none⟩, ⟨some 64, .fa 2 (.t 1), (some (63, true))⟩, ⟨some 65, .ld false 1 (.t 64), (some (63, true))⟩, ⟨some 66, .bin .eql 0 (.t 65) (.c (.lit (.string (by8 "")))), (some (63, true))⟩, ⟨some 67, .pick (.t 63) (.t 66) (.c (.lit (.bool false))), none⟩, ⟨some 2, .as (.t 67), none⟩] [54, 55, 56, 57, 58, 59, 60, 61, 62, 63, 64, 65, 66, 67]) (.ret)) (.seq (.reg false [⟨some 69, .bin .eql 0 (.t 15) (.c (.lit (.int .i64 6))), none⟩, ⟨some 68, .as (.t 69), none⟩] [69]) (.cond (.t 68) (.seq (.reg false [⟨some 70, .fa 3 (.t 1), none⟩, ⟨some 71, .ld false 1 (.t 70), none⟩, ⟨some 72, .len false (.t 71), none⟩, ⟨some 73, .fa 4 (.t 1), none⟩, ⟨some 74, .ld false 1 (.t 73), none⟩, ⟨some 75, .len false (.t 74), none⟩, ⟨some 76, .bin .eql 0 (.t 72) (.t 75), none⟩, ⟨some 77, .mv (.t 76), none⟩, ⟨some 78, .fa 1 (.t 1), (some (77, true))⟩, ⟨some 79, .ld false 1 (.t 78), (some (77, true))⟩, ⟨some 80, .bin .eql 0 (.t 79) (.c (.lit (.int .i64 0))), (some (77, true))⟩, ⟨some 81, .pick (.t 77) (.t 80) (.c (.lit (.bool false))), none⟩, ⟨some 82, .mv (.t 81), none⟩, ⟨some 83, .fa 2 (.t 1), (some (82, true))⟩, ⟨some 84, .ld false 1 (.t 83), (some (82, true))⟩, ⟨some 85, .bin .eql 0 (.t 84) (.c (.lit (.string (by8 "")))), (some (82, true))⟩, ⟨some 86, .pick (.t 82) (.t 85) (.c (.lit (.bool false))), none⟩, ⟨some 87, .mv (.t 86), none⟩, ⟨some 88, .fa 3 (.t 1), (some (87, true))⟩, ⟨some 89, .ld false 1 (.t 88), (some (87, true))⟩, ⟨some 90, .call false 97 [(.t 89)], (some (87, true))⟩, ⟨some 91, .pick (.t 87) (.t 90) (.c (.lit (.bool false))), none⟩, ⟨some 2, .as (.t 91), none⟩] [70, 71, 72, 73, 74, 75, 76, 77, 78, 79, 80, 81, 82, 83, 84, 85, 86, 87, 88, 89, 90, 91]) (.ret)) (.skip))))))))))))) (.seq (.reg false [⟨some 2, .as (.c (.lit (.bool false))), none⟩] []) (.ret))))
theorem is81 : Is Go.Proofs.Try.prog 81 92 v81 [.t 2] := ⟨Go.Proofs.Try.f81, dl [(0, [2]), (1, [4, 5, 6, 7, 8, 9, 10, 11, 12, 13]), (2, [14]), (3, [17]), (4, [18]), (5, [19]), (7, [32]), (9, [45]), (11, [53]), (13, [69]), (14, [70, 71, 72, 73, 74, 75, 76, 77, 78, 79, 80, 81, 82, 83, 84, 85, 86, 87, 88, 89, 90, 91]), (12, [54, 55, 56, 57, 58, 59, 60, 61, 62, 63, 64, 65, 66, 67]), (10, [46, 47, 48, 49, 50, 51]), (8, [33, 34, 35, 36, 37, 38, 39, 40, 41, 42, 43]), (6, [20, 21, 22, 23, 24, 25, 26, 27, 28, 29, 30])], Go.Proofs.Try.func81, by kernel_rfl, by kernel_rfl, by kernel_rfl, by kernel_rfl⟩
def v47 : VC := .seq (.reg false [⟨some 2, .box 5 (.t 0), none⟩, ⟨some 4, .as (.c (.lit (.bool false))), none⟩] [4]) (.seq (.seq (.reg false [⟨some 5, .as (.c (.lit (.int .i64 0))), none⟩] []) (.block 0 (.loop (.seq (.seq (.reg false [⟨some 6, .mv (.t 5), none⟩, ⟨some 7, .fa 4 (.t 2), none⟩, ⟨some 8, .ld false 1 (.t 7), none⟩, ⟨some 9, .len false (.t 8), none⟩, ⟨some 10, .bin .lss 0 (.t 6) (.t 9), none⟩] [6, 7, 8, 9]) (.cond (.t 10) (.skip) (.exit 0))) (.seq (.block 1 (.seq (.reg false [⟨some 13, .fa 4 (.t 2), none⟩, ⟨some 14, .ld false 1 (.t 13), none⟩, ⟨some 15, .mv (.t 5), none⟩, ⟨some 16, .ia 5 (.t 14) (.t 15), none⟩, ⟨some 17, .ld true 5 (.t 16), none⟩, ⟨some 18, .mv (.t 1), none⟩, ⟨some 19, .bin .sub 0 (.t 18) (.c (.lit (.int .i64 1))), none⟩, ⟨some 20, .call false 47 [(.t 17), (.t 19)], none⟩, ⟨some 21, .un .not (.t 20), none⟩] [13, 14, 15, 16, 17, 18, 19, 20]) (.cond (.t 21) (.seq (.reg false [⟨some 4, .as (.c (.lit (.bool false))), none⟩] []) (.ret)) (.skip)))) (.reg false [⟨some 11, .mv (.t 5), none⟩, ⟨some 12, .bin .add 0 (.t 11) (.c (.lit (.int .i64 1))), none⟩, ⟨some 5, .as (.t 12), none⟩] [11, 12])))))) (.seq (.reg false [⟨some 22, .mv (.t 1), none⟩, ⟨some 23, .bin .geq 0 (.t 22) (.c (.lit (.int .i64 0))), none⟩, ⟨some 24, .mv (.t 23), none⟩, ⟨some 25, .ld true 5 (.t 2), (some (24, true))⟩, ⟨some 26, .call false 81 [(.t 25)], (some (24, true))⟩, ⟨some 27, .pick (.t 24) (.t 26) (.c (.lit (.bool false))), none⟩, ⟨some 4, .as (.t 27), none⟩] [22, 23, 24, 25, 26, 27]) (.ret)))
theorem is47 : Is Go.Proofs.Try.prog 47 28 v47 [.t 4] := ⟨Go.Proofs.Try.f47, dl [(0, [4]), (2, [6, 7, 8, 9]), (4, [13, 14, 15, 16, 17, 18, 19, 20]), (3, [11, 12]), (6, [22, 23, 24, 25, 26, 27])], Go.Proofs.Try.func47, by kernel_rfl, by kernel_rfl, by kernel_rfl, by kernel_rfl⟩
def v48 : VC := .seq (.reg false [⟨some 1, .box 5 (.t 0), none⟩, ⟨some 2, .as (.c (.lit (.int .i64 0))), none⟩] [2]) (.seq (.reg false [⟨some 3, .as (.c (.lit (.int .i64 1))), none⟩] []) (.seq (.seq (.reg false [⟨some 4, .as (.c (.lit (.int .i64 0))), none⟩] []) (.block 0 (.loop (.seq (.seq (.reg false [⟨some 5, .mv (.t 4), none⟩, ⟨some 6, .fa 4 (.t 1), none⟩, ⟨some 7, .ld false 1 (.t 6), none⟩, ⟨some 8, .len false (.t 7), none⟩, ⟨some 9, .bin .lss 0 (.t 5) (.t 8), none⟩] [5, 6, 7, 8]) (.cond (.t 9) (.skip) (.exit 0))) (.seq (.block 1 (.reg false [⟨some 12, .mv (.t 3), none⟩, ⟨some 13, .fa 4 (.t 1), none⟩, ⟨some 14, .ld false 1 (.t 13), none⟩, ⟨some 15, .mv (.t 4), none⟩, ⟨some 16, .ia 5 (.t 14) (.t 15), none⟩, ⟨some 17, .ld true 5 (.t 16), none⟩, ⟨some 18, .call false 48 [(.t 17)], none⟩, ⟨some 19, .bin .add 0 (.t 12) (.t 18), none⟩, ⟨some 3, .as (.t 19), none⟩] [12, 13, 14, 15, 16, 17, 18, 19])) (.reg false [⟨some 10, .mv (.t 4), none⟩, ⟨some 11, .bin .add 0 (.t 10) (.c (.lit (.int .i64 1))), none⟩, ⟨some 4, .as (.t 11), none⟩] [10, 11])))))) (.seq (.reg false [⟨some 20, .mv (.t 3), none⟩, ⟨some 2, .as (.t 20), none⟩] [20]) (.ret))))
theorem is48 : Is Go.Proofs.Try.prog 48 21 v48 [.t 2] := ⟨Go.Proofs.Try.f48, dl [(0, [2]), (3, [5, 6, 7, 8]), (5, [12, 13, 14, 15, 16, 17, 18, 19]), (4, [10, 11]), (6, [20])], Go.Proofs.Try.func48, by kernel_rfl, by kernel_rfl, by kernel_rfl, by kernel_rfl⟩
def v9 : VC := .seq (.reg false [⟨some 1, .box 5 (.t 0), none⟩, ⟨some 2, .as (.c (.lit (.bool false))), none⟩] [2]) (.seq (.reg false [⟨some 3, .ld true 5 (.t 1), none⟩, ⟨some 4, .call false 47 [(.t 3), (.c (.lit (.int .i64 8)))], none⟩, ⟨some 5, .mv (.t 4), none⟩, ⟨some 6, .ld true 5 (.t 1), (some (5, true))⟩, ⟨some 7, .call false 48 [(.t 6)], (some (5, true))⟩, ⟨some 8, .bin .leq 0 (.t 7) (.c (.lit (.int .i64 600))), (some (5, true))⟩, ⟨some 9, .pick (.t 5) (.t 8) (.c (.lit (.bool false))), none⟩, ⟨some 2, .as (.t 9), none⟩] [3, 4, 5, 6, 7, 8, 9]) (.ret))
theorem is9 : Is Go.Proofs.Try.prog 9 10 v9 [.t 2] := ⟨Go.Proofs.Try.f9, dl [(0, [2]), (1, [3, 4, 5, 6, 7, 8, 9])], Go.Proofs.Try.func9, by kernel_rfl, by kernel_rfl, by kernel_rfl, by kernel_rfl⟩
def inR (x a b : Int) : Bool := decide (a ≤ x) && decide (x ≤ b)
theorem wrapN {i : Nat} (h : i < 9223372036854775807) : IntKind.i64.wrap ((i : Int) + 1) = ((i + 1 : Nat) : Int) := by
  rw [wrap_i64 (by omega) (by omega)]; omega
def hasS (l : List ByteArray) (s : ByteArray) : Bool := l.any fun x => decide (x = s)
theorem hasS_true {l : List ByteArray} {s : ByteArray} {i : Nat} (h : i < l.length) (e : l[i] = s) : hasS l s = true := by
  unfold hasS; rw [List.any_eq_true]; exact ⟨l[i], List.getElem_mem h, by simp [e]⟩
theorem hasS_false {l : List ByteArray} {s : ByteArray} (h : ∀ (k : Nat) (x : ByteArray), l[k]? = some x → x ≠ s) : hasS l s = false := by
  unfold hasS; rw [List.any_eq_false]; intro x hx
  obtain ⟨k, hk, rfl⟩ := List.getElem_of_mem hx
  simpa using h k _ (List.getElem?_eq_getElem hk)
def newAt (l : List ByteArray) (i : Nat) : Bool := match l[i]? with
  | some s => !hasS (l.take i) s
  | none => true
def keysNew (l : List ByteArray) : Bool := (List.range l.length).all (newAt l)
theorem newAt_of {l : List ByteArray} {i : Nat} (h : i < l.length) : newAt l i = !hasS (l.take i) l[i] := by
  unfold newAt; rw [List.getElem?_eq_getElem h]
theorem rangeAll_false {p : Nat → Bool} {n i : Nat} (h : i < n) (hp : p i = false) : (List.range n).all p = false := by
  rw [List.all_eq_false]
  exact ⟨i, List.mem_range.2 h, by simp [hp]⟩
theorem rangeAll_true {p : Nat → Bool} {n : Nat} (h : ∀ i, i < n → p i = true) : (List.range n).all p = true := by
  rw [List.all_eq_true]
  exact fun i hi => h i (List.mem_range.1 hi)
def ownB (x : Tr) : Bool :=
  if x.kind = 0 ∨ x.kind = 1 ∨ x.kind = 2 then (decide (x.keys.length = 0) && decide (x.kids.length = 0)) && decide (x.n = 0) && decide (x.s = by8 "")
  else if x.kind = 3 then (decide (x.keys.length = 0) && decide (x.kids.length = 0)) && decide (x.s = by8 "") && inR x.n 0 999999999
  else if x.kind = 4 then (decide (x.keys.length = 0) && decide (x.kids.length = 0)) && decide (x.n = 0)
  else if x.kind = 5 then decide (x.keys.length = 0) && decide (x.n = 0) && decide (x.s = by8 "")
  else if x.kind = 6 then decide (x.keys.length = x.kids.length) && decide (x.n = 0) && decide (x.s = by8 "") && (keysNew x.keys && decide (x.keys.length ≤ 600))
  else false
section
variable {E : Env} (hE : E.P = Go.Proofs.Try.prog)
include hE
theorem l01In_fx (x a b : Int) : Fx E 96 [] [.lit (.int .i64 x), .lit (.int .i64 a), .lit (.int .i64 b)] [] (.lit (.bool (inR x a b))) := by
  refine (is96.to hE).fx [] (by simp) rfl rfl ?_
  simp [v96]
  by_cases c1 : a ≤ x
  · simp [c1]
    exact Fin_ret rfl (by simp [inR, c1, reC])
  · simp [c1]
    exact Fin_ret rfl (by simp [inR, c1, reC])
theorem l04Has_fx (l : List ByteArray) (s : ByteArray) (hl : l.length ≤ 1048576) : Fx E 107 [] [.sl ro 1 (l.map fun x => .lit (.string x)), .lit (.string s)] [] (.lit (.bool (hasS l s))) := by
  refine (is107.to hE).fx [] (by simp) rfl rfl ?_
  simp [v107]
  refine X_loop (τ := Nat) (fun i => ⟨[(0, .sl ro 1 (l.map fun x => .lit (.string x))), (1, .lit (.string s)), (5, .lit (.int .i64 i))], []⟩) (fun i => i ≤ l.length ∧ ∀ k x, k < i → l[k]? = some x → x ≠ s) (fun i => l.length - i) 0 (by simp) (Wk.both (by simp [wkL, wkV.same]) trivial) ?_
  rintro i ⟨hi, hall⟩
  simp
  by_cases hlt : i < l.length
  · simp [hlt, ro, mkF]
    by_cases c : l[i] = s
    · simp [c]
      exact Fin_ret rfl (by rw [hasS_true hlt c]; rfl)
    · simp [c]
      refine ⟨i + 1, ⟨by omega, fun k x hk hx => ?_⟩, by omega, Wk.both (by simp [wkL, wkV.same]; rw [wrapN (by omega)]; exact wkV.same _) trivial⟩
      rcases Nat.lt_succ_iff_lt_or_eq.1 hk with h | rfl
      · exact hall k x h hx
      · rw [List.getElem?_eq_getElem hlt] at hx; rw [← Option.some.inj hx]; exact c
  · simp [hlt]
    exact Fin_ret rfl (by rw [hasS_false fun k x hx => hall k x (by have := (List.getElem?_eq_some_iff.1 hx).1; omega) hx]; rfl)
theorem l06Keys_fx (l : List ByteArray) (hl : l.length ≤ 1048576) : Fx E 97 [] [.sl ro 1 (l.map fun x => .lit (.string x))] [] (.lit (.bool (keysNew l && decide (l.length ≤ 600)))) := by
  refine (is97.to hE).fx [] (by simp) rfl rfl ?_
  simp [v97]
  refine X_loop (τ := Nat) (fun i => ⟨[(0, .sl ro 1 (l.map fun x => .lit (.string x))), (3, .lit (.int .i64 i))], []⟩) (fun i => i ≤ l.length ∧ ∀ k, k < i → newAt l k = true) (fun i => l.length - i) 0 (by simp) (Wk.both (by simp [wkL, wkV.same]) trivial) ?_
  rintro i ⟨hi, hall⟩
  simp
  by_cases hlt : i < l.length
  · simp [hlt, hi, ro, mkF, cutB]
    refine vcall_go (l04Has_fx hE (l.take i) l[i] (by simp; omega)) (by simp [ro, List.map_take]) (by simp) (by simp) (by simp) ?_
    simp
    cases c : hasS (l.take i) l[i]
    · simp
      refine ⟨i + 1, ⟨by omega, fun k hk => ?_⟩, by omega, Wk.both (by simp [wkL, wkV.same]; rw [wrapN (by omega)]; exact wkV.same _) trivial⟩
      rcases Nat.lt_succ_iff_lt_or_eq.1 hk with h | rfl
      · exact hall k h
      · rw [newAt_of hlt, c]; rfl
    · simp
      exact Fin_ret rfl (by rw [keysNew, rangeAll_false hlt (by rw [newAt_of hlt, c]; rfl)]; rfl)
  · simp [hlt]
    exact Fin_ret rfl (by rw [keysNew, rangeAll_true fun k hk => hall k (by omega)]; simp [reC]; omega)
theorem l06Own_fx (x : Tr) (hl : x.keys.length ≤ 1048576) : Fx E 81 [] [.agg x.av] [] (.lit (.bool (ownB x))) := by
  refine (is81.to hE).fx [] (by simp) rfl rfl ?_
  simp [v81, Tr.av_eq x, okC]
  have fin : ∀ b : Bool, b = ownB x → AV.lit (.bool (ownB x)) = reC [] (AV.lit (.bool b)) := fun b h => by rw [h]; rfl
  have leaf3 : ∀ (Q : Prop), (∀ c1 c2 : Bool, decide (x.keys = []) = c1 → decide (x.kids = []) = c2 → Q) → Q := fun Q h => h _ _ rfl rfl
  have hk : (x.kind = 0 ∨ x.kind = 1 ∨ x.kind = 2) ∨ x.kind = 3 ∨ x.kind = 4 ∨ x.kind = 5 ∨ x.kind = 6 ∨ (x.kind ≠ 0 ∧ x.kind ≠ 1 ∧ x.kind ≠ 2 ∧ x.kind ≠ 3 ∧ x.kind ≠ 4 ∧ x.kind ≠ 5 ∧ x.kind ≠ 6) := by omega
  rcases hk with hk | hk | hk | hk | hk | hk
  · rcases hk with hk | hk | hk <;> (
    by_cases c1 : x.keys = []
    · simp [c1, mkF]
      by_cases c2 : x.kids = []
      · simp [c2, hk, mkF]
        by_cases c3 : x.n = 0
        · simp [c3, mkF]
          exact Fin_ret rfl (fin _ (by simp [ownB, hk, c1, c2, c3]))
        · simp [c3, mkF]
          exact Fin_ret rfl (fin _ (by simp [ownB, hk, c1, c2, c3]))
      · simp [c2, hk, mkF]
        exact Fin_ret rfl (fin _ (by simp [ownB, hk, c1, c2]))
    · simp [c1, hk, mkF]
      exact Fin_ret rfl (fin _ (by simp [ownB, hk, c1])))
  · by_cases c1 : x.keys = []
    · simp [c1, mkF]
      by_cases c2 : x.kids = []
      · simp [c2, hk, mkF]
        by_cases c3 : x.s = by8 ""
        · simp [c3, mkF]
          refine vcall_go (l01In_fx hE x.n 0 999999999) (by simp) (by simp) (by simp) (by simp) ?_
          simp
          exact Fin_ret rfl (fin _ (by simp [ownB, hk, c1, c2, c3]))
        · simp [c3, mkF]
          exact Fin_ret rfl (fin _ (by simp [ownB, hk, c1, c2, c3]))
      · simp [c2, hk, mkF]
        exact Fin_ret rfl (fin _ (by simp [ownB, hk, c1, c2]))
    · simp [c1, hk, mkF]
      exact Fin_ret rfl (fin _ (by simp [ownB, hk, c1]))
  · by_cases c1 : x.keys = []
    · simp [c1, mkF]
      by_cases c2 : x.kids = []
      · simp [c2, hk, mkF]
        exact Fin_ret rfl (fin _ (by simp [ownB, hk, c1, c2]))
      · simp [c2, hk, mkF]
        exact Fin_ret rfl (fin _ (by simp [ownB, hk, c1, c2]))
    · simp [c1, hk, mkF]
      exact Fin_ret rfl (fin _ (by simp [ownB, hk, c1]))
  · by_cases c1 : x.keys = []
    · simp [c1, hk, mkF]
      by_cases c2 : x.n = 0
      · simp [c2, mkF]
        exact Fin_ret rfl (fin _ (by simp [ownB, hk, c1, c2]))
      · simp [c2, mkF]
        exact Fin_ret rfl (fin _ (by simp [ownB, hk, c1, c2]))
    · simp [c1, hk, mkF]
      exact Fin_ret rfl (fin _ (by simp [ownB, hk, c1]))
  · by_cases c1 : x.keys = []
    · simp [c1, mkF]
      by_cases c2 : x.kids = []
      · simp [c2, hk, mkF]
        by_cases c3 : x.n = 0
        · simp [c3, mkF]
          by_cases c4 : x.s = by8 ""
          · simp [c4, mkF]
            refine vcall_go (l06Keys_fx hE x.keys hl) (by simp [c1, ro]) (by simp) (by simp) (by simp) ?_
            simp
            exact Fin_ret rfl (fin _ (by simp [ownB, hk, c1, c2, c3, c4]))
          · simp [c4, mkF]
            exact Fin_ret rfl (fin _ (by simp [ownB, hk, c1, c2, c3, c4]))
        · simp [c3, mkF]
          exact Fin_ret rfl (fin _ (by simp [ownB, hk, c1, c2, c3]))
      · have c2' : ¬ ((0 : Int) = x.kids.length) := by
          intro h; exact c2 (List.length_eq_zero_iff.1 (by omega))
        simp [c2, hk, mkF, c2']
        exact Fin_ret rfl (fin _ (by simp [ownB, hk, c1, eq_comm (a := (0:Nat)), c2]))
    · by_cases c5 : x.keys.length = x.kids.length
      · simp [c1, hk, c5, mkF]
        by_cases c3 : x.n = 0
        · simp [c3, mkF]
          by_cases c4 : x.s = by8 ""
          · simp [c4, mkF]
            refine vcall_go (l06Keys_fx hE x.keys hl) (by simp [ro]) (by simp) (by simp) (by simp) ?_
            simp
            exact Fin_ret rfl (fin _ (by simp [ownB, hk, c5, c3, c4]))
          · simp [c4, mkF]
            exact Fin_ret rfl (fin _ (by simp [ownB, hk, c5, c3, c4]))
        · simp [c3, mkF]
          exact Fin_ret rfl (fin _ (by simp [ownB, hk, c5, c3]))
      · have c5' : ¬ ((x.keys.length : Int) = x.kids.length) := by omega
        simp [c1, hk, c5', mkF]
        exact Fin_ret rfl (fin _ (by simp [ownB, hk, c5]))
  · obtain ⟨h0, h1, h2, h3, h4, h5, h6⟩ := hk
    by_cases c1 : x.keys = []
    · simp [c1, h0, h1, h2, h3, h4, h5, h6, mkF]
      exact Fin_ret rfl (fin _ (by simp [ownB, h0, h1, h2, h3, h4, h5, h6]))
    · simp [c1, h0, h1, h2, h3, h4, h5, h6, mkF]
      exact Fin_ret rfl (fin _ (by simp [ownB, h0, h1, h2, h3, h4, h5, h6]))
end
def rightN : Nat → Tr → Int → Bool
  | 0, _, _ => false
  | m + 1, x, d => x.kids.all (fun y => rightN m y (d - 1)) && (decide (0 ≤ d) && ownB x)
theorem all_false {α : Type} {p : α → Bool} {l : List α} {i : Nat} (h : i < l.length) (hp : p l[i] = false) : l.all p = false := by
  rw [List.all_eq_false]; exact ⟨l[i], List.getElem_mem h, by simp [hp]⟩
theorem all_true {α : Type} {p : α → Bool} {l : List α} (h : ∀ (i : Nat) (x : α), l[i]? = some x → p x = true) : l.all p = true := by
  rw [List.all_eq_true]; intro x hx
  obtain ⟨k, hk, rfl⟩ := List.getElem_of_mem hx
  exact h k _ (List.getElem?_eq_getElem hk)
theorem Tr.cntL_take : ∀ (l : List Tr) (i : Nat) (h : i < l.length), Tr.cntL (l.take (i + 1)) = Tr.cntL (l.take i) + l[i].cnt
  | [], i, h => by simp at h
  | x :: l, 0, h => by simp [Tr.cntL_cons, Tr.cntL_nil]
  | x :: l, i + 1, h => by
    have := Tr.cntL_take l i (by simpa using h)
    simp only [List.take_succ_cons, Tr.cntL_cons, List.getElem_cons_succ]
    omega
theorem Tr.cntL_take_le : ∀ (l : List Tr) (i : Nat), Tr.cntL (l.take i) ≤ Tr.cntL l
  | [], i => by simp
  | x :: l, 0 => by simp [Tr.cntL_nil]
  | x :: l, i + 1 => by
    have := Tr.cntL_take_le l i
    simp only [List.take_succ_cons, Tr.cntL_cons]; omega
section
variable {E : Env} (hE : E.P = Go.Proofs.Try.prog)
include hE
theorem l06Right_fx : ∀ (m : Nat) (x : Tr) (d : Int), x.fitN m → (m : Int) ≤ d + 4611686018427387904 → d ≤ 100 → Fx E 47 [] [.agg x.av, .lit (.int .i64 d)] [] (.lit (.bool (rightN m x d)))
  | 0, x, d, hg, _, _ => hg.elim
  | m + 1, x, d, hg, h1, h2 => by
    obtain ⟨g1, g2, g3, g4, g5⟩ := hg
    refine (is47.to hE).fx [] (by simp) rfl rfl ?_
    simp [v47, Tr.av_eq x, okC]
    refine X_loop (τ := Nat) (fun i => ⟨[(1, .lit (.int .i64 d)), (2, .ptr 1002 0 0), (5, .lit (.int .i64 i))], [(1002, [.agg x.av])]⟩) (fun i => i ≤ x.kids.length ∧ ∀ (k : Nat) (y : Tr), k < i → x.kids[k]? = some y → rightN m y (d - 1) = true) (fun i => x.kids.length - i) 0 (by simp) (Wk.both (by simp [wkL, wkV.same]) (by simp [wkB, Tr.av_eq x])) ?_
    rintro i ⟨hi, hall⟩
    simp [Tr.av_eq x, mkF]
    by_cases hlt : i < x.kids.length
    · simp [hlt, ro, mkF, Tr.len, Tr.pl]
      rw [wrap_i64 (by omega) (by omega)]
      refine vcall_go (l06Right_fx m x.kids[i] (d - 1) (g5 _ (List.getElem_mem hlt)) (by omega) (by omega)) (by simp [Tr.len, List.take_of_length_le, Tr.pl]) (by simp) (by simp [Tr.av_eq x]) (by simp) ?_
      simp
      cases c : rightN m x.kids[i] (d - 1)
      · simp
        exact Fin_ret rfl (by rw [rightN, all_false hlt c]; rfl)
      · simp
        refine ⟨i + 1, ⟨by omega, fun k y hk hy => ?_⟩, by omega, Wk.both (by simp [wkL, wkV.same]; rw [wrapN (by omega)]; exact wkV.same _) (by simp [wkB, Tr.av_eq x, ro])⟩
        rcases Nat.lt_succ_iff_lt_or_eq.1 hk with h | rfl
        · exact hall k y h hy
        · rw [List.getElem?_eq_getElem hlt] at hy; rw [← Option.some.inj hy]; exact c
    · have ha : x.kids.all (fun y => rightN m y (d - 1)) = true := all_true fun k y hy => hall k y (by have := (List.getElem?_eq_some_iff.1 hy).1; omega) hy
      simp [hlt, ro, mkF]
      by_cases c : 0 ≤ d
      · simp [c, mkF]
        refine vcall_go (l06Own_fx hE x g1) (by simp [Tr.av_eq x, ro]) (by simp) (by simp) (by simp) ?_
        simp
        exact Fin_ret rfl (by simp [rightN, ha, c, reC])
      · simp [c, mkF]
        exact Fin_ret rfl (by simp [rightN, ha, c, reC])
theorem l06Nodes_fx : ∀ (m : Nat) (x : Tr), x.fitN m → x.cnt ≤ 1099511627776 → Fx E 48 [] [.agg x.av] [] (.lit (.int .i64 x.cnt))
  | 0, x, hg, _ => hg.elim
  | m + 1, x, hg, hc => by
    obtain ⟨g1, g2, g3, g4, g5⟩ := hg
    refine (is48.to hE).fx [] (by simp) rfl rfl ?_
    simp [v48, Tr.av_eq x, okC]
    refine X_loop (τ := Nat) (fun i => ⟨[(1, .ptr 1001 0 0), (3, .lit (.int .i64 (1 + Tr.cntL (x.kids.take i) : Nat))), (4, .lit (.int .i64 i))], [(1001, [.agg x.av])]⟩) (fun i => i ≤ x.kids.length) (fun i => x.kids.length - i) 0 (by simp) (Wk.both (by simp [wkL, wkV.same, Tr.cntL_nil]) (by simp [wkB, Tr.av_eq x])) ?_
    rintro i hi
    simp [Tr.av_eq x, mkF]
    have hcx := Tr.cnt_eq x
    by_cases hlt : i < x.kids.length
    · have ht := Tr.cntL_take x.kids i hlt
      have hle := Tr.cntL_take_le x.kids (i + 1)
      simp [hlt, ro, mkF, Tr.len, Tr.pl]
      refine vcall_go (l06Nodes_fx m x.kids[i] (g5 _ (List.getElem_mem hlt)) (by omega)) (by simp [Tr.len, List.take_of_length_le, Tr.pl]) (by simp) (by simp [Tr.av_eq x]) (by simp) ?_
      simp
      rw [wrap_i64 (by omega) (by omega)]
      have e : (1 + (Tr.cntL (x.kids.take i) : Int) + (x.kids[i].cnt : Int)) = 1 + ((Tr.cntL (x.kids.take (i + 1)) : Nat) : Int) := by omega
      rw [e]
      exact ⟨i + 1, by omega, by omega, Wk.both (by simp [wkL, wkV.same]; rw [wrapN (by omega)]; exact wkV.same _) (by simp [wkB, Tr.av_eq x, ro])⟩
    · obtain rfl : i = x.kids.length := by omega
      simp [hlt, ro, mkF]
      exact Fin_ret rfl (by simp [reC, hcx])
theorem specTreeOk_fx (m : Nat) (x : Tr) (hg : x.fitN m) (hm : m ≤ 1099511627776) (hc : x.cnt ≤ 1099511627776) : Fx E 9 [] [.agg x.av] [] (.lit (.bool (rightN m x 8 && decide (x.cnt ≤ 600)))) := by
  refine (is9.to hE).fx [] (by simp) rfl rfl ?_
  simp [v9, Tr.av_eq x, okC, mkF]
  refine vcall_go (l06Right_fx hE m x 8 hg (by omega) (by omega)) (by simp [Tr.av_eq x, ro]) (by simp) (by simp) (by simp) ?_
  simp
  cases c : rightN m x 8
  · simp [mkF]
    exact Fin_ret rfl rfl
  · simp [mkF]
    refine vcall_go (l06Nodes_fx hE m x hg hc) (by simp [Tr.av_eq x, ro]) (by simp) (by simp) (by simp) ?_
    simp
    exact Fin_ret rfl (by simp [reC]; omega)
end
end Go.Proofs.Ytpopccnnjpdmlaa.Vm
