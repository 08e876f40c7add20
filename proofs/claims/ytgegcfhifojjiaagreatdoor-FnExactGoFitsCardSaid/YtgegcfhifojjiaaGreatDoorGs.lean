/- The sums that Go keeps, written: both sides. -/
import Derived.Test.YtgegcfhifojjiaaGreatDoorGg
import Derived.Test.YtgegcfhifojjiaaGreatDoorB6
namespace Go.Proofs.YtgegcfhifojjiaaGreatDoor.Vm
open Go Go.RowKit
set_option linter.unusedVariables false
set_option linter.unusedSimpArgs false
def v63 : VC := .seq (.reg false [⟨some 1, .box 2 (.t 0), none⟩, ⟨some 2, .as (.c (.lit (.bool false))), none⟩] [2]) (.seq (.seq (.reg false [⟨some 3, .as (.c (.lit (.int .i64 0))), none⟩] []) (.block 0 (.loop (.seq (.seq (.reg false [⟨some 4, .mv (.t 3), none⟩, ⟨some 5, .fa 1 (.t 1), none⟩, ⟨some 6, .ld false 1 (.t 5), none⟩, ⟨some 7, .len false (.t 6), none⟩, ⟨some 8, .bin .lss 0 (.t 4) (.t 7), none⟩] [4, 5, 6, 7]) (.cond (.t 8) (.skip) (.exit 0))) (.seq (.block 1 (.seq (.reg false [⟨some 11, .fa 1 (.t 1), none⟩, ⟨some 12, .ld false 1 (.t 11), none⟩, ⟨some 13, .mv (.t 3), none⟩, ⟨some 14, .ia 6 (.t 12) (.t 13), none⟩, ⟨some 15, .fa 5 (.t 14), none⟩, ⟨some 16, .ld false 1 (.t 15), none⟩, ⟨some 17, .len false (.t 16), none⟩, ⟨some 18, .bin .gtr 0 (.t 17) (.c (.lit (.int .i64 0))), none⟩, ⟨some 19, .mv (.t 18), none⟩, ⟨some 20, .fa 1 (.t 1), (some (19, false))⟩, ⟨some 21, .ld false 1 (.t 20), (some (19, false))⟩, ⟨some 22, .mv (.t 3), (some (19, false))⟩, ⟨some 23, .ia 6 (.t 21) (.t 22), (some (19, false))⟩, ⟨some 24, .fa 2 (.t 23), (some (19, false))⟩, ⟨some 25, .ld false 1 (.t 24), (some (19, false))⟩, ⟨some 26, .bin .neq 0 (.t 25) (.c (.lit (.string (by8 "")))), (some (19, false))⟩, ⟨some 27, .pick (.t 19) (.c (.lit (.bool true))) (.t 26), none⟩] [11, 12, 13, 14, 15, 16, 17, 18, 19, 20, 21, 22, 23, 24, 25, 26]) (.cond (.t 27) (.seq (.reg false [⟨some 2, .as (.c (.lit (.bool false))), none⟩] []) (.ret)) (.skip)))) (.reg false [⟨some 9, .mv (.t 3), none⟩, ⟨some 10, .bin .add 0 (.t 9) (.c (.lit (.int .i64 1))), none⟩, ⟨some 3, .as (.t 10), none⟩] [9, 10])))))) (.seq (.reg false [⟨some 28, .ld true 2 (.t 1), none⟩, ⟨some 29, .call false 71 [(.t 28)], none⟩, ⟨some 30, .mv (.t 29), none⟩, ⟨some 31, .fa 0 (.t 1), (some (30, true))⟩, ⟨some 32, .ld false 1 (.t 31), (some (30, true))⟩, ⟨some 33, .len false (.t 32), (some (30, true))⟩, ⟨some 34, .bin .eql 0 (.t 33) (.c (.lit (.int .i64 0))), (some (30, true))⟩, ⟨some 35, .pick (.t 30) (.t 34) (.c (.lit (.bool false))), none⟩, ⟨some 2, .as (.t 35), none⟩] [28, 29, 30, 31, 32, 33, 34, 35]) (.ret)))
theorem is63 : Is Go.Proofs.Tryz.prog 63 36 v63 [.t 2] := ⟨Go.Proofs.Tryz.f63, dl [(0, [2]), (2, [4, 5, 6, 7]), (4, [11, 12, 13, 14, 15, 16, 17, 18, 19, 20, 21, 22, 23, 24, 25, 26]), (3, [9, 10]), (6, [28, 29, 30, 31, 32, 33, 34, 35])], Go.Proofs.Tryz.func63, by kernel_rfl, by kernel_rfl, by kernel_rfl, by kernel_rfl⟩
def v64 : VC := .seq (.reg false [⟨some 2, .box 6 (.t 0), none⟩, ⟨some 4, .as (.c (.lit (.bool false))), none⟩, ⟨some 5, .as (.c (.lit (.bool false))), none⟩] [4, 5]) (.seq (.seq (.reg false [⟨some 6, .as (.c (.lit (.int .i64 0))), none⟩] []) (.block 0 (.loop (.seq (.seq (.reg false [⟨some 7, .mv (.t 6), none⟩, ⟨some 8, .fa 3 (.t 2), none⟩, ⟨some 9, .ld false 1 (.t 8), none⟩, ⟨some 10, .len false (.t 9), none⟩, ⟨some 11, .bin .lss 0 (.t 7) (.t 10), none⟩] [7, 8, 9, 10]) (.cond (.t 11) (.skip) (.exit 0))) (.seq (.block 1 (.seq (.reg false [⟨some 14, .fa 3 (.t 2), none⟩, ⟨some 15, .ld false 1 (.t 14), none⟩, ⟨some 16, .mv (.t 6), none⟩, ⟨some 17, .ia 2 (.t 15) (.t 16), none⟩, ⟨some 18, .fa 0 (.t 17), none⟩, ⟨some 19, .ld false 1 (.t 18), none⟩, ⟨some 20, .mv (.t 1), none⟩, ⟨some 21, .bin .neq 0 (.t 19) (.t 20), none⟩] [14, 15, 16, 17, 18, 19, 20]) (.cond (.t 21) (.seq (.reg false [⟨some 4, .as (.c (.lit (.bool false))), none⟩, ⟨some 5, .as (.c (.lit (.bool false))), none⟩] []) (.ret)) (.skip)))) (.reg false [⟨some 12, .mv (.t 6), none⟩, ⟨some 13, .bin .add 0 (.t 12) (.c (.lit (.int .i64 1))), none⟩, ⟨some 6, .as (.t 13), none⟩] [12, 13])))))) (.seq (.reg true [⟨some 22, .fa 3 (.t 2), none⟩, ⟨some 23, .ld false 1 (.t 22), none⟩, ⟨some 24, .len false (.t 23), none⟩, ⟨some 25, .bin .eql 0 (.t 24) (.c (.lit (.int .i64 1))), none⟩, ⟨some 4, .as (.c (.lit (.bool true))), none⟩, ⟨some 5, .as (.t 25), none⟩] [22, 23, 24, 25]) (.ret)))
theorem is64 : Is Go.Proofs.Tryz.prog 64 26 v64 [.t 4, .t 5] := ⟨Go.Proofs.Tryz.f64, dl [(0, [4, 5]), (2, [7, 8, 9, 10]), (4, [14, 15, 16, 17, 18, 19, 20]), (3, [12, 13]), (6, [22, 23, 24, 25])], Go.Proofs.Tryz.func64, by kernel_rfl, by kernel_rfl, by kernel_rfl, by kernel_rfl⟩
def v19 : VC := .seq (.reg false [⟨some 1, .box 2 (.t 0), none⟩, ⟨some 2, .as (.c (.lit (.string (by8 "")))), none⟩, ⟨some 3, .as (.c (.lit (.bool false))), none⟩] [2, 3]) (.seq (.reg false [⟨some 4, .as (.c (.lit (.string (by8 "")))), none⟩] []) (.seq (.seq (.reg false [⟨some 9, .ld true 2 (.t 1), none⟩, ⟨some 10, .call false 63 [(.t 9)], none⟩, ⟨some 11, .un .not (.t 10), none⟩] [9, 10]) (.cond (.t 11) (.seq (.reg false [⟨some 2, .as (.c (.lit (.string (by8 "")))), none⟩, ⟨some 3, .as (.c (.lit (.bool false))), none⟩] []) (.ret)) (.skip))) (.seq (.seq (.reg false [⟨some 5, .as (.c (.lit (.int .i64 0))), none⟩] []) (.block 0 (.loop (.seq (.seq (.reg false [⟨some 12, .mv (.t 5), none⟩, ⟨some 13, .fa 1 (.t 1), none⟩, ⟨some 14, .ld false 1 (.t 13), none⟩, ⟨some 15, .len false (.t 14), none⟩, ⟨some 16, .bin .lss 0 (.t 12) (.t 15), none⟩] [12, 13, 14, 15]) (.cond (.t 16) (.skip) (.exit 0))) (.seq (.block 1 (.seq (.reg false [⟨some 19, .fa 1 (.t 1), none⟩, ⟨some 20, .ld false 1 (.t 19), none⟩, ⟨some 21, .mv (.t 5), none⟩, ⟨some 22, .ia 6 (.t 20) (.t 21), none⟩, ⟨some 23, .ld true 6 (.t 22), none⟩, ⟨some 6, .alloc (.agg [(.lit (.string (by8 ""))), (.lit (.string (by8 ""))), (.lit (.string (by8 ""))), (.sl ⟨.nl, true⟩ 1 []), (.lit (.bool false)), (.sl ⟨.nl, true⟩ 1 [])]), none⟩, ⟨none, .st 6 (.t 6) (.t 23), none⟩] [19, 20, 21, 22, 23]) (.seq (.reg false [⟨some 25, .ld true 6 (.t 6), none⟩, ⟨some 26, .call false 64 [(.t 25), (.c (.lit (.string (by8 "h1"))))], none⟩, ⟨some 24, .mv (.t 26), none⟩, ⟨some 27, .ext (.t 24) 0, none⟩, ⟨some 28, .ext (.t 24) 1, none⟩, ⟨some 7, .as (.t 27), none⟩, ⟨some 8, .as (.t 28), none⟩] [25, 26, 24, 27, 28]) (.seq (.seq (.reg false [⟨some 29, .mv (.t 7), none⟩, ⟨some 30, .un .not (.t 29), none⟩, ⟨some 31, .mv (.t 30), none⟩, ⟨some 32, .mv (.t 8), (some (31, false))⟩, ⟨some 33, .un .not (.t 32), (some (31, false))⟩, ⟨some 34, .pick (.t 31) (.c (.lit (.bool true))) (.t 33), none⟩, ⟨some 35, .mv (.t 34), none⟩, ⟨some 36, .fa 4 (.t 6), (some (35, false))⟩, ⟨some 37, .ld false 1 (.t 36), (some (35, false))⟩, ⟨some 38, .pick (.t 35) (.c (.lit (.bool true))) (.t 37), none⟩] [29, 30, 31, 32, 33, 34, 35, 36, 37]) (.cond (.t 38) (.seq (.reg false [⟨some 2, .as (.c (.lit (.string (by8 "")))), none⟩, ⟨some 3, .as (.c (.lit (.bool false))), none⟩] []) (.ret)) (.skip))) (.reg true [⟨some 39, .mv (.t 4), none⟩, ⟨some 40, .fa 0 (.t 6), none⟩, ⟨some 41, .ld false 1 (.t 40), none⟩, ⟨some 42, .bin .add 0 (.t 39) (.t 41), none⟩, ⟨some 43, .bin .add 0 (.t 42) (.c (.lit (.string (by8 " v")))), none⟩, ⟨some 44, .fa 1 (.t 6), none⟩, ⟨some 45, .ld false 1 (.t 44), none⟩, ⟨some 46, .bin .add 0 (.t 43) (.t 45), none⟩, ⟨some 47, .bin .add 0 (.t 46) (.c (.lit (.string (by8 " h1:")))), none⟩, ⟨some 48, .fa 3 (.t 6), none⟩, ⟨some 49, .ld false 1 (.t 48), none⟩, ⟨some 50, .ia 2 (.t 49) (.c (.lit (.int .i64 0))), none⟩, ⟨some 51, .fa 1 (.t 50), none⟩, ⟨some 52, .ld false 1 (.t 51), none⟩, ⟨some 53, .call true 65 [(.t 52)], none⟩, ⟨some 54, .bin .add 0 (.t 47) (.t 53), none⟩, ⟨some 55, .bin .add 0 (.t 54) (.c (.lit (.string ⟨#[10]⟩))), none⟩, ⟨some 4, .as (.t 55), none⟩] [39, 40, 41, 42, 43, 44, 45, 46, 47, 48, 49, 50, 51, 52, 53, 54, 55]))))) (.reg false [⟨some 17, .mv (.t 5), none⟩, ⟨some 18, .bin .add 0 (.t 17) (.c (.lit (.int .i64 1))), none⟩, ⟨some 5, .as (.t 18), none⟩] [17, 18])))))) (.seq (.reg false [⟨some 56, .mv (.t 4), none⟩, ⟨some 2, .as (.t 56), none⟩, ⟨some 3, .as (.c (.lit (.bool true))), none⟩] [56]) (.ret)))))
theorem is19 : Is Go.Proofs.Tryz.prog 19 57 v19 [.t 2, .t 3] := ⟨Go.Proofs.Tryz.f19, dl [(0, [2, 3]), (2, [9, 10]), (5, [12, 13, 14, 15]), (7, [19, 20, 21, 22, 23]), (8, [25, 26, 24, 27, 28]), (9, [29, 30, 31, 32, 33, 34, 35, 36, 37]), (11, [39, 40, 41, 42, 43, 44, 45, 46, 47, 48, 49, 50, 51, 52, 53, 54, 55]), (6, [17, 18]), (12, [56])], Go.Proofs.Tryz.func19, by kernel_rfl, by kernel_rfl, by kernel_rfl, by kernel_rfl⟩
def v23 : VC := .seq (.reg false [⟨some 1, .box 2 (.t 0), none⟩, ⟨some 2, .as (.c (.lit (.bool false))), none⟩] [2]) (.seq (.reg false [⟨some 6, .ld true 2 (.t 1), none⟩, ⟨some 7, .call false 19 [(.t 6)], none⟩, ⟨some 5, .mv (.t 7), none⟩, ⟨some 8, .ext (.t 5) 0, none⟩, ⟨some 9, .ext (.t 5) 1, none⟩, ⟨some 3, .as (.t 8), none⟩, ⟨some 4, .as (.t 9), none⟩] [6, 7, 5, 8, 9, 3]) (.seq (.reg false [⟨some 10, .mv (.t 4), none⟩, ⟨some 2, .as (.t 10), none⟩] [10]) (.ret)))
theorem is23 : Is Go.Proofs.Tryz.prog 23 11 v23 [.t 2] := ⟨Go.Proofs.Tryz.f23, dl [(0, [2]), (1, [6, 7, 5, 8, 9, 3]), (2, [10])], Go.Proofs.Tryz.func23, by kernel_rfl, by kernel_rfl, by kernel_rfl, by kernel_rfl⟩
def v21 : VC := .seq (.reg false [⟨some 1, .box 2 (.t 0), none⟩, ⟨some 2, .as (.c (.lit (.string (by8 "")))), none⟩, ⟨some 3, .as (.c (.lit (.bool false))), none⟩] [2, 3]) (.seq (.seq (.reg false [⟨some 7, .ld true 2 (.t 1), none⟩, ⟨some 8, .call false 68 [(.t 7)], none⟩, ⟨some 9, .un .not (.t 8), none⟩, ⟨some 10, .mv (.t 9), none⟩, ⟨some 11, .fa 0 (.t 1), (some (10, false))⟩, ⟨some 12, .ld false 1 (.t 11), (some (10, false))⟩, ⟨some 13, .len false (.t 12), (some (10, false))⟩, ⟨some 14, .bin .gtr 0 (.t 13) (.c (.lit (.int .i64 0))), (some (10, false))⟩, ⟨some 15, .pick (.t 10) (.c (.lit (.bool true))) (.t 14), none⟩] [7, 8, 9, 10, 11, 12, 13, 14]) (.cond (.t 15) (.seq (.reg false [⟨some 2, .as (.c (.lit (.string (by8 "")))), none⟩, ⟨some 3, .as (.c (.lit (.bool false))), none⟩] []) (.ret)) (.skip))) (.seq (.reg false [⟨some 4, .as (.c (.lit (.string (by8 "")))), none⟩] []) (.seq (.seq (.reg false [⟨some 16, .fa 1 (.t 1), none⟩, ⟨some 17, .ld false 1 (.t 16), none⟩, ⟨some 18, .len false (.t 17), none⟩, ⟨some 19, .mv (.c (.lit (.int .i64 0))), none⟩] [16]) (.block 0 (.loop (.seq (.reg false [⟨some 20, .bin .lss 0 (.t 19) (.t 18), none⟩] []) (.seq (.cond (.t 20) (.skip) (.exit 0)) (.seq (.block 1 (.seq (.reg false [⟨some 21, .ia 6 (.t 17) (.t 19), none⟩, ⟨some 22, .ld true 6 (.t 21), none⟩, ⟨some 6, .alloc (.agg [(.lit (.string (by8 ""))), (.lit (.string (by8 ""))), (.lit (.string (by8 ""))), (.sl ⟨.nl, true⟩ 1 []), (.lit (.bool false)), (.sl ⟨.nl, true⟩ 1 [])]), none⟩, ⟨none, .st 6 (.t 6) (.t 22), none⟩] [21, 22]) (.seq (.seq (.reg false [⟨some 23, .fa 4 (.t 6), none⟩, ⟨some 24, .ld false 1 (.t 23), none⟩, ⟨some 25, .mv (.t 24), none⟩, ⟨some 26, .fa 2 (.t 6), (some (25, false))⟩, ⟨some 27, .ld false 1 (.t 26), (some (25, false))⟩, ⟨some 28, .bin .neq 0 (.t 27) (.c (.lit (.string (by8 "")))), (some (25, false))⟩, ⟨some 29, .pick (.t 25) (.c (.lit (.bool true))) (.t 28), none⟩, ⟨some 30, .mv (.t 29), none⟩, ⟨some 31, .fa 5 (.t 6), (some (30, false))⟩, ⟨some 32, .ld false 1 (.t 31), (some (30, false))⟩, ⟨some 33, .len false (.t 32), (some (30, false))⟩, ⟨some 34, .bin .gtr 0 (.t 33) (.c (.lit (.int .i64 0))), (some (30, false))⟩, ⟨some 35, .pick (.t 30) (.c (.lit (.bool true))) (.t 34), none⟩, ⟨some 36, .mv (.t 35), none⟩, ⟨some 37, .fa 3 (.t 6), (some (36, false))⟩, ⟨some 38, .ld false 1 (.t 37), (some (36, false))⟩, ⟨some 39, .len false (.t 38), (some (36, false))⟩, ⟨some 40, .bin .neq 0 (.t 39) (.c (.lit (.int .i64 1))), (some (36, false))⟩, ⟨some 41, .pick (.t 36) (.c (.lit (.bool true))) (.t 40), none⟩, ⟨some 42, .mv (.t 41), none⟩, ⟨some 43, .fa 3 (.t 6), (some (42, false))⟩, ⟨some 44, .ld false 1 (.t 43), (some (42, false))⟩, ⟨some 45, .ia 2 (.t 44) (.c (.lit (.int .i64 0))), (some (42, false))⟩, ⟨some 46, .fa 0 (.t 45), (some (42, false))⟩, ⟨some 47, .ld false 1 (.t 46), (some (42, false))⟩, ⟨some 48, .bin .neq 0 (.t 47) (.c (.lit (.string (by8 "h1")))), (some (42, false))⟩, ⟨some 49, .pick (.t 42) (.c (.lit (.bool true))) (.t 48), none⟩] [23, 24, 25, 26, 27, 28, 29, 30, 31, 32, 33, 34, 35, 36, 37, 38, 39, 40, 41, 42, 43, 44, 45, 46, 47, 48]) (.cond (.t 49) (.seq (.reg false [⟨some 2, .as (.c (.lit (.string (by8 "")))), none⟩, ⟨some 3, .as (.c (.lit (.bool false))), none⟩] []) (.ret)) (.skip))) (.reg true [⟨some 50, .mv (.t 4), none⟩, ⟨some 51, .fa 0 (.t 6), none⟩, ⟨some 52, .ld false 1 (.t 51), none⟩, ⟨some 53, .bin .add 0 (.t 52) (.c (.lit (.string (by8 " v")))), none⟩, ⟨some 54, .fa 1 (.t 6), none⟩, ⟨some 55, .ld false 1 (.t 54), none⟩, ⟨some 56, .bin .add 0 (.t 53) (.t 55), none⟩, ⟨some 57, .bin .add 0 (.t 56) (.c (.lit (.string (by8 " h1:")))), none⟩, ⟨some 58, .fa 3 (.t 6), none⟩, ⟨some 59, .ld false 1 (.t 58), none⟩, ⟨some 60, .ia 2 (.t 59) (.c (.lit (.int .i64 0))), none⟩, ⟨some 61, .fa 1 (.t 60), none⟩, ⟨some 62, .ld false 1 (.t 61), none⟩, ⟨some 63, .call true 69 [(.t 62)], none⟩, ⟨some 64, .bin .add 0 (.t 57) (.t 63), none⟩, ⟨some 65, .bin .add 0 (.t 64) (.c (.lit (.string ⟨#[10]⟩))), none⟩, ⟨some 66, .bin .add 0 (.t 50) (.t 65), none⟩, ⟨some 4, .as (.t 66), none⟩] [50, 51, 52, 53, 54, 55, 56, 57, 58, 59, 60, 61, 62, 63, 64, 65, 66])))) (.reg false [⟨some 67, .bin .add 0 (.t 19) (.c (.lit (.int .i64 1))), none⟩, ⟨some 19, .mv (.t 67), none⟩] [67]))))))) (.seq (.reg false [⟨some 68, .mv (.t 4), none⟩, ⟨some 2, .as (.t 68), none⟩, ⟨some 3, .as (.c (.lit (.bool true))), none⟩] [68]) (.ret)))))
theorem is21 : Is Go.Proofs.Tryz.prog 21 69 v21 [.t 2, .t 3] := ⟨Go.Proofs.Tryz.f21, dl [(0, [2, 3]), (1, [7, 8, 9, 10, 11, 12, 13, 14]), (4, [16]), (6, [21, 22]), (7, [23, 24, 25, 26, 27, 28, 29, 30, 31, 32, 33, 34, 35, 36, 37, 38, 39, 40, 41, 42, 43, 44, 45, 46, 47, 48]), (9, [50, 51, 52, 53, 54, 55, 56, 57, 58, 59, 60, 61, 62, 63, 64, 65, 66]), (10, [67]), (11, [68])], Go.Proofs.Tryz.func21, by kernel_rfl, by kernel_rfl, by kernel_rfl, by kernel_rfl⟩
def v24 : VC := .seq (.reg false [⟨some 1, .box 2 (.t 0), none⟩, ⟨some 2, .as (.c (.lit (.bool false))), none⟩] [2]) (.seq (.reg false [⟨some 6, .ld true 2 (.t 1), none⟩, ⟨some 7, .call false 21 [(.t 6)], none⟩, ⟨some 5, .mv (.t 7), none⟩, ⟨some 8, .ext (.t 5) 0, none⟩, ⟨some 9, .ext (.t 5) 1, none⟩, ⟨some 3, .as (.t 8), none⟩, ⟨some 4, .as (.t 9), none⟩] [6, 7, 5, 8, 9, 3]) (.seq (.reg false [⟨some 10, .mv (.t 4), none⟩, ⟨some 2, .as (.t 10), none⟩] [10]) (.ret)))
theorem is24 : Is Go.Proofs.Tryz.prog 24 11 v24 [.t 2] := ⟨Go.Proofs.Tryz.f24, dl [(0, [2]), (1, [6, 7, 5, 8, 9, 3]), (2, [10])], Go.Proofs.Tryz.func24, by kernel_rfl, by kernel_rfl, by kernel_rfl, by kernel_rfl⟩
def h1B : ByteArray := by8 "h1"
def bareAt (l : List Pk) (i : Nat) : Bool := decide ((l.getD i pk0).needs.length = 0) && decide ((l.getD i pk0).source = by8 "")
noncomputable def bare (g : Gr) : Bool := allN g.packs.length (bareAt g.packs) && graphOk g && decide (g.top.length = 0)
def onlyAt (l : List Sm) (a : ByteArray) (i : Nat) : Bool := decide ((l.getD i sm0).alg = a)
def gsAt (l : List Pk) (i : Nat) : Bool := decide ((l.getD i pk0).sums.length = 1) && decide (((l.getD i pk0).sums.getD 0 sm0).alg = h1B) && !(l.getD i pk0).dev
def gsLine (o : ByteArray) (p : Pk) : ByteArray := o ++ p.name ++ by8 " v" ++ p.version ++ by8 " h1:" ++ b64 (p.sums.getD 0 sm0).bytes ++ ⟨#[10]⟩
def gsTo (l : List Pk) : Nat → ByteArray
  | 0 => by8 ""
  | n + 1 => gsLine (gsTo l n) (l.getD n pk0)
noncomputable def gsOk (g : Gr) : Bool := bare g && allN g.packs.length (gsAt g.packs)
noncomputable def gsB (g : Gr) : ByteArray := if gsOk g then gsTo g.packs g.packs.length else by8 ""
noncomputable def gsRes (g : Gr) : AV := .tup [.lit (.string (gsB g)), .lit (.bool (gsOk g))]
theorem gsNo {g : Gr} (h : gsOk g = false) : gsRes g = .tup [.lit (.string (by8 "")), .lit (.bool false)] := by simp [gsRes, gsB, h]
theorem gsYes {g : Gr} (h : gsOk g = true) : gsRes g = .tup [.lit (.string (gsTo g.packs g.packs.length)), .lit (.bool true)] := by simp [gsRes, gsB, h]
theorem gsTo_size {l : List Pk} (hx : ∀ p ∈ l, p.small) : ∀ n, (gsTo l n).size ≤ n * 8388608
  | 0 => by simp [gsTo, by8_nil]
  | n + 1 => by
    have ih := gsTo_size hx n
    have hs : (l.getD n pk0).name.size ≤ 1048576 ∧ (l.getD n pk0).version.size ≤ 1048576 ∧ ((l.getD n pk0).sums.getD 0 sm0).bytes.size ≤ 1048576 := by
      rw [List.getD_eq_getElem?_getD]
      cases hc : l[n]? with
      | none => simp [pk0, sm0, by8_nil]
      | some p =>
        obtain ⟨g1, g2, g3, ⟨g4, g5⟩, _⟩ := hx p (List.mem_of_getElem? hc)
        refine ⟨g1, g2, ?_⟩
        simp only [Option.getD_some]
        rw [List.getD_eq_getElem?_getD]
        cases hc2 : p.sums[0]? with
        | none => simp [sm0, by8_nil]
        | some q => exact (g5 q (List.mem_of_getElem? hc2)).2
    have e1 : (by8 " v").size = 2 := by decide +kernel
    have e2 : (by8 " h1:").size = 4 := by decide +kernel
    have e3 : (⟨#[10]⟩ : ByteArray).size = 1 := rfl
    simp only [gsTo, gsLine, ByteArray.size_append, b64_size, e1, e2, e3]
    omega
theorem only_one {l : List Sm} {a : ByteArray} : (allN l.length (onlyAt l a) && decide (l.length = 1)) = (decide (l.length = 1) && decide ((l.getD 0 sm0).alg = a)) := by
  by_cases h : l.length = 1
  · simp [h, allN, onlyAt]
  · simp [h]
section
variable {E : Env} (hE : E.P = Go.Proofs.Tryz.prog) (hZ : ∀ w, E.K w → KZ w)
include hE
set_option maxHeartbeats 2000000 in
theorem specBare_fx (g : Gr) (hg : g.small) : Fx E 63 [] [.agg g.av] [] (.lit (.bool (bare g))) := by
  have hg0 := hg
  obtain ⟨⟨hta, htb⟩, hl, hx⟩ := hg
  have hgv : g.av = [.sl ro 1 (g.top.map fun x => .lit (.string x)), .sl ro 6 (g.packs.map fun x => .agg x.av)] := rfl
  refine (is63.to hE).fx [] (by simp) rfl rfl ?_
  simp [v63, hgv, okC]
  refine X_loop (τ := Nat) (fun i => ⟨[(1, .ptr 1001 0 0), (3, .lit (.int .i64 i))], [(1001, [.agg g.av])]⟩) (fun i => i ≤ g.packs.length ∧ upTo (bareAt g.packs) i) (fun i => g.packs.length - i) 0 ⟨by omega, upTo.zero _⟩ (Wk.both (by simp [wkL, wkV.same]) (by simp [wkB, hgv])) ?_
  rintro i ⟨hi, hall⟩
  simp [hgv]
  by_cases hlt : i < g.packs.length
  · have no : bareAt g.packs i = false → bare g = false := fun h => by rw [bare, allN_false hlt h, Bool.false_and, Bool.false_and]
    have hat : bareAt g.packs i = (decide (g.packs[i].needs.length = 0) && decide (g.packs[i].source = by8 "")) := by rw [bareAt, getD_lt hlt]
    have hpv : g.packs[i].av = [.lit (.string g.packs[i].name), .lit (.string g.packs[i].version), .lit (.string g.packs[i].source), .sl ro 2 (g.packs[i].sums.map fun x => .agg x.av), .lit (.bool g.packs[i].dev), .sl ro 1 (g.packs[i].needs.map fun x => .lit (.string x))] := rfl
    simp [hlt, hpv, mkF, ro]
    by_cases c1 : 0 < g.packs[i].needs.length
    · have := no (by rw [hat]; simp; intro h; rw [h] at c1; simp at c1)
      simp [c1]
      exact Fin_ret rfl (by rw [this]; rfl)
    · have c1' : g.packs[i].needs = [] := List.length_eq_zero_iff.1 (by omega)
      simp [c1', hlt, hpv, mkF, ro]
      by_cases c2 : g.packs[i].source = by8 ""
      · simp [c2]
        exact ⟨i + 1, ⟨by omega, hall.next (by rw [hat]; simp [c1', c2])⟩, by omega, Wk.both (by simp [wkL, wkV.same]; rw [wrap_i64 (by omega) (by omega)]; exact wkV.same _) (by simp [wkB, hgv, ro])⟩
      · have := no (by rw [hat]; simp [c2])
        simp [c2]
        exact Fin_ret rfl (by rw [this]; rfl)
  · obtain rfl : i = g.packs.length := by omega
    have hpa := hall.all
    simp
    refine vcall_go (specGraph_fx hE g hg0) (by simp [hgv, ro]) (by simp) (by simp) (by simp) ?_
    simp
    cases c1 : graphOk g
    · simp
      exact Fin_ret rfl (by rw [bare, c1]; simp [reC])
    · simp [mkF]
      exact Fin_ret rfl (by rw [bare, hpa, c1]; simp [reC])
set_option maxHeartbeats 2000000 in
theorem specOnly_fx (p : Pk) (hp : p.small) (a : ByteArray) : Fx E 64 [] [.agg p.av, .lit (.string a)] [] (.tup [.lit (.bool (allN p.sums.length (onlyAt p.sums a))), .lit (.bool (allN p.sums.length (onlyAt p.sums a) && decide (p.sums.length = 1)))]) := by
  obtain ⟨g1, g2, g3, ⟨g4, g5⟩, _, g6⟩ := hp
  have hpv : p.av = [.lit (.string p.name), .lit (.string p.version), .lit (.string p.source), .sl ro 2 (p.sums.map fun x => .agg x.av), .lit (.bool p.dev), .sl ro 1 (p.needs.map fun x => .lit (.string x))] := rfl
  refine (is64.to hE).fx [] (by simp) rfl rfl ?_
  simp [v64, hpv, okC]
  refine X_loop (τ := Nat) (fun i => ⟨[(1, .lit (.string a)), (2, .ptr 1002 0 0), (6, .lit (.int .i64 i))], [(1002, [.agg p.av])]⟩) (fun i => i ≤ p.sums.length ∧ upTo (onlyAt p.sums a) i) (fun i => p.sums.length - i) 0 ⟨by omega, upTo.zero _⟩ (Wk.both (by simp [wkL, wkV.same]) (by simp [wkB, hpv])) ?_
  rintro i ⟨hi, hall⟩
  simp [hpv]
  by_cases hlt : i < p.sums.length
  · have hav : p.sums[i].av = [.lit (.string p.sums[i].alg), .lit (.string p.sums[i].bytes)] := rfl
    have hat : onlyAt p.sums a i = decide (p.sums[i].alg = a) := by rw [onlyAt, getD_lt hlt]
    simp [hlt, hav, ro, mkF, mkF.mkL]
    by_cases c1 : p.sums[i].alg = a
    · simp [c1]
      exact ⟨i + 1, ⟨by omega, hall.next (by rw [hat]; simp [c1])⟩, by omega, Wk.both (by simp [wkL, wkV.same]; rw [wrap_i64 (by omega) (by omega)]; exact wkV.same _) (by simp [wkB, hpv, ro])⟩
    · have : allN p.sums.length (onlyAt p.sums a) = false := allN_false hlt (by rw [hat]; simp [c1])
      simp [c1]
      exact Fin_ret2 rfl (by rw [this]; rfl)
  · obtain rfl : i = p.sums.length := by omega
    have hpa := hall.all
    simp
    exact Fin_ret2 rfl (by rw [hpa]; simp [reC, reC.reL]; constructor <;> intro h <;> omega)
set_option maxHeartbeats 4000000 in
theorem specGoSum_fx (g : Gr) (hg : g.small) : Fx E 19 [] [.agg g.av] [] (gsRes g) := by
  have hg0 := hg
  obtain ⟨⟨hta, htb⟩, hl, hx⟩ := hg
  have hgv : g.av = [.sl ro 1 (g.top.map fun x => .lit (.string x)), .sl ro 6 (g.packs.map fun x => .agg x.av)] := rfl
  refine (is19.to hE).fx [] (by simp) rfl rfl ?_
  simp [v19, hgv, okC]
  refine vcall_go (specBare_fx hE g hg0) (by simp [hgv, ro]) (by simp) (by simp) (by simp) ?_
  simp
  cases c0 : bare g
  · simp
    exact Fin_ret2 rfl (by rw [gsNo (by rw [gsOk, c0]; rfl)]; rfl)
  simp
  refine X_loop (τ := Nat) (fun i => ⟨[(1, .ptr 1001 0 0), (4, .lit (.string (gsTo g.packs i))), (5, .lit (.int .i64 i))], [(1001, [.agg g.av])]⟩) (fun i => i ≤ g.packs.length ∧ upTo (gsAt g.packs) i) (fun i => g.packs.length - i) 0 ⟨by omega, upTo.zero _⟩ (Wk.both (by simp [wkL, wkV.same, gsTo]) (by simp [wkB, hgv])) ?_
  rintro i ⟨hi, hall⟩
  simp [hgv]
  by_cases hlt : i < g.packs.length
  · have hps := hx _ (List.getElem_mem hlt)
    have no : gsAt g.packs i = false → gsOk g = false := fun h => by rw [gsOk, allN_false hlt h, Bool.and_false]
    have hat : gsAt g.packs i = (decide (g.packs[i].sums.length = 1) && decide ((g.packs[i].sums.getD 0 sm0).alg = h1B) && !g.packs[i].dev) := by rw [gsAt, getD_lt hlt]
    have ht : List.take 6 g.packs[i].av = g.packs[i].av := rfl
    have hpv : g.packs[i].av = [.lit (.string g.packs[i].name), .lit (.string g.packs[i].version), .lit (.string g.packs[i].source), .sl ro 2 (g.packs[i].sums.map fun x => .agg x.av), .lit (.bool g.packs[i].dev), .sl ro 1 (g.packs[i].needs.map fun x => .lit (.string x))] := rfl
    simp [hlt, Pk.len, ht, hpv, okC, putElem, upd, mkF, mkF.mkL, ro]
    refine vcall_go (specOnly_fx hE g.packs[i] hps h1B) (by simp [hpv, ro, h1B]) (by simp) (by simp) (by simp) ?_
    have h1 := only_one (l := g.packs[i].sums) (a := h1B)
    rw [← h1] at hat
    obtain ⟨x, hx1⟩ : ∃ x, allN g.packs[i].sums.length (onlyAt g.packs[i].sums h1B) = x := ⟨_, rfl⟩
    obtain ⟨y, hy1⟩ : ∃ y, decide (g.packs[i].sums.length = 1) = y := ⟨_, rfl⟩
    rw [hx1, hy1] at hat h1
    rw [hx1, hy1]
    cases x
    · have := no (by rw [hat]; rfl)
      simp
      exact Fin_ret2 rfl (by rw [gsNo this]; rfl)
    cases y
    · have := no (by rw [hat]; rfl)
      simp
      exact Fin_ret2 rfl (by rw [gsNo this]; rfl)
    have hl1 : g.packs[i].sums.length = 1 := of_decide_eq_true hy1
    simp
    cases c1 : g.packs[i].dev
    · have h0 : 0 < g.packs[i].sums.length := by omega
      have hav : g.packs[i].sums[0].av = [.lit (.string g.packs[i].sums[0].alg), .lit (.string g.packs[i].sums[0].bytes)] := rfl
      have hsz := gsTo_size hx i
      obtain ⟨g1, g2, g3, ⟨g4, g5⟩, _⟩ := hps
      have hb := (g5 _ (List.getElem_mem h0)).2
      have e1 : (by8 " v").size = 2 := by decide +kernel
      have e2 : (by8 " h1:").size = 4 := by decide +kernel
      have e3 : (⟨#[10]⟩ : ByteArray).size = 1 := rfl
      have hbz := b64_size g.packs[i].sums[0].bytes
      have hn := hall.next (by rw [hat, c1]; rfl)
      have hto : gsTo g.packs (i + 1) = gsTo g.packs i ++ g.packs[i].name ++ by8 " v" ++ g.packs[i].version ++ by8 " h1:" ++ b64 g.packs[i].sums[0].bytes ++ ⟨#[10]⟩ := by rw [gsTo, gsLine, getD_lt hlt, getD_lt h0]
      simp [h0, hav, mkF, mkF.mkL]
      refine ⟨by omega, by omega, by omega, by omega, ?_⟩
      refine vcall_go (specB64_fx hE g.packs[i].sums[0].bytes (by omega)) (by simp) (by simp) (by simp) (by simp) ?_
      simp
      refine ⟨by omega, by omega, i + 1, ⟨by omega, hn⟩, by omega, Wk.both (by simp [wkL, wkV.same, hto]; rw [wrap_i64 (by omega) (by omega)]; exact wkV.same _) (by simp [wkB, hgv, ro])⟩
    · have := no (by rw [hat, c1]; rfl)
      simp
      exact Fin_ret2 rfl (by rw [gsNo this]; rfl)
  · obtain rfl : i = g.packs.length := by omega
    have hpa := hall.all
    simp
    exact Fin_ret2 rfl (by rw [gsYes (by rw [gsOk, c0, hpa]; rfl)]; rfl)
include hZ in
set_option maxHeartbeats 4000000 in
theorem implGoSum_fx (g : Gr) (hg : g.small) : Fx E 21 [] [.agg g.av] [] (gsRes g) := by
  have hg0 := hg
  obtain ⟨⟨hta, htb⟩, hl, hx⟩ := hg
  have hgv : g.av = [.sl ro 1 (g.top.map fun x => .lit (.string x)), .sl ro 6 (g.packs.map fun x => .agg x.av)] := rfl
  refine (is21.to hE).fx [] (by simp) rfl rfl ?_
  simp [v21, hgv, okC]
  refine vcall_go (implGraph_fx hE hZ g hg0) (by simp [hgv, ro]) (by simp) (by simp) (by simp) ?_
  simp
  have nb : ∀ {b : Bool}, bare g = b → b = false → gsRes g = .tup [.lit (.string (by8 "")), .lit (.bool false)] := fun h1 h2 => gsNo (by rw [gsOk, h1, h2]; rfl)
  cases c0 : graphOk g
  · simp
    exact Fin_ret2 rfl (by rw [nb rfl (by rw [bare, c0]; simp)]; rfl)
  simp [mkF]
  by_cases c1 : 0 < g.top.length
  · simp [c1]
    exact Fin_ret2 rfl (by rw [nb rfl (by rw [bare, decide_eq_false (by omega)]; simp)]; rfl)
  have hd : decide (g.top.length = 0) = true := decide_eq_true (by omega)
  have c1' : g.top = [] := List.length_eq_zero_iff.1 (by omega)
  simp [c1']
  refine X_loop (τ := Nat) (fun i => ⟨[(1, .ptr 1001 0 0), (4, .lit (.string (gsTo g.packs i))), (17, .sl ro 6 (g.packs.map fun x => .agg x.av)), (18, .lit (.int .i64 g.packs.length)), (19, .lit (.int .i64 i))], [(1001, [.agg g.av])]⟩) (fun i => i ≤ g.packs.length ∧ upTo (gsAt g.packs) i ∧ upTo (bareAt g.packs) i) (fun i => g.packs.length - i) 0 ⟨by omega, upTo.zero _, upTo.zero _⟩ (Wk.both (by simp [wkL, wkV.same, gsTo, ro]) (by simp [wkB, hgv, c1'])) ?_
  rintro i ⟨hi, hall, hall2⟩
  simp [hgv]
  by_cases hlt : i < g.packs.length
  · have hps := hx _ (List.getElem_mem hlt)
    have no : (gsAt g.packs i && bareAt g.packs i) = false → gsRes g = .tup [.lit (.string (by8 "")), .lit (.bool false)] := fun h => gsNo (by
      rw [Bool.and_eq_false_iff] at h
      rcases h with h | h
      · rw [gsOk, allN_false hlt h, Bool.and_false]
      · rw [gsOk, bare, allN_false hlt h]; rfl)
    have hat : gsAt g.packs i = (decide (g.packs[i].sums.length = 1) && decide ((g.packs[i].sums.getD 0 sm0).alg = h1B) && !g.packs[i].dev) := by rw [gsAt, getD_lt hlt]
    have hat2 : bareAt g.packs i = (decide (g.packs[i].needs.length = 0) && decide (g.packs[i].source = by8 "")) := by rw [bareAt, getD_lt hlt]
    rw [hat, hat2] at no
    have hpv : g.packs[i].av = [.lit (.string g.packs[i].name), .lit (.string g.packs[i].version), .lit (.string g.packs[i].source), .sl ro 2 (g.packs[i].sums.map fun x => .agg x.av), .lit (.bool g.packs[i].dev), .sl ro 1 (g.packs[i].needs.map fun x => .lit (.string x))] := rfl
    simp [hlt, Pk.len, hpv, okC, putElem, upd, mkF, mkF.mkL, ro]
    cases d1 : g.packs[i].dev
    · by_cases d2 : g.packs[i].source = by8 ""
      · by_cases d3 : 0 < g.packs[i].needs.length
        · simp [d2, d3]
          exact Fin_ret2 rfl (by rw [no (by rw [decide_eq_false (show ¬ g.packs[i].needs.length = 0 by omega)]; simp)]; rfl)
        · have d3' : g.packs[i].needs = [] := List.length_eq_zero_iff.1 (by omega)
          by_cases d4 : g.packs[i].sums.length = 1
          · have h0 : 0 < g.packs[i].sums.length := by omega
            have hav : g.packs[i].sums[0].av = [.lit (.string g.packs[i].sums[0].alg), .lit (.string g.packs[i].sums[0].bytes)] := rfl
            simp [d2, d3', d4, h0, hav, mkF, mkF.mkL]
            by_cases d5 : g.packs[i].sums[0].alg = by8 "h1"
            · have hsz := gsTo_size hx i
              obtain ⟨g1, g2, g3, ⟨g4, g5⟩, _⟩ := hps
              have hb := (g5 _ (List.getElem_mem h0)).2
              have e1 : (by8 " v").size = 2 := by decide +kernel
              have e2 : (by8 " h1:").size = 4 := by decide +kernel
              have e3 : (⟨#[10]⟩ : ByteArray).size = 1 := rfl
              have hbz := b64_size g.packs[i].sums[0].bytes
              have hn := hall.next (by rw [hat, d1, decide_eq_true d4, getD_lt h0, decide_eq_true (show g.packs[i].sums[0].alg = h1B from d5)]; rfl)
              have hn2 := hall2.next (by rw [hat2, d3', decide_eq_true d2]; rfl)
              have hto : gsTo g.packs (i + 1) = gsTo g.packs i ++ (g.packs[i].name ++ by8 " v" ++ g.packs[i].version ++ by8 " h1:" ++ b64 g.packs[i].sums[0].bytes ++ ⟨#[10]⟩) := by
                rw [gsTo, gsLine, getD_lt hlt, getD_lt h0]
                simp only [ByteArray.append_assoc]
              simp [d5, h0, hav, mkF, mkF.mkL]
              refine ⟨by omega, by omega, by omega, ?_⟩
              refine vcall_go (implB64_fx hE g.packs[i].sums[0].bytes (by omega)) (by simp) (by simp) (by simp) (by simp) ?_
              simp
              refine ⟨by omega, by omega, by omega, i + 1, ⟨by omega, hn, hn2⟩, by omega, Wk.both (by simp [wkL, wkV.same, ro]; rw [hto, wrap_i64 (by omega) (by omega)]; exact ⟨wkV.same _, wkV.same _⟩) (by simp [wkB, hgv, ro, c1'])⟩
            · simp [d5]
              exact Fin_ret2 rfl (by rw [no (by rw [getD_lt h0, decide_eq_false (show ¬ g.packs[i].sums[0].alg = h1B from d5)]; simp)]; rfl)
          · have d4' : ¬ (g.packs[i].sums.length : Int) = 1 := by omega
            simp [d2, d3', d4, d4']
            exact Fin_ret2 rfl (by rw [no (by rw [decide_eq_false d4]; simp)]; rfl)
      · simp [d2]
        exact Fin_ret2 rfl (by rw [no (by rw [decide_eq_false d2]; simp)]; rfl)
    · simp
      exact Fin_ret2 rfl (by rw [no (by rw [d1]; simp)]; rfl)
  · obtain rfl : i = g.packs.length := by omega
    have hpa := hall.all
    have hpb := hall2.all
    simp
    exact Fin_ret2 rfl (by rw [gsYes (by rw [gsOk, bare, c0, hpa, hpb, hd]; rfl)]; rfl)
theorem specFits_fx (g : Gr) (hg : g.small) : Fx E 23 [] [.agg g.av] [] (.lit (.bool (gsOk g))) := by
  have hgv : g.av = [.sl ro 1 (g.top.map fun x => .lit (.string x)), .sl ro 6 (g.packs.map fun x => .agg x.av)] := rfl
  refine (is23.to hE).fx [] (by simp) rfl rfl ?_
  simp [v23, hgv, okC]
  refine vcall_go (specGoSum_fx hE g hg) (by simp [hgv, ro]) (by simp) (by simp) (by simp) ?_
  simp [gsRes]
  exact Fin_ret rfl rfl
include hZ in
theorem implFits_fx (g : Gr) (hg : g.small) : Fx E 24 [] [.agg g.av] [] (.lit (.bool (gsOk g))) := by
  have hgv : g.av = [.sl ro 1 (g.top.map fun x => .lit (.string x)), .sl ro 6 (g.packs.map fun x => .agg x.av)] := rfl
  refine (is24.to hE).fx [] (by simp) rfl rfl ?_
  simp [v24, hgv, okC]
  refine vcall_go (implGoSum_fx hE hZ g hg) (by simp [hgv, ro]) (by simp) (by simp) (by simp) ?_
  simp [gsRes]
  exact Fin_ret rfl rfl
end
end Go.Proofs.YtgegcfhifojjiaaGreatDoor.Vm
