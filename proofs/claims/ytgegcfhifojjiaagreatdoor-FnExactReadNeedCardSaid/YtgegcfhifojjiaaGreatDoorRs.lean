/- Ranges: the reference. -/
import Derived.Test.YtgegcfhifojjiaaGreatDoorRp
namespace Go.Proofs.YtgegcfhifojjiaaGreatDoor.Vm
open Go Go.RowKit
set_option linter.unusedVariables false
set_option linter.unusedSimpArgs false
def v167 : VC := .seq (.reg false [⟨some 2, .as (.c (.sl ⟨.nl, true⟩ 1 [])), none⟩] [2]) (.seq (.reg false [⟨some 6, .bsl 1 [], none⟩, ⟨some 3, .as (.t 6), none⟩] [6]) (.seq (.reg false [⟨some 4, .as (.c (.lit (.int .i64 0))), none⟩] []) (.seq (.seq (.reg false [⟨some 5, .as (.c (.lit (.int .i64 0))), none⟩] []) (.block 0 (.loop (.seq (.seq (.reg false [⟨some 7, .mv (.t 5), none⟩, ⟨some 8, .bin .add 0 (.t 7) (.c (.lit (.int .i64 4))), none⟩, ⟨some 9, .mv (.t 0), none⟩, ⟨some 10, .len true (.t 9), none⟩, ⟨some 11, .bin .leq 0 (.t 8) (.t 10), none⟩] [7, 8, 9, 10]) (.cond (.t 11) (.skip) (.exit 0))) (.seq (.block 1 (.seq (.reg false [⟨some 14, .mv (.t 5), none⟩, ⟨some 15, .mv (.t 4), none⟩, ⟨some 16, .bin .geq 0 (.t 14) (.t 15), none⟩, ⟨some 17, .mv (.t 16), none⟩, ⟨some 18, .mv (.t 0), (some (17, true))⟩, ⟨some 19, .mv (.t 5), (some (17, true))⟩, ⟨some 20, .mv (.t 5), (some (17, true))⟩, ⟨some 21, .bin .add 0 (.t 20) (.c (.lit (.int .i64 4))), (some (17, true))⟩, ⟨some 22, .slS (.t 18) (some (.t 19)) (some (.t 21)), (some (17, true))⟩, ⟨some 23, .bin .eql 0 (.t 22) (.c (.lit (.string (by8 " || ")))), (some (17, true))⟩, ⟨some 24, .pick (.t 17) (.t 23) (.c (.lit (.bool false))), none⟩] [14, 15, 16, 17, 18, 19, 20, 21, 22, 23]) (.cond (.t 24) (.seq (.reg false [⟨some 25, .mv (.t 3), none⟩, ⟨some 26, .mv (.t 0), none⟩, ⟨some 27, .mv (.t 4), none⟩, ⟨some 28, .mv (.t 5), none⟩, ⟨some 29, .slS (.t 26) (some (.t 27)) (some (.t 28)), none⟩, ⟨some 30, .bsl 1 [(.t 29)], none⟩, ⟨some 31, .app 1 16 (.t 25) (.t 30), none⟩, ⟨some 3, .as (.t 31), none⟩] [25, 26, 27, 28, 29, 30, 31]) (.reg false [⟨some 32, .mv (.t 5), none⟩, ⟨some 33, .bin .add 0 (.t 32) (.c (.lit (.int .i64 4))), none⟩, ⟨some 4, .as (.t 33), none⟩] [32, 33])) (.skip)))) (.reg false [⟨some 12, .mv (.t 5), none⟩, ⟨some 13, .bin .add 0 (.t 12) (.c (.lit (.int .i64 1))), none⟩, ⟨some 5, .as (.t 13), none⟩] [12, 13])))))) (.seq (.reg false [⟨some 34, .mv (.t 3), none⟩, ⟨some 35, .mv (.t 0), none⟩, ⟨some 36, .mv (.t 4), none⟩, ⟨some 37, .slS (.t 35) (some (.t 36)) none, none⟩, ⟨some 38, .bsl 1 [(.t 37)], none⟩, ⟨some 39, .app 1 16 (.t 34) (.t 38), none⟩, ⟨some 2, .as (.t 39), none⟩] [34, 35, 36, 37, 38, 39]) (.ret)))))
theorem is167 : Is Go.Proofs.Tryz.prog 167 40 v167 [.t 2] := ⟨Go.Proofs.Tryz.f167, dl [(0, [2]), (1, [6]), (4, [7, 8, 9, 10]), (6, [14, 15, 16, 17, 18, 19, 20, 21, 22, 23]), (7, [25, 26, 27, 28, 29, 30, 31]), (8, [32, 33]), (5, [12, 13]), (9, [34, 35, 36, 37, 38, 39])], Go.Proofs.Tryz.func167, by kernel_rfl, by kernel_rfl, by kernel_rfl, by kernel_rfl⟩
def v205 : VC := .seq (.reg false [⟨some 1, .box 4 (.t 0), none⟩, ⟨some 2, .as (.c (.lit (.int .i64 0))), none⟩] [2]) (.seq (.block 0 (.seq (.reg false [⟨some 4, .fa 0 (.t 1), none⟩, ⟨some 5, .ld false 1 (.t 4), none⟩, ⟨some 6, .bin .gtr 0 (.t 5) (.c (.lit (.int .i64 0))), none⟩, ⟨some 3, .as (.t 6), none⟩] [4, 5, 6]) (.cond (.t 3) (.seq (.reg false [⟨some 2, .as (.c (.lit (.int .i64 0))), none⟩] []) (.ret)) (.seq (.reg false [⟨some 8, .fa 1 (.t 1), none⟩, ⟨some 9, .ld false 1 (.t 8), none⟩, ⟨some 10, .bin .gtr 0 (.t 9) (.c (.lit (.int .i64 0))), none⟩, ⟨some 7, .as (.t 10), none⟩] [8, 9, 10]) (.cond (.t 7) (.seq (.reg false [⟨some 2, .as (.c (.lit (.int .i64 1))), none⟩] []) (.ret)) (.skip)))))) (.seq (.reg false [⟨some 2, .as (.c (.lit (.int .i64 2))), none⟩] []) (.ret)))
theorem is205 : Is Go.Proofs.Tryz.prog 205 11 v205 [.t 2] := ⟨Go.Proofs.Tryz.f205, dl [(0, [2]), (1, [4, 5, 6]), (3, [8, 9, 10])], Go.Proofs.Tryz.func205, by kernel_rfl, by kernel_rfl, by kernel_rfl, by kernel_rfl⟩
def v204 : VC := .seq (.reg false [⟨some 4, .box 4 (.t 1), none⟩, ⟨some 6, .alloc (.agg [(.lit (.string (by8 ""))), (.lit (.string (by8 "")))]), none⟩, ⟨some 7, .as (.c (.lit (.bool false))), none⟩] [7]) (.seq (.reg false [⟨some 11, .ld true 4 (.t 4), none⟩, ⟨some 12, .mv (.t 2), none⟩, ⟨some 13, .call false 233 [(.t 11), (.t 12)], none⟩, ⟨some 10, .mv (.t 13), none⟩, ⟨some 14, .ext (.t 10) 0, none⟩, ⟨some 15, .ext (.t 10) 1, none⟩, ⟨some 8, .as (.t 14), none⟩, ⟨some 9, .as (.t 15), none⟩] [11, 12, 13, 10, 14, 15]) (.seq (.seq (.reg false [⟨some 16, .mv (.t 9), none⟩, ⟨some 17, .un .not (.t 16), none⟩] [16]) (.cond (.t 17) (.seq (.reg false [⟨some 18, .bld [(.lit (.string (by8 ""))), (.lit (.string (by8 "")))] [], none⟩, ⟨none, .st 2 (.t 6) (.t 18), none⟩, ⟨some 7, .as (.c (.lit (.bool false))), none⟩] [18]) (.ret)) (.skip))) (.seq (.reg false [⟨some 19, .mv (.t 0), none⟩, ⟨some 20, .mv (.t 8), none⟩, ⟨some 21, .bld [(.lit (.string (by8 ""))), (.lit (.string (by8 "")))] [(0, 1, (.t 19)), (1, 1, (.t 20))], none⟩, ⟨none, .st 2 (.t 6) (.t 21), none⟩, ⟨some 7, .as (.c (.lit (.bool true))), none⟩] [19, 20, 21]) (.ret))))
theorem is204 : Is Go.Proofs.Tryz.prog 204 22 v204 [.b 6 true 2, .t 7] := ⟨Go.Proofs.Tryz.f204, dl [(0, [7]), (1, [11, 12, 13, 10, 14, 15]), (2, [16]), (3, [18]), (4, [19, 20, 21])], Go.Proofs.Tryz.func204, by kernel_rfl, by kernel_rfl, by kernel_rfl, by kernel_rfl⟩
def v249 : VC := .seq (.reg false [⟨some 2, .as (.c (.lit (.bool false))), none⟩] [2]) (.seq (.reg false [⟨some 6, .mv (.t 0), none⟩, ⟨some 7, .call false 39 [(.t 6)], none⟩, ⟨some 5, .mv (.t 7), none⟩, ⟨some 8, .ext (.t 5) 0, none⟩, ⟨some 9, .ext (.t 5) 1, none⟩, ⟨some 3, .alloc (.agg [(.lit (.int .i64 0)), (.lit (.int .i64 0)), (.lit (.int .i64 0)), (.sl ⟨.nl, true⟩ 1 [])]), none⟩, ⟨none, .st 4 (.t 3) (.t 8), none⟩, ⟨some 4, .as (.t 9), none⟩] [6, 7, 5, 8, 9, 3]) (.seq (.reg false [⟨some 10, .mv (.t 4), none⟩, ⟨some 11, .mv (.t 10), none⟩, ⟨some 12, .mv (.t 0), (some (11, false))⟩, ⟨some 13, .bin .eql 0 (.t 12) (.c (.lit (.string (by8 "")))), (some (11, false))⟩, ⟨some 14, .pick (.t 11) (.c (.lit (.bool true))) (.t 13), none⟩, ⟨some 2, .as (.t 14), none⟩] [10, 11, 12, 13, 14]) (.ret)))
theorem is249 : Is Go.Proofs.Tryz.prog 249 15 v249 [.t 2] := ⟨Go.Proofs.Tryz.f249, dl [(0, [2]), (1, [6, 7, 5, 8, 9, 3]), (2, [10, 11, 12, 13, 14])], Go.Proofs.Tryz.func249, by kernel_rfl, by kernel_rfl, by kernel_rfl, by kernel_rfl⟩
def v234 : VC := .seq (.reg false [⟨some 2, .as (.c (.lit (.bool false))), none⟩] [2]) (.seq (.seq (.reg false [⟨some 3, .as (.c (.lit (.int .i64 0))), none⟩] []) (.block 0 (.loop (.seq (.seq (.reg false [⟨some 4, .mv (.t 3), none⟩, ⟨some 5, .mv (.t 0), none⟩, ⟨some 6, .len false (.t 5), none⟩, ⟨some 7, .bin .lss 0 (.t 4) (.t 6), none⟩] [4, 5, 6]) (.cond (.t 7) (.skip) (.exit 0))) (.seq (.block 1 (.seq (.reg false [⟨some 10, .mv (.t 0), none⟩, ⟨some 11, .mv (.t 3), none⟩, ⟨some 12, .ia 2 (.t 10) (.t 11), none⟩, ⟨some 13, .fa 0 (.t 12), none⟩, ⟨some 14, .ld false 1 (.t 13), none⟩, ⟨some 15, .call false 249 [(.t 14)], none⟩, ⟨some 16, .un .not (.t 15), none⟩, ⟨some 17, .mv (.t 16), none⟩, ⟨some 18, .mv (.t 0), (some (17, false))⟩, ⟨some 19, .mv (.t 3), (some (17, false))⟩, ⟨some 20, .ia 2 (.t 18) (.t 19), (some (17, false))⟩, ⟨some 21, .fa 1 (.t 20), (some (17, false))⟩, ⟨some 22, .ld false 1 (.t 21), (some (17, false))⟩, ⟨some 23, .call false 249 [(.t 22)], (some (17, false))⟩, ⟨some 24, .un .not (.t 23), (some (17, false))⟩, ⟨some 25, .pick (.t 17) (.c (.lit (.bool true))) (.t 24), none⟩] [10, 11, 12, 13, 14, 15, 16, 17, 18, 19, 20, 21, 22, 23, 24]) (.cond (.t 25) (.seq (.reg false [⟨some 2, .as (.c (.lit (.bool false))), none⟩] []) (.ret)) (.skip)))) (.reg false [⟨some 8, .mv (.t 3), none⟩, ⟨some 9, .bin .add 0 (.t 8) (.c (.lit (.int .i64 1))), none⟩, ⟨some 3, .as (.t 9), none⟩] [8, 9])))))) (.seq (.reg false [⟨some 26, .mv (.t 0), none⟩, ⟨some 27, .len false (.t 26), none⟩, ⟨some 28, .call false 105 [(.t 27), (.c (.lit (.int .i64 1))), (.c (.lit (.int .i64 8)))], none⟩, ⟨some 2, .as (.t 28), none⟩] [26, 27, 28]) (.ret)))
theorem is234 : Is Go.Proofs.Tryz.prog 234 29 v234 [.t 2] := ⟨Go.Proofs.Tryz.f234, dl [(0, [2]), (2, [4, 5, 6]), (4, [10, 11, 12, 13, 14, 15, 16, 17, 18, 19, 20, 21, 22, 23, 24]), (3, [8, 9]), (6, [26, 27, 28])], Go.Proofs.Tryz.func234, by kernel_rfl, by kernel_rfl, by kernel_rfl, by kernel_rfl⟩
def v144 : VC := .seq (.reg false [⟨some 2, .as (.c (.sl ⟨.nl, true⟩ 1 [])), none⟩] [2]) (.seq (.reg false [⟨some 3, .mv (.t 0), none⟩, ⟨some 4, .call false 42 [(.t 3), (.c (.lit (.int .u8 32)))], none⟩, ⟨some 2, .as (.t 4), none⟩] [3, 4]) (.ret))
theorem is144 : Is Go.Proofs.Tryz.prog 144 5 v144 [.t 2] := ⟨Go.Proofs.Tryz.f144, dl [(0, [2]), (1, [3, 4])], Go.Proofs.Tryz.func144, by kernel_rfl, by kernel_rfl, by kernel_rfl, by kernel_rfl⟩
def v206 : VC := .seq (.reg false [⟨some 2, .alloc (.agg [(.lit (.string (by8 ""))), (.lit (.string (by8 "")))]), none⟩, ⟨some 3, .as (.c (.lit (.bool false))), none⟩] [3]) (.seq (.reg false [⟨some 7, .mv (.t 0), none⟩, ⟨some 8, .call false 144 [(.t 7)], none⟩, ⟨some 4, .as (.t 8), none⟩] [7, 8]) (.seq (.reg false [⟨some 9, .bld [(.lit (.string (by8 ""))), (.lit (.string (by8 "")))] [], none⟩, ⟨some 5, .alloc (.agg [(.lit (.string (by8 ""))), (.lit (.string (by8 "")))]), none⟩, ⟨none, .st 2 (.t 5) (.t 9), none⟩] [9]) (.seq (.seq (.reg false [⟨some 6, .as (.c (.lit (.int .i64 0))), none⟩] []) (.block 0 (.loop (.seq (.seq (.reg false [⟨some 10, .mv (.t 6), none⟩, ⟨some 11, .mv (.t 4), none⟩, ⟨some 12, .len false (.t 11), none⟩, ⟨some 13, .bin .lss 0 (.t 10) (.t 12), none⟩] [10, 11, 12]) (.cond (.t 13) (.skip) (.exit 0))) (.seq (.block 1 (.block 2 (.seq (.reg false [⟨some 18, .mv (.t 6), none⟩, ⟨some 19, .bin .eql 0 (.t 18) (.c (.lit (.int .i64 0))), none⟩, ⟨some 20, .mv (.t 19), none⟩, ⟨some 21, .mv (.t 4), (some (20, true))⟩, ⟨some 22, .mv (.t 6), (some (20, true))⟩, ⟨some 23, .ia 1 (.t 21) (.t 22), (some (20, true))⟩, ⟨some 24, .ld false 1 (.t 23), (some (20, true))⟩, ⟨some 25, .len true (.t 24), (some (20, true))⟩, ⟨some 26, .bin .gtr 0 (.t 25) (.c (.lit (.int .i64 2))), (some (20, true))⟩, ⟨some 27, .pick (.t 20) (.t 26) (.c (.lit (.bool false))), none⟩, ⟨some 28, .mv (.t 27), none⟩, ⟨some 29, .mv (.t 4), (some (28, true))⟩, ⟨some 30, .mv (.t 6), (some (28, true))⟩, ⟨some 31, .ia 1 (.t 29) (.t 30), (some (28, true))⟩, ⟨some 32, .ld false 1 (.t 31), (some (28, true))⟩, ⟨some 33, .slS (.t 32) none (some (.c (.lit (.int .i64 2)))), (some (28, true))⟩, ⟨some 34, .bin .eql 0 (.t 33) (.c (.lit (.string (by8 ">=")))), (some (28, true))⟩, ⟨some 35, .pick (.t 28) (.t 34) (.c (.lit (.bool false))), none⟩, ⟨some 17, .as (.t 35), none⟩] [18, 19, 20, 21, 22, 23, 24, 25, 26, 27, 28, 29, 30, 31, 32, 33, 34, 35]) (.cond (.t 17) (.reg false [⟨some 36, .mv (.t 4), none⟩, ⟨some 37, .mv (.t 6), none⟩, ⟨some 38, .ia 1 (.t 36) (.t 37), none⟩, ⟨some 39, .ld false 1 (.t 38), none⟩, ⟨some 40, .slS (.t 39) (some (.c (.lit (.int .i64 2)))) none, none⟩, ⟨some 41, .fa 0 (.t 5), none⟩, ⟨none, .st 1 (.t 41) (.t 40), none⟩] [36, 37, 38, 39, 40, 41]) (.seq (.reg false [⟨some 43, .mv (.t 6), none⟩, ⟨some 44, .mv (.t 4), none⟩, ⟨some 45, .len false (.t 44), none⟩, ⟨some 46, .bin .sub 0 (.t 45) (.c (.lit (.int .i64 1))), none⟩, ⟨some 47, .bin .eql 0 (.t 43) (.t 46), none⟩, ⟨some 48, .mv (.t 47), none⟩, ⟨some 49, .mv (.t 4), (some (48, true))⟩, ⟨some 50, .mv (.t 6), (some (48, true))⟩, ⟨some 51, .ia 1 (.t 49) (.t 50), (some (48, true))⟩, ⟨some 52, .ld false 1 (.t 51), (some (48, true))⟩, ⟨some 53, .len true (.t 52), (some (48, true))⟩, ⟨some 54, .bin .gtr 0 (.t 53) (.c (.lit (.int .i64 1))), (some (48, true))⟩, ⟨some 55, .pick (.t 48) (.t 54) (.c (.lit (.bool false))), none⟩, ⟨some 56, .mv (.t 55), none⟩, ⟨some 57, .mv (.t 4), (some (56, true))⟩, ⟨some 58, .mv (.t 6), (some (56, true))⟩, ⟨some 59, .ia 1 (.t 57) (.t 58), (some (56, true))⟩, ⟨some 60, .ld false 1 (.t 59), (some (56, true))⟩, ⟨some 61, .idx (.t 60) (.c (.lit (.int .i64 0))), (some (56, true))⟩, ⟨some 62, .bin .eql 0 (.t 61) (.c (.lit (.int .u8 60))), (some (56, true))⟩, ⟨some 63, .pick (.t 56) (.t 62) (.c (.lit (.bool false))), none⟩, ⟨some 42, .as (.t 63), none⟩] [43, 44, 45, 46, 47, 48, 49, 50, 51, 52, 53, 54, 55, 56, 57, 58, 59, 60, 61, 62, 63]) (.cond (.t 42) (.reg false [⟨some 64, .mv (.t 4), none⟩, ⟨some 65, .mv (.t 6), none⟩, ⟨some 66, .ia 1 (.t 64) (.t 65), none⟩, ⟨some 67, .ld false 1 (.t 66), none⟩, ⟨some 68, .slS (.t 67) (some (.c (.lit (.int .i64 1)))) none, none⟩, ⟨some 69, .fa 1 (.t 5), none⟩, ⟨none, .st 1 (.t 69) (.t 68), none⟩] [64, 65, 66, 67, 68, 69]) (.seq (.reg false [⟨some 16, .bld [(.lit (.string (by8 ""))), (.lit (.string (by8 "")))] [], none⟩, ⟨none, .st 2 (.t 2) (.t 16), none⟩, ⟨some 3, .as (.c (.lit (.bool false))), none⟩] [16]) (.ret)))))))) (.reg false [⟨some 14, .mv (.t 6), none⟩, ⟨some 15, .bin .add 0 (.t 14) (.c (.lit (.int .i64 1))), none⟩, ⟨some 6, .as (.t 15), none⟩] [14, 15])))))) (.seq (.seq (.reg false [⟨some 70, .mv (.t 4), none⟩, ⟨some 71, .len false (.t 70), none⟩, ⟨some 72, .bin .gtr 0 (.t 71) (.c (.lit (.int .i64 2))), none⟩, ⟨some 73, .mv (.t 72), none⟩, ⟨some 74, .ld true 2 (.t 5), (some (73, false))⟩, ⟨some 75, .bsl 2 [(.t 74)], (some (73, false))⟩, ⟨some 76, .call false 234 [(.t 75)], (some (73, false))⟩, ⟨some 77, .un .not (.t 76), (some (73, false))⟩, ⟨some 78, .pick (.t 73) (.c (.lit (.bool true))) (.t 77), none⟩] [70, 71, 72, 73, 74, 75, 76, 77]) (.cond (.t 78) (.seq (.reg false [⟨some 79, .bld [(.lit (.string (by8 ""))), (.lit (.string (by8 "")))] [], none⟩, ⟨none, .st 2 (.t 2) (.t 79), none⟩, ⟨some 3, .as (.c (.lit (.bool false))), none⟩] [79]) (.ret)) (.skip))) (.seq (.reg false [⟨some 80, .ld true 2 (.t 5), none⟩, ⟨none, .st 2 (.t 2) (.t 80), none⟩, ⟨some 3, .as (.c (.lit (.bool true))), none⟩] [80]) (.ret))))))
theorem is206 : Is Go.Proofs.Tryz.prog 206 81 v206 [.b 2 true 2, .t 3] := ⟨Go.Proofs.Tryz.f206, dl [(0, [3]), (1, [7, 8]), (2, [9]), (4, [10, 11, 12]), (7, [18, 19, 20, 21, 22, 23, 24, 25, 26, 27, 28, 29, 30, 31, 32, 33, 34, 35]), (9, [43, 44, 45, 46, 47, 48, 49, 50, 51, 52, 53, 54, 55, 56, 57, 58, 59, 60, 61, 62, 63]), (6, [16]), (10, [64, 65, 66, 67, 68, 69]), (8, [36, 37, 38, 39, 40, 41]), (5, [14, 15]), (11, [70, 71, 72, 73, 74, 75, 76, 77]), (12, [79]), (13, [80])], Go.Proofs.Tryz.func206, by kernel_rfl, by kernel_rfl, by kernel_rfl, by kernel_rfl⟩
theorem ext_mid (a b c : ByteArray) : (a ++ b ++ c).extract a.size (a.size + b.size) = b := by
  have h := ext_appL (a ++ b) c
  have h2 := ext_app a b
  rw [ByteArray.size_append] at h h2
  rw [← h, ext_ext, Nat.zero_add, Nat.zero_add, Nat.min_self] at h2
  exact h2
theorem bar_at {s : ByteArray} {a k : Nat} (ha : a ≤ s.size) (hk : k ≤ (s.extract a s.size).size) (h : s.extract a s.size = (s.extract a s.size).extract 0 k ++ barB ++ (s.extract a s.size).extract (k + barB.size) (s.extract a s.size).size) : s.extract (a + k) (a + k + 4) = barB ∧ a + k + 4 ≤ s.size := by
  have hz := congrArg ByteArray.size h
  simp only [ByteArray.size_append, ext_size, barB_size] at hz hk
  have hs : ((s.extract a s.size).extract 0 k).size = k := by simp only [ext_size]; omega
  have hm := ext_mid ((s.extract a s.size).extract 0 k) barB ((s.extract a s.size).extract (k + barB.size) (s.extract a s.size).size)
  rw [← h, hs, barB_size, ext_ext, show min (a + (k + 4)) s.size = a + k + 4 by omega] at hm
  exact ⟨hm, by omega⟩
theorem bar_hit {s : ByteArray} {a i : Nat} (ha : a ≤ i) (hi : i + 4 ≤ s.size) (he : s.extract i (i + 4) = barB) (hall : ∀ j, a ≤ j → j < i → s.extract j (j + 4) ≠ barB) : spB barB (s.extract a s.size) = s.extract a i :: spB barB (s.extract (i + 4) s.size) := by
  have hsp : s.extract a s.size = s.extract a i ++ barB ++ s.extract (i + 4) s.size := by
    rw [← he, ByteArray.extract_append_extract, show min a i = a by omega, show max i (i + 4) = i + 4 by omega, ByteArray.extract_append_extract, show min a (i + 4) = a by omega, show max (i + 4) s.size = s.size by omega]
  rcases index_cases (s.extract a s.size) barB with ⟨h, h2⟩ | ⟨k, h, hk, h2, h3⟩
  · exact absurd hsp (h2 _ _)
  · have h4 := h3 _ _ hsp
    rw [ext_size] at h4
    obtain ⟨h5, h6⟩ := bar_at (by omega) hk h2
    rcases Nat.lt_or_ge (a + k) i with h7 | h7
    · exact absurd h5 (hall _ (by omega) h7)
    · obtain rfl : k = i - a := by omega
      rw [spB_hit (by rw [barB_size]; omega) h, ext_ext, ext_ext, ext_size, barB_size, show a + 0 = a by omega, show min (a + (i - a)) s.size = i by omega, show a + (i - a + 4) = i + 4 by omega, show min (a + (min s.size s.size - a)) s.size = s.size by omega]
theorem bar_none {s : ByteArray} {a i : Nat} (ha : a ≤ s.size) (hi : s.size < i + 4) (hall : ∀ j, a ≤ j → j < i → s.extract j (j + 4) ≠ barB) : spB barB (s.extract a s.size) = [s.extract a s.size] := by
  rcases index_cases (s.extract a s.size) barB with ⟨h, h2⟩ | ⟨k, h, hk, h2, h3⟩
  · exact spB_none h
  · obtain ⟨h5, h6⟩ := bar_at ha hk h2
    exact absurd h5 (hall _ (by omega) (by omega))
/-- a bound's ends are right -/
noncomputable def endOk (s : ByteArray) : Bool := isVer s || decide (s = by8 "")
noncomputable def bndOk (l : List (ByteArray × ByteArray)) (i : Nat) : Bool := endOk (l.getD i (by8 "", by8 "")).1 && endOk (l.getD i (by8 "", by8 "")).2
noncomputable def rngOk (l : List (ByteArray × ByteArray)) : Bool := (List.range l.length).all (bndOk l) && inR l.length 1 8
theorem rngOk_one (l h : ByteArray) : rngOk [(l, h)] = (endOk l && endOk h) := by
  simp [rngOk, bndOk, inR, List.range_succ]
theorem end_nil : endOk (by8 "") = true := by simp [endOk]
theorem end_pos {s : ByteArray} (h : 0 < s.size) : endOk s = isVer s := by
  have : ¬ s = by8 "" := fun e => by rw [e, by8_nil] at h; omega
  simp [endOk, this]
theorem ge_head {a : ByteArray} (h : 2 < a.size) : a.extract 0 2 = by8 ">=" ↔ hasP a ge2 = true := by
  rw [hasP_iff]
  constructor
  · intro e
    refine ⟨a.extract 2 a.size, ?_⟩
    rw [show ge2 = a.extract 0 2 from e.symm, ByteArray.extract_append_extract, show min 0 2 = 0 by omega, show max 2 a.size = a.size by omega, ext_all]
  · rintro ⟨t, rfl⟩
    have := ext_appL ge2 t
    rwa [ge2_size] at this
theorem lt_head {a : ByteArray} (h : 1 < a.size) : bt a 0 = 60 ↔ hasP a lt1 = true := by
  rw [lt1_eq, hasP_one]
  simp; omega
theorem ge_short {a : ByteArray} (h : hasP a ge2 = true) (hv : isVer (a.extract 2 a.size) = true) : 2 < a.size := by
  have := ver_pos hv
  rw [ext_size] at this
  omega
theorem lt_short {a : ByteArray} (hv : isVer (a.extract 1 a.size) = true) : 1 < a.size := by
  have := ver_pos hv
  rw [ext_size] at this
  omega
section
variable {E : Env} (hE : E.P = Go.Proofs.Tryz.prog)
include hE
set_option maxHeartbeats 2000000 in
theorem l03Parts_fx (s : ByteArray) (hs : s.size ≤ 4294967280) : Fx E 167 [] [.lit (.string s)] [] (.sl ⟨.no, true⟩ 1 ((spB barB s).map fun x => .lit (.string x))) := by
  refine (is167.to hE).fx [] (by simp) rfl rfl ?_
  simp [v167]
  refine X_loop (τ := Nat × List ByteArray × Nat) (fun p => ⟨[(0, .lit (.string s)), (3, .sl ⟨.cl 384, true⟩ 1 (p.2.1.map fun x => .lit (.string x))), (4, .lit (.int .i64 p.2.2)), (5, .lit (.int .i64 p.1))], []⟩) (fun p => p.1 ≤ s.size ∧ p.2.2 ≤ s.size ∧ p.2.1.length ≤ p.1 ∧ spB barB s = p.2.1 ++ spB barB (s.extract p.2.2 s.size) ∧ ∀ j, p.2.2 ≤ j → j < p.1 → s.extract j (j + 4) ≠ barB) (fun p => s.size - p.1) (0, [], 0) (by simp [ext_all]) (Wk.both (by simp [wkL, wkV.same, frA.frL]) trivial) ?_
  rintro ⟨i, out, a⟩ ⟨hi, ha, hlen, hsp, hall⟩
  simp only at hi ha hlen hsp hall
  simp
  rw [wrap_i64 (i := (i : Int) + 4) (by omega) (by omega)]
  by_cases hlt : i + 4 ≤ s.size
  · have hlt' : (i : Int) + 4 ≤ s.size := by omega
    have nxt : (a ≤ i → s.extract i (i + 4) ≠ barB) → ∀ j, a ≤ j → j < i + 1 → s.extract j (j + 4) ≠ barB := fun h j h1 h2 => by
      rcases Nat.lt_succ_iff_lt_or_eq.1 h2 with h3 | rfl
      · exact hall j h1 h3
      · exact h h1
    simp [hlt']
    by_cases c1 : a ≤ i
    · simp [c1]
      rw [wrap_i64 (i := (i : Int) + 4) (by omega) (by omega)]
      refine wh_ll (l := i) (h := (i + 4 : Nat)) (k' := .i64) rfl (by simp) (by omega) (by omega) (by omega) ?_
      simp [show ((i : Int) + 4).toNat = i + 4 by omega]
      by_cases c2 : s.extract i (i + 4) = barB
      · have hx := bar_hit c1 hlt c2 hall
        rw [show by8 " || " = barB from rfl, c2]
        simp
        refine wh_ll (l := a) (h := i) rfl rfl (by omega) (by omega) (by omega) ?_
        simp [okC, frA, frA.frL, AS.dem, mapV, dem, dem.demL]
        refine ⟨by omega, i + 1, out ++ [s.extract a i], i + 4, ⟨by omega, by omega, by simp; omega, by rw [hsp, hx]; simp, fun j h1 h2 => by omega⟩, by omega, Wk.both (by simp [wkL, wkV.same]; rw [wrapN (by omega), wrap_i64 (i := (i : Int) + 4) (by omega) (by omega)]; exact ⟨wkV.same _, .inl (by simp)⟩) trivial⟩
      · rw [show by8 " || " = barB from rfl]
        simp [c2]
        refine ⟨i + 1, out, a, ⟨by omega, by omega, by omega, hsp, nxt fun _ => c2⟩, by omega, Wk.both (by simp [wkL, wkV.same]; rw [wrapN (by omega)]; exact wkV.same _) trivial⟩
    · simp [c1]
      refine ⟨i + 1, out, a, ⟨by omega, by omega, by omega, hsp, nxt fun h => absurd h c1⟩, by omega, Wk.both (by simp [wkL, wkV.same]; rw [wrapN (by omega)]; exact wkV.same _) trivial⟩
  · have hlt' : ¬ (i : Int) + 4 ≤ s.size := by omega
    simp [hlt']
    refine wh_l (l := a) rfl (by omega) (by omega) ?_
    simp [okC, frA, frA.frL, AS.dem, mapV, dem, dem.demL]
    have hx := bar_none (s := s) (a := a) (i := i) ha (by omega) hall
    refine ⟨by omega, Fin_ret rfl ?_⟩
    rw [hsp, hx]
    simp [reC]
theorem care_fx (v : Ver) : Fx E 205 [] [.agg v.av] [] (.lit (.int .i64 (careV v))) := by
  refine (is205.to hE).fx [] (by simp) rfl rfl ?_
  simp [v205, Ver.av, okC, ro]
  by_cases c1 : 0 < v.maj
  · simp [c1]
    exact Fin_ret rfl (by rw [careV, if_pos c1]; rfl)
  simp [c1]
  by_cases c2 : 0 < v.min
  · simp [c2]
    exact Fin_ret rfl (by rw [careV, if_neg c1, if_pos c2]; rfl)
  · simp [c2]
    exact Fin_ret rfl (by rw [careV, if_neg c1, if_neg c2]; rfl)
theorem from_fx (s : ByteArray) (v : Ver) (hv : verOk v = true) (p : Int) (hp : p = 0 ∨ p = 1 ∨ p = 2) : Fx E 204 [] [.lit (.string s), .agg v.av, .lit (.int .i64 p)] [] (if verOk (nextV v p) = true then .tup [bndV s (verT ⟨(nextV v p).maj, (nextV v p).min, (nextV v p).pat, [by8 "0"]⟩), .lit (.bool true)] else .tup [bndV (by8 "") (by8 ""), .lit (.bool false)]) := by
  have hb := specBelow_fx hE v hv p hp
  unfold belowRes at hb
  refine (is204.to hE).fx [] (by simp) rfl (by split <;> rfl) ?_
  simp [v204, Ver.av, okC, ro]
  refine vcall_go hb (by simp [Ver.av, ro]) (by simp) (by simp) (by simp) ?_
  by_cases h : verOk (nextV v p) = true
  · rw [if_pos h, if_pos h]
    simp [okC, putElem, upd, fill]
    exact Fin_ret2 rfl rfl
  · rw [if_neg h, if_neg h]
    simp [okC, putElem, upd, fill]
    exact Fin_ret2 rfl rfl
theorem l03Is_fx (s : ByteArray) (hs : s.size ≤ 1099511627) : Fx E 249 [] [.lit (.string s)] [] (.lit (.bool (endOk s))) := by
  refine (is249.to hE).fx [] (by simp) rfl rfl ?_
  simp [v249, okC]
  refine vcall_go (specReadVer_fx hE s hs) (by simp) (by simp) (by simp) (by simp) ?_
  unfold verRes
  cases hr : readVer s with
  | none =>
    have hi : isVer s = false := by rw [isVer, hr]; rfl
    simp [verNone, okC, putElem, upd, fill]
    exact Fin_ret rfl (by rw [endOk, hi]; rfl)
  | some v =>
    have hi : isVer s = true := isVer_of hr
    rcases apS_cases s with h | h
    all_goals
      simp [verSome, okC, putElem, upd, fill, h]
      exact Fin_ret rfl (by rw [endOk, hi]; rfl)
theorem words_fx (s : ByteArray) (hs : s.size ≤ 4294967280) : Fx E 144 [] [.lit (.string s)] [] (.sl ⟨.no, true⟩ 1 ((spl 32 s).map fun x => .lit (.string x))) := by
  refine (is144.to hE).fx [] (by simp) rfl rfl ?_
  simp [v144]
  refine vcall_go (l01Cut_fx hE s 32 hs) (by simp) (by simp) (by simp) (by simp) ?_
  simp
  exact Fin_ret rfl rfl
theorem specRngOk_fx (l : List (ByteArray × ByteArray)) (hl : l.length ≤ 1048576) (hx : ∀ b ∈ l, b.1.size ≤ 1073741824 ∧ b.2.size ≤ 1073741824) : Fx E 234 [] [.sl ro 2 (l.map fun b => bndV b.1 b.2)] [] (.lit (.bool (rngOk l))) := by
  refine (is234.to hE).fx [] (by simp) rfl rfl ?_
  simp [v234]
  refine X_loop (τ := Nat) (fun i => ⟨[(0, .sl ro 2 (l.map fun b => bndV b.1 b.2)), (3, .lit (.int .i64 i))], []⟩) (fun i => i ≤ l.length ∧ ∀ j, j < i → bndOk l j = true) (fun i => l.length - i) 0 (by simp) (Wk.both (by simp [wkL, wkV.same]) trivial) ?_
  rintro i ⟨hi, hall⟩
  simp
  by_cases hlt : i < l.length
  · obtain ⟨g1, g2⟩ := hx _ (List.getElem_mem hlt)
    have hat : bndOk l i = (endOk l[i].1 && endOk l[i].2) := by unfold bndOk; rw [show l.getD i (by8 "", by8 "") = l[i] by simp [List.getD, hlt]]
    have no : bndOk l i = false → rngOk l = false := fun h => by
      have : (List.range l.length).all (bndOk l) = false := by rw [List.all_eq_false]; exact ⟨i, List.mem_range.2 hlt, by simp [h]⟩
      rw [rngOk, this]; rfl
    rw [hat] at no
    simp [hlt, bndV, ro, mkF]
    refine vcall_go (l03Is_fx hE l[i].1 (by omega)) (by simp) (by simp) (by simp) (by simp) ?_
    simp
    cases c1 : endOk l[i].1
    · have := no (by rw [c1]; rfl)
      simp
      exact Fin_ret rfl (by rw [this]; rfl)
    simp [hlt, bndV, ro, mkF]
    refine vcall_go (l03Is_fx hE l[i].2 (by omega)) (by simp) (by simp) (by simp) (by simp) ?_
    simp
    cases c2 : endOk l[i].2
    · have := no (by rw [c1, c2]; rfl)
      simp
      exact Fin_ret rfl (by rw [this]; rfl)
    simp
    refine ⟨i + 1, ⟨by omega, fun j hj => ?_⟩, by omega, Wk.both (by simp [wkL, wkV.same, ro, bndV]; rw [wrapN (by omega)]; exact wkV.same _) trivial⟩
    rcases Nat.lt_succ_iff_lt_or_eq.1 hj with h | rfl
    · exact hall j h
    · rw [hat, c1, c2]; rfl
  · obtain rfl : i = l.length := by omega
    have hpa : (List.range l.length).all (bndOk l) = true := by rw [List.all_eq_true]; exact fun j hj => hall j (List.mem_range.1 hj)
    simp
    refine vcall_go (l01In_fx hE l.length 1 8) (by simp) (by simp) (by simp) (by simp) ?_
    simp
    exact Fin_ret rfl (by rw [rngOk, hpa]; rfl)
set_option maxHeartbeats 4000000 in
theorem signs03_fx (s : ByteArray) (hs : s.size ≤ 1073741824) : Fx E 206 [] [.lit (.string s)] [] (match sgnO s with
  | some p => .tup [bndV p.1 p.2, .lit (.bool true)]
  | none => .tup [bndV (by8 "") (by8 ""), .lit (.bool false)]) := by
  have hres : resOk (match sgnO s with
    | some p => .tup [bndV p.1 p.2, .lit (.bool true)]
    | none => .tup [bndV (by8 "") (by8 ""), .lit (.bool false)]) = true := by cases sgnO s <;> rfl
  refine (is206.to hE).fx [] (by simp) rfl hres ?_
  simp [v206, okC]
  refine vcall_go (words_fx hE s (by omega)) (by simp) (by simp) (by simp) (by simp) ?_
  have hsz : ∀ (i : Nat) p, (spl 32 s)[i]? = some p → p.size ≤ s.size := fun i p h => spl_size h
  have hll := spl_len_le 32 s
  unfold sgnO at hres ⊢
  have hne := spl_ne 32 s
  obtain ⟨w, hw⟩ : ∃ w, spl 32 s = w := ⟨_, rfl⟩
  rw [hw] at hsz hll hne hres ⊢
  obtain ⟨a, r, rfl⟩ : ∃ a r, w = a :: r := by cases w with | nil => exact absurd rfl hne | cons a r => exact ⟨a, r, rfl⟩
  have za := hsz 0 a rfl
  simp [okC, putElem, upd, fill]
  refine X_loop (τ := Nat × ByteArray × ByteArray) (fun p => ⟨[(0, .lit (.string s)), (2, .ptr 1002 0 0), (4, .sl ⟨.no, true⟩ 1 ((a :: r).map fun x => .lit (.string x))), (5, .ptr 1005 0 0), (6, .lit (.int .i64 p.1))], [(1002, [bndV (by8 "") (by8 "")]), (1005, [bndV p.2.1 p.2.2])]⟩) (fun p => p = (0, by8 "", by8 "") ∨ (p = (1, a.extract 2 a.size, by8 "") ∧ 2 < a.size ∧ hasP a ge2 = true) ∨ (p = (1, by8 "", a.extract 1 a.size) ∧ r = [] ∧ hasP a ge2 = false ∧ 1 < a.size ∧ hasP a lt1 = true) ∨ ∃ b, p = (2, a.extract 2 a.size, b.extract 1 b.size) ∧ r = [b] ∧ (2 < a.size ∧ hasP a ge2 = true) ∧ 1 < b.size ∧ hasP b lt1 = true) (fun p => 3 - p.1) (0, by8 "", by8 "") (.inl rfl) (Wk.both (by simp [wkL, wkV.same]) (by simp [wkB, bndV])) ?_
  rintro p (rfl | ⟨rfl, h2, hg⟩ | ⟨rfl, rfl, hg, h2, hl⟩ | ⟨b, rfl, rfl, ⟨h2, hg⟩, h3, hl⟩)
  · have neither : (¬ (2 < a.size ∧ hasP a ge2 = true)) → (r ≠ [] ∨ ¬ (1 < a.size ∧ bt a 0 = 60)) → sgnW (a :: r) = none := fun h1 h2 => by
      have key : ∀ {x : ByteArray}, ¬ (hasP a ge2 = true ∧ isVer (a.extract 2 a.size) = true) := fun {x} h => h1 ⟨ge_short h.1 h.2, h.1⟩
      cases r with
      | nil =>
        have h3 : ¬ (hasP a lt1 = true ∧ isVer (a.extract 1 a.size) = true) := fun h => by
          have h4 := lt_short h.2
          rcases h2 with h2 | h2
          · exact h2 rfl
          · exact h2 ⟨h4, (lt_head h4).2 h.1⟩
        rw [sgnW]
        by_cases h5 : hasP a ge2 = true
        · rw [if_pos h5, if_neg fun h => key (x := a) ⟨h5, h⟩]
        · rw [if_neg h5, if_neg h3]
      | cons b r =>
        cases r with
        | nil => rw [sgnW, if_neg fun h => key (x := a) h.1]
        | cons c r => rfl
    have hw : IntKind.i64.wrap (r.length : Int) = r.length := wrap_i64 (by omega) (by simp at hll; omega)
    by_cases c1 : 2 < a.size
    · have c1' : (2 : Int) < a.size := by omega
      simp [c1', bndV, mkF]
      refine wh_h (h := 2) (k := .i64) rfl (by omega) (by omega) ?_
      simp
      by_cases c2 : hasP a ge2 = true
      · have c2' := (ge_head c1).2 c2
        simp [c2', mkF]
        refine wh_l (l := 2) (k := .i64) rfl (by omega) (by omega) ?_
        simp [okC, putElem, upd, bndV, mkF]
        exact ⟨1, a.extract 2 a.size, by8 "", .inl ⟨⟨rfl, rfl, rfl⟩, c1, c2⟩, by omega, Wk.both (by simp [wkL, wkV.same]; rw [wrap_i64 (i := 1) (by omega) (by omega)]; exact wkV.same _) (by simp [wkB, bndV])⟩
      · have c2' : ¬ a.extract 0 2 = by8 ">=" := fun h => c2 ((ge_head c1).1 h)
        have nA : ¬ (2 < a.size ∧ hasP a ge2 = true) := fun h => c2 h.2
        simp [c2']
        rw [hw]
        cases r with
        | nil =>
          by_cases c3 : 1 < a.size
          · have c3' : (1 : Int) < a.size := by omega
            have c5 : 0 < a.size := by omega
            simp [c3', c5, mkF]
            by_cases c4 : ((bt a 0).toNat : Int) = 60
            · have c4' : bt a 0 = 60 := u8_eq.1 (c4.trans rfl)
              have hgf : hasP a ge2 = false := by
                cases h : hasP a ge2
                · rfl
                · obtain ⟨x, hx⟩ := hasP_iff.1 ((lt_head c3).1 c4')
                  have h6 := lt_not_ge (t := x)
                  rw [← hx, h] at h6; cases h6
              simp [c4, c4', mkF]
              refine wh_l (l := 1) (k := .i64) rfl (by omega) (by omega) ?_
              simp [okC, putElem, upd, bndV, mkF]
              exact ⟨1, by8 "", a.extract 1 a.size, .inr ⟨⟨rfl, rfl, rfl⟩, hgf, c3, (lt_head c3).1 c4'⟩, by omega, Wk.both (by simp [wkL, wkV.same]; rw [wrap_i64 (i := 1) (by omega) (by omega)]; exact wkV.same _) (by simp [wkB, bndV])⟩
            · have c4' : ¬ bt a 0 = 60 := fun e => c4 (by rw [e]; rfl)
              simp [c4, c4', okC, putElem, upd, fill]
              exact Fin_ret2 rfl (by rw [neither nA (.inr fun h => c4' h.2)]; rfl)
          · have c3' : ¬ (1 : Int) < a.size := by omega
            simp [c3', mkF, okC, putElem, upd, fill]
            exact Fin_ret2 rfl (by rw [neither nA (.inr fun h => c3 h.1)]; rfl)
        | cons b r =>
          have c6 : ¬ (0 : Int) = ((b :: r).length : Nat) := by simp; omega
          rw [decide_eq_false c6]
          simp [okC, putElem, upd, fill]
          exact Fin_ret2 rfl (by rw [neither nA (.inl (by simp))]; rfl)
    · have c1' : ¬ (2 : Int) < a.size := by omega
      have nA : ¬ (2 < a.size ∧ hasP a ge2 = true) := fun h => c1 h.1
      simp [c1', bndV, mkF]
      rw [hw]
      cases r with
      | nil =>
        by_cases c3 : 1 < a.size
        · have c3' : (1 : Int) < a.size := by omega
          have c5 : 0 < a.size := by omega
          simp [c3', c5, mkF]
          by_cases c4 : ((bt a 0).toNat : Int) = 60
          · have c4' : bt a 0 = 60 := u8_eq.1 (c4.trans rfl)
            have hgf : hasP a ge2 = false := by
              cases h : hasP a ge2
              · rfl
              · obtain ⟨x, hx⟩ := hasP_iff.1 ((lt_head c3).1 c4')
                have h6 := lt_not_ge (t := x)
                rw [← hx, h] at h6; cases h6
            simp [c4, c4', mkF]
            refine wh_l (l := 1) (k := .i64) rfl (by omega) (by omega) ?_
            simp [okC, putElem, upd, bndV, mkF]
            exact ⟨1, by8 "", a.extract 1 a.size, .inr ⟨⟨rfl, rfl, rfl⟩, hgf, c3, (lt_head c3).1 c4'⟩, by omega, Wk.both (by simp [wkL, wkV.same]; rw [wrap_i64 (i := 1) (by omega) (by omega)]; exact wkV.same _) (by simp [wkB, bndV])⟩
          · have c4' : ¬ bt a 0 = 60 := fun e => c4 (by rw [e]; rfl)
            simp [c4, c4', okC, putElem, upd, fill]
            exact Fin_ret2 rfl (by rw [neither nA (.inr fun h => c4' h.2)]; rfl)
        · have c3' : ¬ (1 : Int) < a.size := by omega
          simp [c3', mkF, okC, putElem, upd, fill]
          exact Fin_ret2 rfl (by rw [neither nA (.inr fun h => c3 h.1)]; rfl)
      | cons b r =>
        have c6 : ¬ (0 : Int) = ((b :: r).length : Nat) := by simp; omega
        rw [decide_eq_false c6]
        simp [okC, putElem, upd, fill]
        exact Fin_ret2 rfl (by rw [neither nA (.inl (by simp))]; rfl)
  · have ze : (a.extract 2 a.size).size = a.size - 2 := by rw [ext_size]; omega
    have hw : IntKind.i64.wrap (r.length : Int) = r.length := wrap_i64 (by omega) (by simp at hll; omega)
    cases r with
    | nil =>
      simp [bndV, okC, frA, frA.frL]
      refine vcall_go (specRngOk_fx hE [(a.extract 2 a.size, by8 "")] (by simp) (by simp [by8_nil, ze]; omega)) (by simp [bndV, ro]) (by simp) (by simp) (by simp) ?_
      rw [rngOk_one, end_nil, end_pos (by omega), Bool.and_true]
      have hsg : sgnW [a] = if isVer (a.extract 2 a.size) = true then some (a.extract 2 a.size, by8 "") else none := by
        rw [sgnW, if_pos hg]
      cases hv : isVer (a.extract 2 a.size)
      · rw [hv, if_neg (by simp)] at hsg
        simp [okC, putElem, upd, fill]
        exact Fin_ret2 rfl (by rw [hsg]; rfl)
      · rw [hv, if_pos rfl] at hsg
        simp [okC, putElem, upd, fill]
        exact Fin_ret2 rfl (by rw [hsg]; rfl)
    | cons b r =>
      have zb := hsz 1 b rfl
      have c0 : (1 : Int) < (r.length : Int) + 1 + 1 := by omega
      simp [bndV, mkF, c0]
      have hw2 : IntKind.i64.wrap ((r.length : Int) + 1) = r.length + 1 := wrap_i64 (by omega) (by simp at hll; omega)
      rw [hw2]
      cases r with
      | cons c r =>
        have c6 : ¬ (1 : Int) = (((c :: r).length : Nat) : Int) + 1 := by simp; omega
        rw [decide_eq_false c6]
        simp [okC, putElem, upd, fill]
        exact Fin_ret2 rfl rfl
      | nil =>
        by_cases c3 : 1 < b.size
        · have c3' : (1 : Int) < b.size := by omega
          have c5 : 0 < b.size := by omega
          simp [c3', c5, mkF]
          by_cases c4 : ((bt b 0).toNat : Int) = 60
          · have c4' : bt b 0 = 60 := u8_eq.1 (c4.trans rfl)
            simp [c4, c4', mkF]
            refine wh_l (l := 1) (k := .i64) rfl (by omega) (by omega) ?_
            simp [okC, putElem, upd, bndV, mkF]
            exact ⟨2, a.extract 2 a.size, b.extract 1 b.size, .inr ⟨b, ⟨rfl, rfl, rfl⟩, rfl, ⟨h2, hg⟩, c3, (lt_head c3).1 c4'⟩, by omega, Wk.both (by simp [wkL, wkV.same]; rw [wrap_i64 (i := 2) (by omega) (by omega)]; exact wkV.same _) (by simp [wkB, bndV])⟩
          · have c4' : ¬ bt b 0 = 60 := fun e => c4 (by rw [e]; rfl)
            have hn : sgnW [a, b] = none := by rw [sgnW, if_neg fun h => c4' ((lt_head c3).2 h.2.1)]
            simp [c4, c4', okC, putElem, upd, fill]
            exact Fin_ret2 rfl (by rw [hn]; rfl)
        · have c3' : ¬ (1 : Int) < b.size := by omega
          have hn : sgnW [a, b] = none := by rw [sgnW, if_neg fun h => c3 (lt_short h.2.2)]
          simp [c3', mkF, okC, putElem, upd, fill]
          exact Fin_ret2 rfl (by rw [hn]; rfl)
  · have zb : (a.extract 1 a.size).size = a.size - 1 := by rw [ext_size]; omega
    simp [bndV, okC, frA, frA.frL]
    refine vcall_go (specRngOk_fx hE [(by8 "", a.extract 1 a.size)] (by simp) (by simp [by8_nil, zb]; omega)) (by simp [bndV, ro]) (by simp) (by simp) (by simp) ?_
    rw [rngOk_one, end_nil, end_pos (by omega), Bool.true_and]
    have hsg : sgnW [a] = if isVer (a.extract 1 a.size) = true then some (by8 "", a.extract 1 a.size) else none := by
      rw [sgnW, hg, if_neg (by simp), hl]; simp
    cases hv : isVer (a.extract 1 a.size)
    · rw [hv, if_neg (by simp)] at hsg
      simp [okC, putElem, upd, fill]
      exact Fin_ret2 rfl (by rw [hsg]; rfl)
    · rw [hv, if_pos rfl] at hsg
      simp [okC, putElem, upd, fill]
      exact Fin_ret2 rfl (by rw [hsg]; rfl)
  · have za2 : (a.extract 2 a.size).size = a.size - 2 := by rw [ext_size]; omega
    have zb2 : (b.extract 1 b.size).size = b.size - 1 := by rw [ext_size]; omega
    have zb := hsz 1 b rfl
    simp [bndV, okC, frA, frA.frL]
    refine vcall_go (specRngOk_fx hE [(a.extract 2 a.size, b.extract 1 b.size)] (by simp) (by simp [za2, zb2]; omega)) (by simp [bndV, ro]) (by simp) (by simp) (by simp) ?_
    rw [rngOk_one, end_pos (by omega), end_pos (by omega)]
    have hsg : sgnW [a, b] = if isVer (a.extract 2 a.size) = true ∧ isVer (b.extract 1 b.size) = true then some (a.extract 2 a.size, b.extract 1 b.size) else none := by
      rw [sgnW, hg, hl]; simp
    cases hv : isVer (a.extract 2 a.size)
    · rw [hv, if_neg (by simp)] at hsg
      simp [okC, putElem, upd, fill]
      exact Fin_ret2 rfl (by rw [hsg]; rfl)
    · cases hv2 : isVer (b.extract 1 b.size)
      · rw [hv, hv2, if_neg (by simp)] at hsg
        simp [okC, putElem, upd, fill]
        exact Fin_ret2 rfl (by rw [hsg]; rfl)
      · rw [hv, hv2, if_pos ⟨rfl, rfl⟩] at hsg
        simp [okC, putElem, upd, fill]
        exact Fin_ret2 rfl (by rw [hsg]; rfl)
end
end Go.Proofs.YtgegcfhifojjiaaGreatDoor.Vm
