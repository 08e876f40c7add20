/- The walks and laws of this claim: Vy Ra Rb Rp Rs Rt Ri Rj Pc Gq Gr. -/
import Derived.Test.YticockdhfglolaaGreatDoorPa4
namespace Go.Proofs.YticockdhfglolaaGreatDoor.Vm
open Go Go.RowKit
set_option linter.unusedVariables false
set_option linter.unusedSimpArgs false
def v113 : VC := .seq (.reg false [⟨some 2, .as (.c (.sl ⟨.nl, true⟩ 1 [])), none⟩] [2]) (.seq (.reg false [⟨some 6, .mv (.t 0), none⟩, ⟨some 7, .call false 171 [(.t 6)], none⟩, ⟨some 5, .mv (.t 7), none⟩, ⟨some 8, .ext (.t 5) 0, none⟩, ⟨some 9, .ext (.t 5) 1, none⟩, ⟨some 3, .alloc (.agg [(.lit (.string (by8 ""))), (.lit (.string (by8 "")))]), none⟩, ⟨none, .st 2 (.t 3) (.t 8), none⟩, ⟨some 4, .as (.t 9), none⟩] [6, 7, 5, 8, 9]) (.seq (.seq (.reg false [⟨some 10, .mv (.t 4), none⟩, ⟨some 11, .un .not (.t 10), none⟩] [10]) (.cond (.t 11) (.seq (.reg false [⟨some 12, .bsl 2 [], none⟩, ⟨some 2, .as (.t 12), none⟩] [12]) (.ret)) (.skip))) (.seq (.reg false [⟨some 13, .ld true 2 (.t 3), none⟩, ⟨some 14, .bsl 2 [(.t 13)], none⟩, ⟨some 2, .as (.t 14), none⟩] [13, 14]) (.ret))))
theorem is113 : Is Go.Proofs.Tryz.prog 113 15 v113 [.t 2] := ⟨Go.Proofs.Tryz.f113, dl [(0, [2]), (1, [6, 7, 5, 8, 9]), (2, [10]), (3, [12]), (4, [13, 14])], Go.Proofs.Tryz.func113, by kernel_rfl, by kernel_rfl, by kernel_rfl, by kernel_rfl⟩
def v171 : VC := .seq (.reg false [⟨some 2, .alloc (.agg [(.lit (.string (by8 ""))), (.lit (.string (by8 "")))]), none⟩, ⟨some 3, .as (.c (.lit (.bool false))), none⟩] [3]) (.seq (.reg false [⟨some 9, .mv (.t 0), none⟩, ⟨some 10, .call false 57 [(.t 9)], none⟩, ⟨some 8, .mv (.t 10), none⟩, ⟨some 11, .ext (.t 8) 0, none⟩, ⟨some 12, .ext (.t 8) 1, none⟩, ⟨some 4, .alloc (.agg [(.lit (.int .i64 0)), (.lit (.int .i64 0)), (.lit (.int .i64 0)), (.sl ⟨.nl, true⟩ 1 [])]), none⟩, ⟨none, .st 4 (.t 4) (.t 11), none⟩, ⟨some 5, .as (.t 12), none⟩] [9, 10, 8, 11, 12]) (.seq (.seq (.reg false [⟨some 13, .mv (.t 5), none⟩, ⟨some 14, .un .not (.t 13), none⟩] [13]) (.cond (.t 14) (.seq (.reg false [⟨some 15, .bld [(.lit (.string (by8 ""))), (.lit (.string (by8 "")))] [], none⟩, ⟨none, .st 2 (.t 2) (.t 15), none⟩, ⟨some 3, .as (.c (.lit (.bool false))), none⟩] [15]) (.ret)) (.skip))) (.seq (.reg false [⟨some 6, .as (.c (.lit (.string (by8 "")))), none⟩, ⟨some 7, .as (.c (.lit (.bool false))), none⟩] [6, 7]) (.seq (.seq (.reg false [⟨some 16, .fa 3 (.t 4), none⟩, ⟨some 17, .ld false 1 (.t 16), none⟩, ⟨some 18, .len false (.t 17), none⟩, ⟨some 19, .bin .gtr 0 (.t 18) (.c (.lit (.int .i64 0))), none⟩] [16, 17, 18]) (.cond (.t 19) (.seq (.reg false [⟨some 20, .mv (.t 0), none⟩, ⟨some 21, .bin .add 0 (.t 20) (.c (.lit (.string (by8 ".0")))), none⟩, ⟨some 6, .as (.t 21), none⟩] [20, 21]) (.reg false [⟨some 23, .mv (.t 6), none⟩, ⟨some 24, .call false 57 [(.t 23)], none⟩, ⟨some 22, .mv (.t 24), none⟩, ⟨some 25, .ext (.t 22) 0, none⟩, ⟨some 26, .ext (.t 22) 1, none⟩, ⟨some 7, .as (.t 26), none⟩] [23, 24, 22, 25, 26])) (.reg false [⟨some 28, .ld true 4 (.t 4), none⟩, ⟨some 29, .call false 212 [(.t 28), (.c (.lit (.int .i64 2)))], none⟩, ⟨some 27, .mv (.t 29), none⟩, ⟨some 30, .ext (.t 27) 0, none⟩, ⟨some 31, .ext (.t 27) 1, none⟩, ⟨some 6, .as (.t 30), none⟩, ⟨some 7, .as (.t 31), none⟩] [28, 29, 27, 30, 31]))) (.seq (.seq (.reg false [⟨some 32, .mv (.t 7), none⟩, ⟨some 33, .un .not (.t 32), none⟩] [32]) (.cond (.t 33) (.seq (.reg false [⟨some 34, .bld [(.lit (.string (by8 ""))), (.lit (.string (by8 "")))] [], none⟩, ⟨none, .st 2 (.t 2) (.t 34), none⟩, ⟨some 3, .as (.c (.lit (.bool false))), none⟩] [34]) (.ret)) (.skip))) (.seq (.reg false [⟨some 35, .mv (.t 0), none⟩, ⟨some 36, .mv (.t 6), none⟩, ⟨some 37, .bld [(.lit (.string (by8 ""))), (.lit (.string (by8 "")))] [(0, 1, (.t 35)), (1, 1, (.t 36))], none⟩, ⟨none, .st 2 (.t 2) (.t 37), none⟩, ⟨some 3, .as (.c (.lit (.bool true))), none⟩] [35, 36, 37]) (.ret)))))))
theorem is171 : Is Go.Proofs.Tryz.prog 171 38 v171 [.b 2 true 2, .t 3] := ⟨Go.Proofs.Tryz.f171, dl [(0, [3]), (1, [9, 10, 8, 11, 12]), (2, [13]), (3, [15]), (4, [6, 7]), (5, [16, 17, 18]), (8, [28, 29, 27, 30, 31]), (6, [20, 21]), (7, [23, 24, 22, 25, 26]), (9, [32]), (10, [34]), (11, [35, 36, 37])], Go.Proofs.Tryz.func171, by kernel_rfl, by kernel_rfl, by kernel_rfl, by kernel_rfl⟩
def v212 : VC := .seq (.reg false [⟨some 2, .box 4 (.t 0), none⟩, ⟨some 4, .as (.c (.lit (.string (by8 "")))), none⟩, ⟨some 5, .as (.c (.lit (.bool false))), none⟩] [4, 5]) (.seq (.reg false [⟨some 7, .bsl 1 [], none⟩, ⟨some 8, .fa 3 (.t 2), none⟩, ⟨none, .st 1 (.t 8) (.t 7), none⟩] [7, 8]) (.seq (.reg false [⟨some 9, .ld true 4 (.t 2), none⟩, ⟨some 10, .mv (.t 1), none⟩, ⟨some 11, .call false 237 [(.t 9), (.t 10)], none⟩, ⟨some 6, .alloc (.agg [(.lit (.int .i64 0)), (.lit (.int .i64 0)), (.lit (.int .i64 0)), (.sl ⟨.nl, true⟩ 1 [])]), none⟩, ⟨none, .st 4 (.t 6) (.t 11), none⟩] [9, 10, 11]) (.seq (.seq (.reg false [⟨some 12, .ld true 4 (.t 6), none⟩, ⟨some 13, .ld true 4 (.t 2), none⟩, ⟨some 14, .call false 58 [(.t 12), (.t 13)], none⟩, ⟨some 15, .bin .eql 0 (.t 14) (.c (.lit (.int .i64 0))), none⟩] [12, 13, 14]) (.cond (.t 15) (.seq (.reg false [⟨some 4, .as (.c (.lit (.string (by8 "")))), none⟩, ⟨some 5, .as (.c (.lit (.bool false))), none⟩] []) (.ret)) (.skip))) (.seq (.reg false [⟨some 16, .bsl 1 [(.c (.lit (.string (by8 "0"))))], none⟩, ⟨some 17, .fa 3 (.t 6), none⟩, ⟨none, .st 1 (.t 17) (.t 16), none⟩] [16, 17]) (.seq (.reg false [⟨some 18, .ld true 4 (.t 6), none⟩, ⟨some 19, .call false 103 [(.t 18)], none⟩, ⟨some 4, .as (.t 19), none⟩, ⟨some 5, .as (.c (.lit (.bool true))), none⟩] [18, 19]) (.ret))))))
theorem is212 : Is Go.Proofs.Tryz.prog 212 20 v212 [.t 4, .t 5] := ⟨Go.Proofs.Tryz.f212, dl [(0, [4, 5]), (1, [7, 8]), (2, [9, 10, 11]), (3, [12, 13, 14]), (5, [16, 17]), (6, [18, 19])], Go.Proofs.Tryz.func212, by kernel_rfl, by kernel_rfl, by kernel_rfl, by kernel_rfl⟩
def v237 : VC := .seq (.reg false [⟨some 2, .box 4 (.t 0), none⟩, ⟨some 4, .alloc (.agg [(.lit (.int .i64 0)), (.lit (.int .i64 0)), (.lit (.int .i64 0)), (.sl ⟨.nl, true⟩ 1 [])]), none⟩] []) (.seq (.reg false [⟨some 7, .ld true 4 (.t 2), none⟩, ⟨some 5, .alloc (.agg [(.lit (.int .i64 0)), (.lit (.int .i64 0)), (.lit (.int .i64 0)), (.sl ⟨.nl, true⟩ 1 [])]), none⟩, ⟨none, .st 4 (.t 5) (.t 7), none⟩] [7]) (.seq (.reg false [⟨some 8, .bsl 1 [], none⟩, ⟨some 9, .fa 3 (.t 2), none⟩, ⟨some 10, .ld false 1 (.t 9), none⟩, ⟨some 11, .app 1 16 (.t 8) (.t 10), none⟩, ⟨some 12, .fa 3 (.t 5), none⟩, ⟨none, .st 1 (.t 12) (.t 11), none⟩] [8, 9, 10, 11, 12]) (.seq (.reg false [⟨some 13, .fa 0 (.t 2), none⟩, ⟨some 14, .ld false 1 (.t 13), none⟩, ⟨some 15, .bld [(.lit (.int .i64 0)), (.lit (.int .i64 0)), (.lit (.int .i64 0)), (.sl ⟨.nl, true⟩ 1 [])] [(0, 1, (.t 14))], none⟩, ⟨some 6, .alloc (.agg [(.lit (.int .i64 0)), (.lit (.int .i64 0)), (.lit (.int .i64 0)), (.sl ⟨.nl, true⟩ 1 [])]), none⟩, ⟨none, .st 4 (.t 6) (.t 15), none⟩] [13, 14, 15]) (.seq (.block 0 (.seq (.reg false [⟨some 31, .ld true 4 (.t 2), none⟩, ⟨some 32, .call false 154 [(.t 31)], none⟩, ⟨some 33, .un .not (.t 32), none⟩, ⟨some 34, .mv (.t 33), none⟩, ⟨some 35, .mv (.t 1), (some (34, false))⟩, ⟨some 36, .call false 82 [(.t 35), (.c (.lit (.int .i64 0))), (.c (.lit (.int .i64 2)))], (some (34, false))⟩, ⟨some 37, .un .not (.t 36), (some (34, false))⟩, ⟨some 38, .pick (.t 34) (.c (.lit (.bool true))) (.t 37), none⟩, ⟨some 30, .as (.t 38), none⟩] [31, 32, 33, 34, 35, 36, 37, 38]) (.cond (.t 30) (.seq (.reg false [⟨some 39, .ld true 4 (.t 5), none⟩, ⟨none, .st 4 (.t 4) (.t 39), none⟩] [39]) (.ret)) (.seq (.reg false [⟨some 41, .mv (.t 1), none⟩, ⟨some 42, .bin .eql 0 (.t 41) (.c (.lit (.int .i64 0))), none⟩, ⟨some 40, .as (.t 42), none⟩] [41, 42]) (.cond (.t 40) (.reg false [⟨some 43, .fa 0 (.t 2), none⟩, ⟨some 44, .ld false 1 (.t 43), none⟩, ⟨some 45, .bin .add 0 (.t 44) (.c (.lit (.int .i64 1))), none⟩, ⟨some 46, .fa 0 (.t 6), none⟩, ⟨none, .st 1 (.t 46) (.t 45), none⟩] [43, 44, 45, 46]) (.seq (.reg false [⟨some 48, .mv (.t 1), none⟩, ⟨some 49, .bin .eql 0 (.t 48) (.c (.lit (.int .i64 1))), none⟩, ⟨some 47, .as (.t 49), none⟩] [48, 49]) (.cond (.t 47) (.reg false [⟨some 50, .fa 1 (.t 2), none⟩, ⟨some 51, .ld false 1 (.t 50), none⟩, ⟨some 52, .bin .add 0 (.t 51) (.c (.lit (.int .i64 1))), none⟩, ⟨some 53, .fa 1 (.t 6), none⟩, ⟨none, .st 1 (.t 53) (.t 52), none⟩] [50, 51, 52, 53]) (.seq (.reg false [⟨some 16, .fa 1 (.t 2), none⟩, ⟨some 17, .ld false 1 (.t 16), none⟩, ⟨some 18, .fa 1 (.t 6), none⟩, ⟨none, .st 1 (.t 18) (.t 17), none⟩] [16, 17, 18]) (.seq (.reg false [⟨some 19, .fa 2 (.t 2), none⟩, ⟨some 20, .ld false 1 (.t 19), none⟩, ⟨some 21, .fa 2 (.t 6), none⟩, ⟨none, .st 1 (.t 21) (.t 20), none⟩] [19, 20, 21]) (.seq (.reg false [⟨some 22, .fa 3 (.t 2), none⟩, ⟨some 23, .ld false 1 (.t 22), none⟩, ⟨some 24, .len false (.t 23), none⟩, ⟨some 25, .bin .eql 0 (.t 24) (.c (.lit (.int .i64 0))), none⟩] [22, 23, 24]) (.cond (.t 25) (.reg false [⟨some 26, .fa 2 (.t 2), none⟩, ⟨some 27, .ld false 1 (.t 26), none⟩, ⟨some 28, .bin .add 0 (.t 27) (.c (.lit (.int .i64 1))), none⟩, ⟨some 29, .fa 2 (.t 6), none⟩, ⟨none, .st 1 (.t 29) (.t 28), none⟩] [26, 27, 28, 29]) (.skip)))))))))))) (.seq (.seq (.reg false [⟨some 54, .ld true 4 (.t 6), none⟩, ⟨some 55, .call false 154 [(.t 54)], none⟩, ⟨some 56, .un .not (.t 55), none⟩] [54, 55]) (.cond (.t 56) (.seq (.reg false [⟨some 57, .ld true 4 (.t 5), none⟩, ⟨none, .st 4 (.t 4) (.t 57), none⟩] [57]) (.ret)) (.skip))) (.seq (.reg false [⟨some 58, .ld true 4 (.t 6), none⟩, ⟨none, .st 4 (.t 4) (.t 58), none⟩] [58]) (.ret)))))))
theorem is237 : Is Go.Proofs.Tryz.prog 237 59 v237 [.b 4 true 4] := ⟨Go.Proofs.Tryz.f237, dl [(1, [7]), (2, [8, 9, 10, 11, 12]), (3, [13, 14, 15]), (8, [31, 32, 33, 34, 35, 36, 37, 38]), (10, [41, 42]), (12, [48, 49]), (4, [16, 17, 18]), (5, [19, 20, 21]), (6, [22, 23, 24]), (7, [26, 27, 28, 29]), (13, [50, 51, 52, 53]), (11, [43, 44, 45, 46]), (9, [39]), (14, [54, 55]), (15, [57]), (16, [58])], Go.Proofs.Tryz.func237, by kernel_rfl, by kernel_rfl, by kernel_rfl, by kernel_rfl⟩
def v58 : VC := .seq (.reg false [⟨some 2, .box 4 (.t 0), none⟩, ⟨some 3, .box 4 (.t 1), none⟩, ⟨some 4, .as (.c (.lit (.int .i64 0))), none⟩] [4]) (.seq (.reg true [⟨some 9, .fa 0 (.t 2), none⟩, ⟨some 10, .ld false 1 (.t 9), none⟩, ⟨some 11, .fa 0 (.t 3), none⟩, ⟨some 12, .ld false 1 (.t 11), none⟩, ⟨some 13, .call true 104 [(.t 10), (.t 12)], none⟩, ⟨some 14, .fa 1 (.t 2), none⟩, ⟨some 15, .ld false 1 (.t 14), none⟩, ⟨some 16, .fa 1 (.t 3), none⟩, ⟨some 17, .ld false 1 (.t 16), none⟩, ⟨some 18, .call true 104 [(.t 15), (.t 17)], none⟩, ⟨some 19, .fa 2 (.t 2), none⟩, ⟨some 20, .ld false 1 (.t 19), none⟩, ⟨some 21, .fa 2 (.t 3), none⟩, ⟨some 22, .ld false 1 (.t 21), none⟩, ⟨some 23, .call true 104 [(.t 20), (.t 22)], none⟩, ⟨some 24, .bsl 1 [(.t 13), (.t 18), (.t 23)], none⟩, ⟨some 5, .as (.t 24), none⟩] [9, 10, 11, 12, 13, 14, 15, 16, 17, 18, 19, 20, 21, 22, 23, 24]) (.seq (.seq (.reg false [⟨some 6, .as (.c (.lit (.int .i64 0))), none⟩] []) (.block 0 (.loop (.seq (.seq (.reg false [⟨some 25, .mv (.t 6), none⟩, ⟨some 26, .bin .lss 0 (.t 25) (.c (.lit (.int .i64 3))), none⟩] [25]) (.cond (.t 26) (.skip) (.exit 0))) (.seq (.block 1 (.seq (.reg false [⟨some 29, .mv (.t 5), none⟩, ⟨some 30, .mv (.t 6), none⟩, ⟨some 31, .ia 1 (.t 29) (.t 30), none⟩, ⟨some 32, .ld false 1 (.t 31), none⟩, ⟨some 33, .bin .neq 0 (.t 32) (.c (.lit (.int .i64 0))), none⟩] [29, 30, 31, 32]) (.cond (.t 33) (.seq (.reg false [⟨some 34, .mv (.t 5), none⟩, ⟨some 35, .mv (.t 6), none⟩, ⟨some 36, .ia 1 (.t 34) (.t 35), none⟩, ⟨some 37, .ld false 1 (.t 36), none⟩, ⟨some 4, .as (.t 37), none⟩] [34, 35, 36, 37]) (.ret)) (.skip)))) (.reg false [⟨some 27, .mv (.t 6), none⟩, ⟨some 28, .bin .add 0 (.t 27) (.c (.lit (.int .i64 1))), none⟩, ⟨some 6, .as (.t 28), none⟩] [27, 28])))))) (.seq (.seq (.reg false [⟨some 38, .fa 3 (.t 2), none⟩, ⟨some 39, .ld false 1 (.t 38), none⟩, ⟨some 40, .len false (.t 39), none⟩, ⟨some 41, .bin .eql 0 (.t 40) (.c (.lit (.int .i64 0))), none⟩, ⟨some 42, .mv (.t 41), none⟩, ⟨some 43, .fa 3 (.t 3), (some (42, false))⟩, ⟨some 44, .ld false 1 (.t 43), (some (42, false))⟩, ⟨some 45, .len false (.t 44), (some (42, false))⟩, ⟨some 46, .bin .eql 0 (.t 45) (.c (.lit (.int .i64 0))), (some (42, false))⟩, ⟨some 47, .pick (.t 42) (.c (.lit (.bool true))) (.t 46), none⟩] [38, 39, 40, 41, 42, 43, 44, 45, 46]) (.cond (.t 47) (.seq (.reg false [⟨some 48, .fa 3 (.t 3), none⟩, ⟨some 49, .ld false 1 (.t 48), none⟩, ⟨some 50, .len false (.t 49), none⟩, ⟨some 51, .fa 3 (.t 2), none⟩, ⟨some 52, .ld false 1 (.t 51), none⟩, ⟨some 53, .len false (.t 52), none⟩, ⟨some 54, .call false 104 [(.t 50), (.t 53)], none⟩, ⟨some 4, .as (.t 54), none⟩] [48, 49, 50, 51, 52, 53, 54]) (.ret)) (.skip))) (.seq (.seq (.reg false [⟨some 7, .as (.c (.lit (.int .i64 0))), none⟩] []) (.block 2 (.loop (.seq (.seq (.reg false [⟨some 55, .mv (.t 7), none⟩, ⟨some 56, .fa 3 (.t 2), none⟩, ⟨some 57, .ld false 1 (.t 56), none⟩, ⟨some 58, .len false (.t 57), none⟩, ⟨some 59, .bin .lss 0 (.t 55) (.t 58), none⟩, ⟨some 60, .mv (.t 59), none⟩, ⟨some 61, .mv (.t 7), (some (60, true))⟩, ⟨some 62, .fa 3 (.t 3), (some (60, true))⟩, ⟨some 63, .ld false 1 (.t 62), (some (60, true))⟩, ⟨some 64, .len false (.t 63), (some (60, true))⟩, ⟨some 65, .bin .lss 0 (.t 61) (.t 64), (some (60, true))⟩, ⟨some 66, .pick (.t 60) (.t 65) (.c (.lit (.bool false))), none⟩] [55, 56, 57, 58, 59, 60, 61, 62, 63, 64, 65]) (.cond (.t 66) (.skip) (.exit 2))) (.seq (.block 3 (.seq (.reg true [⟨some 69, .fa 3 (.t 2), none⟩, ⟨some 70, .ld false 1 (.t 69), none⟩, ⟨some 71, .mv (.t 7), none⟩, ⟨some 72, .ia 1 (.t 70) (.t 71), none⟩, ⟨some 73, .ld false 1 (.t 72), none⟩, ⟨some 74, .fa 3 (.t 3), none⟩, ⟨some 75, .ld false 1 (.t 74), none⟩, ⟨some 76, .mv (.t 7), none⟩, ⟨some 77, .ia 1 (.t 75) (.t 76), none⟩, ⟨some 78, .ld false 1 (.t 77), none⟩, ⟨some 79, .call true 105 [(.t 73), (.t 78)], none⟩, ⟨some 8, .as (.t 79), none⟩] [69, 70, 71, 72, 73, 74, 75, 76, 77, 78, 79]) (.seq (.reg false [⟨some 80, .mv (.t 8), none⟩, ⟨some 81, .bin .neq 0 (.t 80) (.c (.lit (.int .i64 0))), none⟩] [80]) (.cond (.t 81) (.seq (.reg false [⟨some 82, .mv (.t 8), none⟩, ⟨some 4, .as (.t 82), none⟩] [82]) (.ret)) (.skip))))) (.reg false [⟨some 67, .mv (.t 7), none⟩, ⟨some 68, .bin .add 0 (.t 67) (.c (.lit (.int .i64 1))), none⟩, ⟨some 7, .as (.t 68), none⟩] [67, 68])))))) (.seq (.reg false [⟨some 83, .fa 3 (.t 2), none⟩, ⟨some 84, .ld false 1 (.t 83), none⟩, ⟨some 85, .len false (.t 84), none⟩, ⟨some 86, .fa 3 (.t 3), none⟩, ⟨some 87, .ld false 1 (.t 86), none⟩, ⟨some 88, .len false (.t 87), none⟩, ⟨some 89, .call false 104 [(.t 85), (.t 88)], none⟩, ⟨some 4, .as (.t 89), none⟩] [83, 84, 85, 86, 87, 88, 89]) (.ret))))))
theorem is58 : Is Go.Proofs.Tryz.prog 58 90 v58 [.t 4] := ⟨Go.Proofs.Tryz.f58, dl [(0, [4]), (1, [9, 10, 11, 12, 13, 14, 15, 16, 17, 18, 19, 20, 21, 22, 23, 24]), (3, [25]), (5, [29, 30, 31, 32]), (6, [34, 35, 36, 37]), (4, [27, 28]), (7, [38, 39, 40, 41, 42, 43, 44, 45, 46]), (8, [48, 49, 50, 51, 52, 53, 54]), (10, [55, 56, 57, 58, 59, 60, 61, 62, 63, 64, 65]), (12, [69, 70, 71, 72, 73, 74, 75, 76, 77, 78, 79]), (13, [80]), (14, [82]), (11, [67, 68]), (15, [83, 84, 85, 86, 87, 88, 89])], Go.Proofs.Tryz.func58, by kernel_rfl, by kernel_rfl, by kernel_rfl, by kernel_rfl⟩
def v104 : VC := .seq (.reg false [⟨some 4, .as (.c (.lit (.int .i64 0))), none⟩] [4]) (.seq (.block 0 (.seq (.reg false [⟨some 6, .mv (.t 0), none⟩, ⟨some 7, .mv (.t 1), none⟩, ⟨some 8, .bin .lss 0 (.t 6) (.t 7), none⟩, ⟨some 5, .as (.t 8), none⟩] [6, 7, 8]) (.cond (.t 5) (.seq (.reg false [⟨some 4, .as (.c (.lit (.int .i64 (-1)))), none⟩] []) (.ret)) (.seq (.reg false [⟨some 10, .mv (.t 0), none⟩, ⟨some 11, .mv (.t 1), none⟩, ⟨some 12, .bin .gtr 0 (.t 10) (.t 11), none⟩, ⟨some 9, .as (.t 12), none⟩] [10, 11, 12]) (.cond (.t 9) (.seq (.reg false [⟨some 4, .as (.c (.lit (.int .i64 1))), none⟩] []) (.ret)) (.skip)))))) (.seq (.reg false [⟨some 4, .as (.c (.lit (.int .i64 0))), none⟩] []) (.ret)))
theorem is104 : Is Go.Proofs.Tryz.prog 104 13 v104 [.t 4] := ⟨Go.Proofs.Tryz.f104, dl [(0, [4]), (1, [6, 7, 8]), (3, [10, 11, 12])], Go.Proofs.Tryz.func104, by kernel_rfl, by kernel_rfl, by kernel_rfl, by kernel_rfl⟩
def v155 : VC := .seq (.reg false [⟨some 4, .as (.c (.lit (.int .i64 0))), none⟩] [4]) (.seq (.block 0 (.seq (.reg false [⟨some 6, .mv (.t 0), none⟩, ⟨some 7, .mv (.t 1), none⟩, ⟨some 8, .bin .lss 0 (.t 6) (.t 7), none⟩, ⟨some 5, .as (.t 8), none⟩] [6, 7, 8]) (.cond (.t 5) (.seq (.reg false [⟨some 4, .as (.c (.lit (.int .i64 (-1)))), none⟩] []) (.ret)) (.seq (.reg false [⟨some 10, .mv (.t 0), none⟩, ⟨some 11, .mv (.t 1), none⟩, ⟨some 12, .bin .gtr 0 (.t 10) (.t 11), none⟩, ⟨some 9, .as (.t 12), none⟩] [10, 11, 12]) (.cond (.t 9) (.seq (.reg false [⟨some 4, .as (.c (.lit (.int .i64 1))), none⟩] []) (.ret)) (.skip)))))) (.seq (.reg false [⟨some 4, .as (.c (.lit (.int .i64 0))), none⟩] []) (.ret)))
theorem is155 : Is Go.Proofs.Tryz.prog 155 13 v155 [.t 4] := ⟨Go.Proofs.Tryz.f155, dl [(0, [4]), (1, [6, 7, 8]), (3, [10, 11, 12])], Go.Proofs.Tryz.func155, by kernel_rfl, by kernel_rfl, by kernel_rfl, by kernel_rfl⟩
def v105 : VC := .seq (.reg false [⟨some 4, .as (.c (.lit (.int .i64 0))), none⟩] [4]) (.seq (.reg false [⟨some 7, .mv (.t 0), none⟩, ⟨some 8, .call false 102 [(.t 7)], none⟩, ⟨some 9, .mv (.t 1), none⟩, ⟨some 10, .call false 102 [(.t 9)], none⟩, ⟨some 5, .as (.t 8), none⟩, ⟨some 6, .as (.t 10), none⟩] [7, 8, 9, 10]) (.seq (.block 0 (.seq (.reg false [⟨some 12, .mv (.t 5), none⟩, ⟨some 13, .bin .geq 0 (.t 12) (.c (.lit (.int .i64 0))), none⟩, ⟨some 14, .mv (.t 13), none⟩, ⟨some 15, .mv (.t 6), (some (14, true))⟩, ⟨some 16, .bin .geq 0 (.t 15) (.c (.lit (.int .i64 0))), (some (14, true))⟩, ⟨some 17, .pick (.t 14) (.t 16) (.c (.lit (.bool false))), none⟩, ⟨some 11, .as (.t 17), none⟩] [12, 13, 14, 15, 16, 17]) (.cond (.t 11) (.seq (.reg false [⟨some 18, .mv (.t 5), none⟩, ⟨some 19, .mv (.t 6), none⟩, ⟨some 20, .call false 104 [(.t 18), (.t 19)], none⟩, ⟨some 4, .as (.t 20), none⟩] [18, 19, 20]) (.ret)) (.seq (.reg false [⟨some 22, .mv (.t 5), none⟩, ⟨some 23, .bin .geq 0 (.t 22) (.c (.lit (.int .i64 0))), none⟩, ⟨some 21, .as (.t 23), none⟩] [22, 23]) (.cond (.t 21) (.seq (.reg false [⟨some 4, .as (.c (.lit (.int .i64 (-1)))), none⟩] []) (.ret)) (.seq (.reg false [⟨some 25, .mv (.t 6), none⟩, ⟨some 26, .bin .geq 0 (.t 25) (.c (.lit (.int .i64 0))), none⟩, ⟨some 24, .as (.t 26), none⟩] [25, 26]) (.cond (.t 24) (.seq (.reg false [⟨some 4, .as (.c (.lit (.int .i64 1))), none⟩] []) (.ret)) (.skip)))))))) (.seq (.reg false [⟨some 27, .mv (.t 0), none⟩, ⟨some 28, .mv (.t 1), none⟩, ⟨some 29, .call false 155 [(.t 27), (.t 28)], none⟩, ⟨some 4, .as (.t 29), none⟩] [27, 28, 29]) (.ret))))
theorem is105 : Is Go.Proofs.Tryz.prog 105 30 v105 [.t 4] := ⟨Go.Proofs.Tryz.f105, dl [(0, [4]), (1, [7, 8, 9, 10]), (2, [12, 13, 14, 15, 16, 17]), (4, [22, 23]), (6, [25, 26]), (3, [18, 19, 20]), (8, [27, 28, 29])], Go.Proofs.Tryz.func105, by kernel_rfl, by kernel_rfl, by kernel_rfl, by kernel_rfl⟩
def v176 : VC := .seq (.reg false [⟨some 1, .box 4 (.t 0), none⟩, ⟨some 2, .alloc (.agg [(.lit (.string (by8 ""))), (.lit (.string (by8 "")))]), none⟩] []) (.seq (.reg false [⟨some 5, .fa 0 (.t 1), none⟩, ⟨some 6, .ld false 1 (.t 5), none⟩, ⟨some 7, .fa 1 (.t 1), none⟩, ⟨some 8, .ld false 1 (.t 7), none⟩, ⟨some 9, .fa 2 (.t 1), none⟩, ⟨some 10, .ld false 1 (.t 9), none⟩, ⟨some 11, .bin .add 0 (.t 10) (.c (.lit (.int .i64 1))), none⟩, ⟨some 12, .call false 193 [(.t 6), (.t 8), (.t 11)], none⟩, ⟨some 3, .as (.t 12), none⟩] [5, 6, 7, 8, 9, 10, 11, 12]) (.seq (.seq (.reg false [⟨some 13, .fa 3 (.t 1), none⟩, ⟨some 14, .ld false 1 (.t 13), none⟩, ⟨some 15, .len false (.t 14), none⟩, ⟨some 16, .bin .gtr 0 (.t 15) (.c (.lit (.int .i64 0))), none⟩] [13, 14, 15]) (.cond (.t 16) (.seq (.reg false [⟨some 17, .ld true 4 (.t 1), none⟩, ⟨some 4, .alloc (.agg [(.lit (.int .i64 0)), (.lit (.int .i64 0)), (.lit (.int .i64 0)), (.sl ⟨.nl, true⟩ 1 [])]), none⟩, ⟨none, .st 4 (.t 4) (.t 17), none⟩] [17]) (.seq (.reg false [⟨some 18, .fa 3 (.t 1), none⟩, ⟨some 19, .ld false 1 (.t 18), none⟩, ⟨some 20, .call false 39 [(.t 19)], none⟩, ⟨some 21, .bsl 1 [(.c (.lit (.string (by8 "0"))))], none⟩, ⟨some 22, .app 1 16 (.t 20) (.t 21), none⟩, ⟨some 23, .fa 3 (.t 4), none⟩, ⟨none, .st 1 (.t 23) (.t 22), none⟩] [18, 19, 20, 21, 22, 23]) (.reg false [⟨some 24, .ld true 4 (.t 4), none⟩, ⟨some 25, .call false 158 [(.t 24)], none⟩, ⟨some 3, .as (.t 25), none⟩] [24, 25]))) (.skip))) (.seq (.reg false [⟨some 26, .ld true 4 (.t 1), none⟩, ⟨some 27, .call false 158 [(.t 26)], none⟩, ⟨some 28, .mv (.t 3), none⟩, ⟨some 29, .bld [(.lit (.string (by8 ""))), (.lit (.string (by8 "")))] [(0, 1, (.t 27)), (1, 1, (.t 28))], none⟩, ⟨none, .st 2 (.t 2) (.t 29), none⟩] [26, 27, 28, 29]) (.ret))))
theorem is176 : Is Go.Proofs.Tryz.prog 176 30 v176 [.b 2 true 2] := ⟨Go.Proofs.Tryz.f176, dl [(1, [5, 6, 7, 8, 9, 10, 11, 12]), (2, [13, 14, 15]), (3, [17]), (4, [18, 19, 20, 21, 22, 23]), (5, [24, 25]), (6, [26, 27, 28, 29])], Go.Proofs.Tryz.func176, by kernel_rfl, by kernel_rfl, by kernel_rfl, by kernel_rfl⟩
def v193 : VC := .seq (.reg false [⟨some 6, .as (.c (.lit (.string (by8 "")))), none⟩] [6]) (.seq (.reg false [⟨some 7, .mv (.t 0), none⟩, ⟨some 8, .mv (.t 1), none⟩, ⟨some 9, .mv (.t 2), none⟩, ⟨some 10, .bsl 1 [(.c (.lit (.string (by8 "0"))))], none⟩, ⟨some 11, .bld [(.lit (.int .i64 0)), (.lit (.int .i64 0)), (.lit (.int .i64 0)), (.sl ⟨.nl, true⟩ 1 [])] [(0, 1, (.t 7)), (1, 1, (.t 8)), (2, 1, (.t 9)), (3, 1, (.t 10))], none⟩, ⟨some 12, .call false 158 [(.t 11)], none⟩, ⟨some 6, .as (.t 12), none⟩] [7, 8, 9, 10, 11, 12]) (.ret))
theorem is193 : Is Go.Proofs.Tryz.prog 193 13 v193 [.t 6] := ⟨Go.Proofs.Tryz.f193, dl [(0, [6]), (1, [7, 8, 9, 10, 11, 12])], Go.Proofs.Tryz.func193, by kernel_rfl, by kernel_rfl, by kernel_rfl, by kernel_rfl⟩
def v39 : VC := .seq (.reg false [⟨some 2, .as (.c (.sl ⟨.nl, true⟩ 1 [])), none⟩] [2]) (.seq (.seq (.reg false [⟨some 3, .mv (.t 0), none⟩, ⟨some 4, .isn false (.t 3), none⟩] [3]) (.cond (.t 4) (.seq (.reg false [⟨some 2, .as (.c (.sl ⟨.nl, true⟩ 1 [])), none⟩] []) (.ret)) (.skip))) (.seq (.reg false [⟨some 5, .bsl 1 [], none⟩, ⟨some 6, .mv (.t 0), none⟩, ⟨some 7, .app 1 16 (.t 5) (.t 6), none⟩, ⟨some 2, .as (.t 7), none⟩] [5, 6, 7]) (.ret)))
theorem is39 : Is Go.Proofs.Tryz.prog 39 8 v39 [.t 2] := ⟨Go.Proofs.Tryz.f39, dl [(0, [2]), (1, [3]), (3, [5, 6, 7])], Go.Proofs.Tryz.func39, by kernel_rfl, by kernel_rfl, by kernel_rfl, by kernel_rfl⟩
def cmpI (a b : Int) : Int := if a < b then -1 else if b < a then 1 else 0
def cmpS (a b : ByteArray) : Int := if slt a b = true then -1 else if a = b then 0 else 1
noncomputable def cmpP (a b : ByteArray) : Int := if 0 ≤ readDec a then (if 0 ≤ readDec b then cmpI (readDec a) (readDec b) else -1) else if 0 ≤ readDec b then 1 else cmpS a b
noncomputable def cmpL : List ByteArray → List ByteArray → Int
  | a :: r, b :: t => if cmpP a b ≠ 0 then cmpP a b else cmpL r t
  | l, m => cmpI l.length m.length
noncomputable def cmpV (a b : Ver) : Int := if cmpI a.maj b.maj ≠ 0 then cmpI a.maj b.maj else if cmpI a.min b.min ≠ 0 then cmpI a.min b.min else if cmpI a.pat b.pat ≠ 0 then cmpI a.pat b.pat else if a.pre = [] ∨ b.pre = [] then cmpI b.pre.length a.pre.length else cmpL a.pre b.pre
theorem cmpI_self (a : Int) : cmpI a a = 0 := by unfold cmpI; rw [if_neg (by omega), if_neg (by omega)]
theorem cmpI_succ (a : Int) : cmpI (a + 1) a = 1 := by unfold cmpI; rw [if_neg (by omega), if_pos (by omega)]
theorem cmpI_shift (a b c : Int) : cmpI (a + c) (b + c) = cmpI a b := by
  unfold cmpI
  by_cases h1 : a < b
  · rw [if_pos h1, if_pos (by omega)]
  · rw [if_neg h1, if_neg (by omega)]
    by_cases h2 : b < a
    · rw [if_pos h2, if_pos (by omega)]
    · rw [if_neg h2, if_neg (by omega)]
theorem cmpL_end {l m : List ByteArray} (h : l = [] ∨ m = []) : cmpL l m = cmpI l.length m.length := by
  rcases h with rfl | rfl
  · cases m <;> rfl
  · cases l <;> rfl
/-- the next version of a part, without texts behind -/
def nextV (v : Ver) (p : Int) : Ver := if p = 0 then ⟨v.maj + 1, 0, 0, []⟩ else if p = 1 then ⟨v.maj, v.min + 1, 0, []⟩ else ⟨v.maj, v.min, v.pat + 1, []⟩
noncomputable def nextRes (v : Ver) (p : Int) : AV := if verOk (nextV v p) = true then .agg [.lit (.int .i64 (nextV v p).maj), .lit (.int .i64 (nextV v p).min), .lit (.int .i64 (nextV v p).pat), .sl ⟨.nl, true⟩ 1 []] else .agg [.lit (.int .i64 v.maj), .lit (.int .i64 v.min), .lit (.int .i64 v.pat), .sl ⟨.no, false⟩ 1 []]
noncomputable def belowRes (v : Ver) (p : Int) : AV := if verOk (nextV v p) = true then .tup [.lit (.string (verT ⟨(nextV v p).maj, (nextV v p).min, (nextV v p).pat, [by8 "0"]⟩)), .lit (.bool true)] else .tup [.lit (.string (by8 "")), .lit (.bool false)]
noncomputable def aloneRes (s : ByteArray) : AV := match exactO s with
  | some p => .tup [bndV p.1 p.2, .lit (.bool true)]
  | none => .tup [bndV (by8 "") (by8 ""), .lit (.bool false)]
theorem next_greater {v : Ver} {p : Int} (hp : p = 0 ∨ p = 1 ∨ p = 2) : cmpV (nextV v p) ⟨v.maj, v.min, v.pat, []⟩ = 1 := by
  rcases hp with rfl | rfl | rfl
  · simp [nextV, cmpV, cmpI_succ]
  · simp [nextV, cmpV, cmpI_succ, cmpI_self]
  · simp [nextV, cmpV, cmpI_succ, cmpI_self]
structure CmpI (x y z : Int) (i : Nat) : Prop where
  le : i ≤ 3
  g1 : 0 < i → x = 0
  g2 : 1 < i → y = 0
  g3 : 2 < i → z = 0
theorem cmpV_self (v : Ver) : cmpV ⟨v.maj, v.min, v.pat, []⟩ ⟨v.maj, v.min, v.pat, []⟩ = 0 := by simp [cmpV, cmpI_self]
section
variable {E : Env} (hE : E.P = Go.Proofs.Tryz.prog) (hZ : ∀ w, E.K w → KZ w)
include hE
theorem l02Less_fx (a b : Int) : Fx E 104 [] [.lit (.int .i64 a), .lit (.int .i64 b)] [] (.lit (.int .i64 (cmpI a b))) := by
  refine (is104.to hE).fx [] (by simp) rfl rfl ?_
  simp [v104]
  by_cases c1 : a < b
  · simp [c1]
    exact Fin_ret rfl (by rw [cmpI, if_pos c1]; rfl)
  · simp [c1]
    by_cases c2 : b < a
    · simp [c2]
      exact Fin_ret rfl (by rw [cmpI, if_neg c1, if_pos c2]; rfl)
    · simp [c2]
      exact Fin_ret rfl (by rw [cmpI, if_neg c1, if_neg c2]; rfl)
theorem l02Texts_fx (a b : ByteArray) : Fx E 155 [] [.lit (.string a), .lit (.string b)] [] (.lit (.int .i64 (cmpS a b))) := by
  refine (is155.to hE).fx [] (by simp) rfl rfl ?_
  simp [v155]
  cases c1 : slt a b
  · simp
    by_cases c2 : a = b
    · have hc : cmpS a b = 0 := by rw [cmpS, c1, if_neg (by simp), if_pos c2]
      rw [hc]
      subst c2
      simp [c1]
      exact Fin_ret rfl rfl
    · have hc : cmpS a b = 1 := by rw [cmpS, c1, if_neg (by simp), if_neg c2]
      rw [hc]
      simp [c1, c2]
      exact Fin_ret rfl rfl
  · simp
    exact Fin_ret rfl (by rw [cmpS, if_pos c1]; rfl)
theorem l02Part_fx (a b : ByteArray) (ha : a.size ≤ 9223372036854775806) (hb : b.size ≤ 9223372036854775806) : Fx E 105 [] [.lit (.string a), .lit (.string b)] [] (.lit (.int .i64 (cmpP a b))) := by
  refine (is105.to hE).fx [] (by simp) rfl rfl ?_
  simp [v105]
  refine vcall_go (specReadDec_fx hE a ha) (by simp) (by simp) (by simp) (by simp) ?_
  simp
  refine vcall_go (specReadDec_fx hE b hb) (by simp) (by simp) (by simp) (by simp) ?_
  have hc : cmpP a b = if 0 ≤ readDec a then (if 0 ≤ readDec b then cmpI (readDec a) (readDec b) else -1) else if 0 ≤ readDec b then 1 else cmpS a b := rfl
  obtain ⟨x, hx⟩ : ∃ x, readDec a = x := ⟨_, rfl⟩
  obtain ⟨y, hy⟩ : ∃ y, readDec b = y := ⟨_, rfl⟩
  rw [hx, hy] at hc
  rw [hx, hy]
  simp
  by_cases c1 : 0 ≤ x
  · simp [c1]
    by_cases c2 : 0 ≤ y
    · simp [c2]
      refine vcall_go (l02Less_fx hE x y) (by simp) (by simp) (by simp) (by simp) ?_
      simp
      exact Fin_ret rfl (by rw [hc, if_pos c1, if_pos c2]; rfl)
    · simp [c1, c2]
      exact Fin_ret rfl (by rw [hc, if_pos c1, if_neg c2]; rfl)
  · simp [c1]
    by_cases c2 : 0 ≤ y
    · simp [c1, c2]
      exact Fin_ret rfl (by rw [hc, if_neg c1, if_pos c2]; rfl)
    · simp [c1, c2]
      refine vcall_go (l02Texts_fx hE a b) (by simp) (by simp) (by simp) (by simp) ?_
      simp
      exact Fin_ret rfl (by rw [hc, if_neg c1, if_neg c2]; rfl)
set_option maxHeartbeats 2000000 in
theorem specCmp_fx (a b : Ver) (la : a.pre.length ≤ 4294967296) (lb : b.pre.length ≤ 4294967296) (ha : ∀ p ∈ a.pre, p.size ≤ 4294967296) (hb : ∀ p ∈ b.pre, p.size ≤ 4294967296) : Fx E 58 [] [.agg a.av, .agg b.av] [] (.lit (.int .i64 (cmpV a b))) := by
  have hav : a.av = [.lit (.int .i64 a.maj), .lit (.int .i64 a.min), .lit (.int .i64 a.pat), .sl ro 1 (a.pre.map fun x => .lit (.string x))] := rfl
  have hbv : b.av = [.lit (.int .i64 b.maj), .lit (.int .i64 b.min), .lit (.int .i64 b.pat), .sl ro 1 (b.pre.map fun x => .lit (.string x))] := rfl
  have hcv : cmpV a b = if cmpI a.maj b.maj ≠ 0 then cmpI a.maj b.maj else if cmpI a.min b.min ≠ 0 then cmpI a.min b.min else if cmpI a.pat b.pat ≠ 0 then cmpI a.pat b.pat else if a.pre = [] ∨ b.pre = [] then cmpI b.pre.length a.pre.length else cmpL a.pre b.pre := rfl
  refine (is58.to hE).fx [] (by simp) rfl rfl ?_
  simp [v58, hav, hbv, okC]
  refine vcall_go (l02Less_fx hE a.maj b.maj) (by simp) (by simp) (by simp) (by simp) ?_
  simp
  refine vcall_go (l02Less_fx hE a.min b.min) (by simp) (by simp) (by simp) (by simp) ?_
  simp
  refine vcall_go (l02Less_fx hE a.pat b.pat) (by simp) (by simp) (by simp) (by simp) ?_
  obtain ⟨x, hx⟩ : ∃ x, cmpI a.maj b.maj = x := ⟨_, rfl⟩
  obtain ⟨y, hy⟩ : ∃ y, cmpI a.min b.min = y := ⟨_, rfl⟩
  obtain ⟨z, hz⟩ : ∃ z, cmpI a.pat b.pat = z := ⟨_, rfl⟩
  rw [hx, hy, hz] at hcv
  rw [hx, hy, hz]
  simp [okC, frA, frA.frL]
  refine X_loop (τ := Nat) (fun i => ⟨[(2, .ptr 1000000000002 0 0), (3, .ptr 1000000000003 0 0), (5, .sl ⟨.no, true⟩ 1 [.lit (.int .i64 x), .lit (.int .i64 y), .lit (.int .i64 z)]), (6, .lit (.int .i64 i))], [(1000000000002, [.agg a.av]), (1000000000003, [.agg b.av])]⟩) (CmpI x y z) (fun i => 3 - i) 0 ⟨by omega, fun h => by omega, fun h => by omega, fun h => by omega⟩ (Wk.both (by simp [wkL, wkV.same]; exact wkV_no _ _ _ _) (by simp [wkB, hav, hbv])) ?_
  rintro i ⟨hi, g1, g2, g3⟩
  simp [hav, hbv]
  match i, hi with
  | 0, _ =>
    simp [mkF]
    by_cases c : x = 0
    · have hn : CmpI x y z 1 := ⟨by omega, fun _ => c, fun h => by omega, fun h => by omega⟩
      rw [c] at hn
      simp [c]
      exact ⟨1, hn, by omega, Wk.both (by simp [wkL, wkV.same, c]; rw [wrap_i64 (by omega) (by omega)]; exact wkV.same _) (by simp [wkB, hav, hbv])⟩
    · simp [c]
      exact Fin_ret rfl (by rw [hcv, if_pos c]; rfl)
  | 1, _ =>
    have k1 := g1 (by omega)
    simp [mkF]
    by_cases c : y = 0
    · have hn : CmpI x y z 2 := ⟨by omega, fun _ => k1, fun _ => c, fun h => by omega⟩
      rw [c] at hn
      simp [c]
      exact ⟨2, hn, by omega, Wk.both (by simp [wkL, wkV.same, c]; rw [wrap_i64 (by omega) (by omega)]; exact wkV.same _) (by simp [wkB, hav, hbv])⟩
    · simp [c]
      exact Fin_ret rfl (by rw [hcv, if_neg (by simp [k1]), if_pos c]; rfl)
  | 2, _ =>
    have k1 := g1 (by omega)
    have k2 := g2 (by omega)
    simp [mkF]
    by_cases c : z = 0
    · have hn : CmpI x y z 3 := ⟨by omega, fun _ => k1, fun _ => k2, fun _ => c⟩
      rw [c] at hn
      simp [c]
      exact ⟨3, hn, by omega, Wk.both (by simp [wkL, wkV.same, c]; rw [wrap_i64 (by omega) (by omega)]; exact wkV.same _) (by simp [wkB, hav, hbv])⟩
    · simp [c]
      exact Fin_ret rfl (by rw [hcv, if_neg (by simp [k1]), if_neg (by simp [k2]), if_pos c]; rfl)
  | 3, _ =>
    have k1 := g1 (by omega)
    have k2 := g2 (by omega)
    have k3 := g3 (by omega)
    rw [if_neg (by simp [k1]), if_neg (by simp [k2]), if_neg (by simp [k3])] at hcv
    simp
    have tail : ∀ {Q : Ex → AS → Prop} {l : Lk Q}, True := fun {_ _} => trivial
    by_cases c1 : a.pre = []
    · rw [if_pos (.inl c1)] at hcv
      simp [c1]
      refine vcall_go (l02Less_fx hE b.pre.length 0) (by simp) (by simp) (by simp) (by simp) ?_
      simp
      exact Fin_ret rfl (by rw [hcv, c1]; rfl)
    · have c1' : ¬ (a.pre.length : Int) = 0 := fun h => c1 (List.eq_nil_of_length_eq_zero (by omega))
      simp [c1]
      by_cases c2 : b.pre = []
      · rw [if_pos (.inr c2)] at hcv
        simp [c2]
        refine vcall_go (l02Less_fx hE 0 a.pre.length) (by simp) (by simp) (by simp) (by simp) ?_
        simp
        exact Fin_ret rfl (by rw [hcv, c2]; rfl)
      · rw [if_neg (by rintro (h | h); exact c1 h; exact c2 h)] at hcv
        simp [c2]
        refine X_loop (τ := Nat) (fun i => ⟨[(2, .ptr 1000000000002 0 0), (3, .ptr 1000000000003 0 0), (7, .lit (.int .i64 i))], [(1000000000002, [.agg a.av]), (1000000000003, [.agg b.av])]⟩) (fun i => i ≤ a.pre.length ∧ i ≤ b.pre.length ∧ cmpL a.pre b.pre = cmpL (a.pre.drop i) (b.pre.drop i)) (fun i => a.pre.length - i) 0 (by simp) (Wk.both (by simp [wkL, wkV.same]) (by simp [wkB, hav, hbv])) ?_
        rintro i ⟨hi, hj, hcl⟩
        simp [hav, hbv]
        by_cases l1 : i < a.pre.length
        · simp [l1]
          by_cases l2 : i < b.pre.length
          · rw [List.drop_eq_getElem_cons l1, List.drop_eq_getElem_cons l2] at hcl
            simp only [cmpL] at hcl
            have za := ha _ (List.getElem_mem l1)
            have zb := hb _ (List.getElem_mem l2)
            simp [l1, l2, mkF]
            refine vcall_go (l02Part_fx hE a.pre[i] b.pre[i] (by omega) (by omega)) (by simp) (by simp) (by simp) (by simp) ?_
            simp
            by_cases c3 : cmpP a.pre[i] b.pre[i] = 0
            · rw [if_neg (by simp [c3])] at hcl
              simp [c3]
              exact ⟨i + 1, ⟨by omega, by omega, hcl⟩, by omega, Wk.both (by simp [wkL, wkV.same]; rw [wrapN (by omega)]; exact wkV.same _) (by simp [wkB, hav, hbv])⟩
            · rw [if_pos c3] at hcl
              simp [c3]
              exact Fin_ret rfl (by rw [hcv, hcl]; rfl)
          · obtain rfl : i = b.pre.length := by omega
            rw [cmpL_end (.inr (List.drop_of_length_le (Nat.le_refl _))), List.length_drop, List.length_drop] at hcl
            simp
            refine vcall_go (l02Less_fx hE a.pre.length b.pre.length) (by simp) (by simp) (by simp) (by simp) ?_
            simp
            refine Fin_ret rfl ?_
            have := cmpI_shift ((a.pre.length - b.pre.length : Nat) : Int) ((b.pre.length - b.pre.length : Nat) : Int) b.pre.length
            rw [hcv, hcl, ← this, show ((a.pre.length - b.pre.length : Nat) : Int) + b.pre.length = a.pre.length by omega, show ((b.pre.length - b.pre.length : Nat) : Int) + b.pre.length = b.pre.length by omega]
            rfl
        · obtain rfl : i = a.pre.length := by omega
          rw [cmpL_end (.inl (List.drop_of_length_le (Nat.le_refl _))), List.length_drop, List.length_drop] at hcl
          simp
          refine vcall_go (l02Less_fx hE a.pre.length b.pre.length) (by simp) (by simp) (by simp) (by simp) ?_
          simp
          refine Fin_ret rfl ?_
          have := cmpI_shift ((a.pre.length - a.pre.length : Nat) : Int) ((b.pre.length - a.pre.length : Nat) : Int) a.pre.length
          rw [hcv, hcl, ← this, show ((a.pre.length - a.pre.length : Nat) : Int) + a.pre.length = a.pre.length by omega, show ((b.pre.length - a.pre.length : Nat) : Int) + a.pre.length = b.pre.length by omega]
          rfl
set_option maxHeartbeats 2000000 in
theorem specNext_fx (a b c : Nat) (h1 : a ≤ 999999999) (h2 : b ≤ 999999999) (h3 : c ≤ 999999999) (p : Int) (hp : p = 0 ∨ p = 1 ∨ p = 2) : Fx E 237 [] [.agg (Ver.av ⟨a, b, c, []⟩), .lit (.int .i64 p)] [] (nextRes ⟨a, b, c, []⟩ p) := by
  have hok : verOk ⟨a, b, c, []⟩ = true := by simp [verOk, inR]; omega
  have hres : resOk (nextRes ⟨a, b, c, []⟩ p) = true := by unfold nextRes; split <;> rfl
  refine (is237.to hE).fx [] (by simp) rfl hres ?_
  simp [v237, Ver.av, okC, putElem, upd, fill, ro, frA, frA.frL, mkF, AS.dem, mapV, dem, dem.demL]
  refine vcall_go (specVerOk_fx hE ⟨a, b, c, []⟩ (by simp) (by simp)) (by simp [Ver.av, ro]) (by simp) (by simp) (by simp) ?_
  rw [hok]
  simp
  refine vcall_go (l01In_fx hE p 0 2) (by simp) (by simp) (by simp) (by simp) ?_
  have hin : inR p 0 2 = true := by simp [inR]; omega
  rw [hin]
  simp
  rcases hp with rfl | rfl | rfl
  · have hn : nextV ⟨a, b, c, []⟩ 0 = ⟨(a : Int) + 1, 0, 0, []⟩ := rfl
    simp [okC, putElem, upd]
    rw [wrap_i64 (i := (a : Int) + 1) (by omega) (by omega)]
    refine vcall_go (specVerOk_fx hE ⟨(a : Int) + 1, 0, 0, []⟩ (by simp) (by simp)) (by simp [Ver.av, ro]) (by simp) (by simp) (by simp) ?_
    simp
    cases ho : verOk ⟨(a : Int) + 1, 0, 0, []⟩
    · simp [okC, putElem, upd]
      exact Fin_ret rfl (by rw [nextRes, hn, if_neg (by simp [ho])]; rfl)
    · simp [okC, putElem, upd]
      exact Fin_ret rfl (by rw [nextRes, hn, if_pos ho]; rfl)
  · have hn : nextV ⟨a, b, c, []⟩ 1 = ⟨(a : Int), (b : Int) + 1, 0, []⟩ := rfl
    simp [okC, putElem, upd]
    rw [wrap_i64 (i := (b : Int) + 1) (by omega) (by omega)]
    refine vcall_go (specVerOk_fx hE ⟨(a : Int), (b : Int) + 1, 0, []⟩ (by simp) (by simp)) (by simp [Ver.av, ro]) (by simp) (by simp) (by simp) ?_
    simp
    cases ho : verOk ⟨(a : Int), (b : Int) + 1, 0, []⟩
    · simp [okC, putElem, upd]
      exact Fin_ret rfl (by rw [nextRes, hn, if_neg (by simp [ho])]; rfl)
    · simp [okC, putElem, upd]
      exact Fin_ret rfl (by rw [nextRes, hn, if_pos ho]; rfl)
  · have hn : nextV ⟨a, b, c, []⟩ 2 = ⟨(a : Int), (b : Int), (c : Int) + 1, []⟩ := rfl
    simp [okC, putElem, upd]
    rw [wrap_i64 (i := (c : Int) + 1) (by omega) (by omega)]
    refine vcall_go (specVerOk_fx hE ⟨(a : Int), (b : Int), (c : Int) + 1, []⟩ (by simp) (by simp)) (by simp [Ver.av, ro]) (by simp) (by simp) (by simp) ?_
    simp
    cases ho : verOk ⟨(a : Int), (b : Int), (c : Int) + 1, []⟩
    · simp [okC, putElem, upd]
      exact Fin_ret rfl (by rw [nextRes, hn, if_neg (by simp [ho])]; rfl)
    · simp [okC, putElem, upd]
      exact Fin_ret rfl (by rw [nextRes, hn, if_pos ho]; rfl)
set_option maxHeartbeats 2000000 in
theorem specBelow_fx (v : Ver) (hv : verOk v = true) (p : Int) (hp : p = 0 ∨ p = 1 ∨ p = 2) : Fx E 212 [] [.agg v.av, .lit (.int .i64 p)] [] (belowRes v p) := by
  obtain ⟨⟨a, e1, h1⟩, ⟨b, e2, h2⟩, ⟨c, e3, h3⟩, h4, h5⟩ := verOk_b hv
  obtain ⟨maj, min, pat, pre⟩ := v
  simp only at e1 e2 e3 h4 h5
  subst e1 e2 e3
  have hres : resOk (belowRes ⟨a, b, c, pre⟩ p) = true := by unfold belowRes; split <;> rfl
  have hg := next_greater (v := ⟨a, b, c, pre⟩) hp
  have hs := cmpV_self ⟨a, b, c, pre⟩
  have hb : belowRes ⟨a, b, c, pre⟩ p = if verOk (nextV ⟨a, b, c, pre⟩ p) = true then .tup [.lit (.string (verT ⟨(nextV ⟨a, b, c, pre⟩ p).maj, (nextV ⟨a, b, c, pre⟩ p).min, (nextV ⟨a, b, c, pre⟩ p).pat, [by8 "0"]⟩)), .lit (.bool true)] else .tup [.lit (.string (by8 "")), .lit (.bool false)] := rfl
  have hnx := specNext_fx hE a b c h1 h2 h3 p hp
  have hpre : (nextV ⟨a, b, c, pre⟩ p).pre = [] := by
    rcases hp with rfl | rfl | rfl <;> rfl
  have hnr : nextRes ⟨a, b, c, []⟩ p = if verOk (nextV ⟨a, b, c, pre⟩ p) = true then .agg [.lit (.int .i64 (nextV ⟨a, b, c, pre⟩ p).maj), .lit (.int .i64 (nextV ⟨a, b, c, pre⟩ p).min), .lit (.int .i64 (nextV ⟨a, b, c, pre⟩ p).pat), .sl ⟨.nl, true⟩ 1 []] else .agg [.lit (.int .i64 a), .lit (.int .i64 b), .lit (.int .i64 c), .sl ⟨.no, false⟩ 1 []] := rfl
  rw [hnr] at hnx
  obtain ⟨n, hn⟩ : ∃ n, nextV ⟨a, b, c, pre⟩ p = n := ⟨_, rfl⟩
  rw [hn] at hg hb hnx hpre
  obtain ⟨n1, n2, n3, n4⟩ := n
  simp only at hpre
  subst hpre
  refine (is212.to hE).fx [] (by simp) rfl hres ?_
  simp [v212, Ver.av, okC, putElem, upd, frA, frA.frL]
  cases ho : verOk ⟨n1, n2, n3, []⟩
  · rw [ho, if_neg (by simp)] at hb hnx
    refine vcall_go hnx (by simp [Ver.av, ro]) (by simp) (by simp) (by simp) ?_
    simp [okC, putElem, upd]
    refine vcall_go (specCmp_fx hE ⟨a, b, c, []⟩ ⟨a, b, c, []⟩ (by simp) (by simp) (by simp) (by simp)) (by simp [Ver.av, ro]) (by simp) (by simp) (by simp) ?_
    rw [hs]
    simp
    exact Fin_ret2 rfl (by rw [hb]; rfl)
  · rw [ho, if_pos rfl] at hb hnx
    refine vcall_go hnx (by simp [Ver.av, ro]) (by simp) (by simp) (by simp) ?_
    simp [okC, putElem, upd]
    refine vcall_go (specCmp_fx hE ⟨n1, n2, n3, []⟩ ⟨a, b, c, []⟩ (by simp) (by simp) (by simp) (by simp)) (by simp [Ver.av, ro]) (by simp) (by simp) (by simp) ?_
    rw [hg]
    simp [okC, putElem, upd, frA, frA.frL]
    have es : (by8 "0").size = 1 := by decide +kernel
    refine vcall_go (specVerT_fx hE ⟨n1, n2, n3, [by8 "0"]⟩ (by simp) (by simp [es])) (by simp [Ver.av, ro]) (by simp) (by simp) (by simp) ?_
    simp
    exact Fin_ret2 rfl (by rw [hb]; rfl)
set_option maxHeartbeats 2000000 in
theorem specAlone_fx (s : ByteArray) (hs : s.size ≤ 1073741824) : Fx E 171 [] [.lit (.string s)] [] (aloneRes s) := by
  have hres : resOk (aloneRes s) = true := by unfold aloneRes; cases exactO s <;> rfl
  refine (is171.to hE).fx [] (by simp) rfl hres ?_
  simp [v171, okC]
  refine vcall_go (specReadVer_fx hE s (by omega)) (by simp) (by simp) (by simp) (by simp) ?_
  unfold verRes
  cases hr : readVer s with
  | none =>
    have hx : exactO s = none := by rw [exactO, hr]
    simp [verNone, okC, putElem, upd, fill]
    exact Fin_ret2 rfl (by rw [aloneRes, hx]; rfl)
  | some v =>
    obtain ⟨ho, ht⟩ := ver_back hr
    have hx : exactO s = if exHigh v = by8 "" then none else some (s, exHigh v) := by rw [exactO, hr]
    have hlen := (verOk_b ho).len
    rcases apS_cases s with h | h
    all_goals
      by_cases hp : v.pre = []
      · have hh : exHigh v = verT ⟨v.maj, v.min, v.pat + 1, [by8 "0"]⟩ := by rw [exHigh, if_pos hp]
        have hbl := specBelow_fx hE v ho 2 (by simp)
        have hn : nextV v 2 = ⟨v.maj, v.min, v.pat + 1, []⟩ := rfl
        rw [belowRes, hn] at hbl
        simp [verSome, okC, putElem, upd, h, hp]
        cases hk : verOk ⟨v.maj, v.min, v.pat + 1, []⟩
        · rw [hk, if_neg (by simp)] at hbl
          have hnl : exHigh v = by8 "" := by rw [hh, verT_nil, verOk_pre0, hk]
          rw [if_pos hnl] at hx
          refine vcall_go hbl (by simp [Ver.av, ro, hp]) (by simp) (by simp) (by simp) ?_
          simp [okC, putElem, upd, fill]
          exact Fin_ret2 rfl (by rw [aloneRes, hx]; rfl)
        · rw [hk, if_pos rfl] at hbl
          have hnl : ¬ exHigh v = by8 "" := by rw [hh, verT_nil, verOk_pre0, hk]; simp
          rw [if_neg hnl] at hx
          refine vcall_go hbl (by simp [Ver.av, ro, hp]) (by simp) (by simp) (by simp) ?_
          simp [okC, putElem, upd, fill]
          exact Fin_ret2 rfl (by rw [aloneRes, hx, hh]; rfl)
      · have hh : exHigh v = verT v.app0 := by rw [exHigh, if_neg hp]
        have hd := ver_dot hr hp
        have e2 : (by8 ".0").size = 2 := by decide +kernel
        have hp0 : 0 < v.pre.length := List.length_pos_iff.2 hp
        simp [verSome, okC, putElem, upd, h, hp, hp0]
        refine ⟨by omega, ?_⟩
        refine vcall_go (specReadVer_fx hE (s ++ by8 ".0") (by rw [ByteArray.size_append]; omega)) (by simp) (by simp) (by simp) (by simp) ?_
        unfold verRes
        cases hk : verOk v.app0
        · rw [hk, if_neg (by simp)] at hd
          have hnl : exHigh v = by8 "" := by rw [hh, verT_nil, hk]
          rw [if_pos hnl] at hx
          rw [hd]
          simp [verNone, okC, putElem, upd, fill]
          exact Fin_ret2 rfl (by rw [aloneRes, hx]; rfl)
        · rw [hk, if_pos rfl] at hd
          have hnl : ¬ exHigh v = by8 "" := by rw [hh, verT_nil, hk]; simp
          rw [if_neg hnl] at hx
          have ht2 := (ver_back hd).2
          rw [hd]
          rcases apS_cases (s ++ by8 ".0") with h2 | h2
          all_goals
            simp [verSome, okC, putElem, upd, fill, h2]
            exact Fin_ret2 rfl (by rw [aloneRes, hx, hh, ht2]; rfl)
theorem specExact_fx (s : ByteArray) (hs : s.size ≤ 1073741824) : Fx E 113 [] [.lit (.string s)] [] (exactRes s) := by
  have hres : resOk (exactRes s) = true := by unfold exactRes; cases exactO s <;> rfl
  refine (is113.to hE).fx [] (by simp) rfl hres ?_
  simp [v113, okC]
  refine vcall_go (specAlone_fx hE s hs) (by simp) (by simp) (by simp) (by simp) ?_
  unfold aloneRes exactRes
  cases exactO s with
  | none =>
    simp [bndV, okC, putElem, upd, fill]
    exact Fin_ret rfl rfl
  | some p =>
    simp [bndV, okC, putElem, upd, fill, frA, frA.frL]
    exact Fin_ret rfl rfl
theorem cloneC_fx (xs : List ByteArray) (hne : xs ≠ []) (hn : xs.length ≤ 1099511627776) : Fx E 39 [] [.sl ro 1 (xs.map fun x => .lit (.string x))] [] (.sl ⟨.cl 0, true⟩ 1 (xs.map fun x => .lit (.string x))) := by
  refine (is39.to hE).fx [320] (by simp) rfl rfl ?_
  simp [v39, AS.dem, mapV, dem, dem.demL, frA.frL, ro]
  refine ⟨⟨by omega, ?_⟩, fun h => absurd h hne⟩
  exact Fin_wkz (.frs _) rfl (by simp [mapV, look, reC, frU, litL, AV.cells, isLit])
include hZ
theorem zeroPre_fx (a b c : Int) : Fx E 193 [] [.lit (.int .i64 a), .lit (.int .i64 b), .lit (.int .i64 c)] [] (.lit (.string (verT ⟨a, b, c, [by8 "0"]⟩))) := by
  have es : (by8 "0").size = 1 := by decide +kernel
  refine (is193.to hE).fx [] (by simp) rfl rfl ?_
  simp [v193, okC, putElem, upd, fill, frA, frA.frL]
  refine vcall_go (implVerT_fx hE hZ ⟨a, b, c, [by8 "0"]⟩ (by simp) (by simp [es])) (by simp [Ver.av, ro]) (by simp) (by simp) (by simp) ?_
  simp
  exact Fin_ret rfl rfl
set_option maxHeartbeats 2000000 in
theorem implAlone_fx (v : Ver) (hv : verOk v = true) : Fx E 176 [] [.agg v.av] [] (bndV (verT v) (exHigh v)) := by
  have es : (by8 "0").size = 1 := by decide +kernel
  obtain ⟨⟨a, e1, h1⟩, ⟨b, e2, h2⟩, ⟨c, e3, h3⟩, h4, h5⟩ := verOk_b hv
  have hvt := implVerT_fx hE hZ v (by omega) (fun p hp => by have := h5 p hp; omega)
  refine (is176.to hE).fx [] (by simp) rfl rfl ?_
  simp [v176, Ver.av, okC, putElem, upd, fill]
  rw [wrap_i64 (i := v.pat + 1) (by omega) (by omega)]
  refine vcall_go (zeroPre_fx hE hZ v.maj v.min (v.pat + 1)) (by simp) (by simp) (by simp) (by simp) ?_
  simp
  by_cases hp : v.pre = []
  · have hh : exHigh v = verT ⟨v.maj, v.min, v.pat + 1, [by8 "0"]⟩ := by rw [exHigh, if_pos hp]
    simp [hp]
    refine vcall_go hvt (by simp [Ver.av, ro, hp]) (by simp) (by simp) (by simp) ?_
    simp [okC, putElem, upd, fill]
    exact Fin_ret rfl (by rw [hh]; rfl)
  · have hh : exHigh v = verT v.app0 := by rw [exHigh, if_neg hp]
    have hp0 : 0 < v.pre.length := List.length_pos_iff.2 hp
    have hvt2 := implVerT_fx hE hZ v.app0 (by simp [Ver.app0]; omega) (fun p hm => by
      rcases List.mem_append.1 hm with hm | hm
      · have := h5 p hm; omega
      · rw [List.mem_singleton.1 hm, es]; omega)
    simp [hp, hp0, okC, putElem, upd]
    refine vcall_go (cloneC_fx hE v.pre hp (by omega)) (by simp [ro]) (by simp) (by simp) (by simp) ?_
    simp [okC, putElem, upd, AS.dem, mapV, dem, dem.demL, frA, frA.frL, ro]
    refine ⟨by omega, ?_⟩
    refine vcall_go hvt2 (by simp [Ver.av, Ver.app0, ro]) (by simp) (by simp) (by simp) ?_
    simp
    refine vcall_go hvt (by simp [Ver.av, ro]) (by simp) (by simp) (by simp) ?_
    simp [okC, putElem, upd, fill]
    exact Fin_ret rfl (by rw [hh]; rfl)
end
end Go.Proofs.YticockdhfglolaaGreatDoor.Vm
namespace Go.Proofs.YticockdhfglolaaGreatDoor.Vm
open Go Go.RowKit
set_option linter.unusedVariables false
set_option linter.unusedSimpArgs false
theorem one_free {c d : UInt8} (h : d ≠ c) : free c (one d) := by
  rw [free_iff]; intro b hb; rw [one_list] at hb
  rw [List.mem_singleton.1 hb]; exact h
theorem preOk_free {c : UInt8} (hp : preB c = false) {p : ByteArray} (h : preOk p = true) : free c p := by
  intro j hj e
  simp only [preOk, Bool.and_eq_true] at h
  have := allB_iff.1 h.1.1 j hj
  rw [e, hp] at this
  cases this
theorem tail_free {c : UInt8} (h46 : c ≠ 46) (hp : preB c = false) : ∀ (l : List ByteArray), (∀ p ∈ l, preOk p = true) → free c (tailT l)
  | [], _ => by intro j hj; rw [tailT, by8_nil] at hj; omega
  | p :: r, h => by
    rw [tailT, free_app, free_app, by46]
    exact ⟨⟨one_free (fun e => h46 e.symm), preOk_free hp (h p List.mem_cons_self)⟩, tail_free h46 hp r fun q hq => h q (List.mem_cons_of_mem _ hq)⟩
theorem ver_free {c : UInt8} (hc : c.toNat < 48 ∨ 57 < c.toNat) (h46 : c ≠ 46) (h45 : c ≠ 45) (hp : preB c = false) {s : ByteArray} (hs : isVer s = true) : free c s := by
  unfold isVer at hs
  obtain ⟨v, hv⟩ := Option.isSome_iff_exists.1 hs
  obtain ⟨h1, h2⟩ := ver_back hv
  rw [← h2, verT, if_pos h1, coreT]
  have hd := fun n => dec_free hc n
  have h4 : free c (by8 ".") := by rw [by46]; exact one_free fun e => h46 e.symm
  simp only [free_app]
  refine ⟨⟨⟨⟨⟨hd _, h4⟩, hd _⟩, h4⟩, hd _⟩, ?_⟩
  have hpr := verOk_pre h1
  cases hq : v.pre with
  | nil => intro j hj; rw [preT, by8_nil] at hj; omega
  | cons p r =>
    rw [hq] at hpr
    rw [preT, free_app, free_app, by45]
    exact ⟨⟨one_free fun e => h45 e.symm, preOk_free hp (hpr p List.mem_cons_self)⟩, tail_free h46 hp r fun q hq => hpr q (List.mem_cons_of_mem _ hq)⟩
theorem ver32 {s : ByteArray} (hs : isVer s = true) : free 32 s := ver_free (by decide) (by decide) (by decide) (by decide +kernel) hs
theorem ver64 {s : ByteArray} (hs : isVer s = true) : free 64 s := ver_free (by decide) (by decide) (by decide) (by decide +kernel) hs
theorem ver_pos {s : ByteArray} (hs : isVer s = true) : 0 < s.size := by
  rcases Nat.eq_zero_or_pos s.size with h | h
  · rw [size_nil h, isVer_nil] at hs; cases hs
  · exact h
def ge2 : ByteArray := by8 ">="
def lt1 : ByteArray := by8 "<"
def sl2 : ByteArray := by8 " <"
theorem ge2_eq : ge2 = one 62 ++ one 61 := by decide +kernel
theorem lt1_eq : lt1 = one 60 := by decide +kernel
theorem sl2_eq : sl2 = one 32 ++ one 60 := by decide +kernel
theorem ge2_size : ge2.size = 2 := by decide +kernel
theorem sl2_size : sl2.size = 2 := by decide +kernel
theorem hasP_iff {s p : ByteArray} : hasP s p = true ↔ ∃ t, s = p ++ t := by
  unfold hasP Lib.hasPrefix
  rw [List.isPrefixOf_iff_prefix]
  constructor
  · rintro ⟨t, ht⟩
    exact ⟨⟨t.toArray⟩, ba_ext (by simp [← ht])⟩
  · rintro ⟨t, rfl⟩
    exact ⟨t.data.toList, by simp⟩
theorem ext_app (a b : ByteArray) : (a ++ b).extract a.size (a ++ b).size = b := ext_appR a b _ rfl
theorem app_inj {a b c : ByteArray} (h : a ++ b = a ++ c) : b = c := by
  rw [← ext_app a b, h, ext_app]
/-- signs, word by word -/
noncomputable def sgnW : List ByteArray → Option (ByteArray × ByteArray)
  | [w] => if hasP w ge2 = true then (if isVer (w.extract 2 w.size) = true then some (w.extract 2 w.size, by8 "") else none) else if hasP w lt1 = true ∧ isVer (w.extract 1 w.size) = true then some (by8 "", w.extract 1 w.size) else none
  | [w, x] => if (hasP w ge2 = true ∧ isVer (w.extract 2 w.size) = true) ∧ hasP x lt1 = true ∧ isVer (x.extract 1 x.size) = true then some (w.extract 2 w.size, x.extract 1 x.size) else none
  | _ => none
noncomputable def sgnO (s : ByteArray) : Option (ByteArray × ByteArray) := sgnW (spl 32 s)
theorem lt_not_ge {t : ByteArray} : hasP (lt1 ++ t) ge2 = false := by
  cases h : hasP (lt1 ++ t) ge2
  · rfl
  · obtain ⟨u, hu⟩ := hasP_iff.1 h
    have h1 : bt (lt1 ++ t) 0 = 60 := by rw [bt_appL (by decide +kernel)]; decide +kernel
    have h2 : bt (ge2 ++ u) 0 = 62 := by rw [bt_appL (by decide +kernel)]; decide +kernel
    rw [hu, h2] at h1
    exact absurd h1 (by decide)
theorem ge_not_lt {t : ByteArray} : hasP (ge2 ++ t) lt1 = false := by
  cases h : hasP (ge2 ++ t) lt1
  · rfl
  · obtain ⟨u, hu⟩ := hasP_iff.1 h
    have h1 : bt (ge2 ++ t) 0 = 62 := by rw [bt_appL (by decide +kernel)]; decide +kernel
    have h2 : bt (lt1 ++ u) 0 = 60 := by rw [bt_appL (by decide +kernel)]; decide +kernel
    rw [hu, h2] at h1
    exact absurd h1 (by decide)
theorem spl1 {s : ByteArray} (h : free 32 s) : spl 32 s = [s] := spl_none h
theorem ge_free {l : ByteArray} (h : free 32 l) : free 32 (ge2 ++ l) := by
  rw [free_app, ge2_eq, free_app]
  exact ⟨⟨one_free (by decide), one_free (by decide)⟩, h⟩
theorem lt_free {l : ByteArray} (h : free 32 l) : free 32 (lt1 ++ l) := by
  rw [free_app, lt1_eq]
  exact ⟨one_free (by decide), h⟩
theorem ext_ge (l : ByteArray) : (ge2 ++ l).extract 2 (ge2 ++ l).size = l := by
  have := ext_app ge2 l
  rwa [ge2_size] at this
theorem ext_lt (l : ByteArray) : (lt1 ++ l).extract 1 (lt1 ++ l).size = l := ext_app lt1 l
theorem sgn_low {l : ByteArray} (h : isVer l = true) : sgnO (ge2 ++ l) = some (l, by8 "") := by
  rw [sgnO, spl1 (ge_free (ver32 h)), sgnW, if_pos (hasP_iff.2 ⟨l, rfl⟩), ext_ge, if_pos h]
theorem sgn_high {h : ByteArray} (hh : isVer h = true) : sgnO (lt1 ++ h) = some (by8 "", h) := by
  rw [sgnO, spl1 (lt_free (ver32 hh)), sgnW, lt_not_ge, if_neg (by simp), ext_lt, if_pos ⟨hasP_iff.2 ⟨h, rfl⟩, hh⟩]
theorem sgn_both {l h : ByteArray} (hl : isVer l = true) (hh : isVer h = true) : sgnO (ge2 ++ l ++ sl2 ++ h) = some (l, h) := by
  have e : ge2 ++ l ++ sl2 ++ h = joinB [ge2 ++ l, lt1 ++ h] (one 32) := by
    rw [joinB_cons, joinB_one, sl2_eq, lt1_eq]
    simp only [ByteArray.append_assoc]
  rw [sgnO, e, spl_join 32 _ (by simp) (by
    intro p hp
    simp only [List.mem_cons, List.not_mem_nil, or_false] at hp
    rcases hp with rfl | rfl
    · exact ge_free (ver32 hl)
    · exact lt_free (ver32 hh)), sgnW, ext_ge, ext_lt, if_pos ⟨⟨hasP_iff.2 ⟨l, rfl⟩, hl⟩, hasP_iff.2 ⟨h, rfl⟩, hh⟩]
/-- what signs there can be -/
theorem sgn_inv {s l h : ByteArray} (hs : sgnO s = some (l, h)) : (isVer l = true ∧ h = by8 "" ∧ s = ge2 ++ l) ∨ (l = by8 "" ∧ isVer h = true ∧ s = lt1 ++ h) ∨ (isVer l = true ∧ isVer h = true ∧ s = ge2 ++ l ++ sl2 ++ h) := by
  have hj := join_spl 32 s.size s (Nat.le_refl _)
  unfold sgnO at hs
  generalize spl 32 s = w at hs hj
  match w, hs, hj with
  | [], hs, _ => cases hs
  | [a], hs, hj =>
    rw [joinB_one] at hj
    subst hj
    simp only [sgnW] at hs
    split at hs
    · rename_i h1
      obtain ⟨t, rfl⟩ := hasP_iff.1 h1
      rw [ext_ge] at hs
      split at hs
      · rename_i h2
        obtain ⟨rfl, rfl⟩ := Prod.mk.inj (Option.some.inj hs)
        exact .inl ⟨h2, rfl, rfl⟩
      · cases hs
    · split at hs
      · rename_i h1 h2
        obtain ⟨t, rfl⟩ := hasP_iff.1 h2.1
        rw [ext_lt] at hs h2
        obtain ⟨rfl, rfl⟩ := Prod.mk.inj (Option.some.inj hs)
        exact .inr (.inl ⟨rfl, h2.2, rfl⟩)
      · cases hs
  | [a, b], hs, hj =>
    rw [joinB_cons, joinB_one] at hj
    simp only [sgnW] at hs
    split at hs
    · rename_i h1
      obtain ⟨t, rfl⟩ := hasP_iff.1 h1.1.1
      obtain ⟨u, rfl⟩ := hasP_iff.1 h1.2.1
      rw [ext_ge, ext_lt] at hs h1
      obtain ⟨rfl, rfl⟩ := Prod.mk.inj (Option.some.inj hs)
      refine .inr (.inr ⟨h1.1.2, h1.2.2, ?_⟩)
      rw [← hj, sl2_eq, lt1_eq]
      simp only [ByteArray.append_assoc]
    · cases hs
  | _ :: _ :: _ :: _, hs, _ => cases hs
end Go.Proofs.YticockdhfglolaaGreatDoor.Vm
namespace Go.Proofs.YticockdhfglolaaGreatDoor.Vm
open Go Go.RowKit
set_option linter.unusedVariables false
set_option linter.unusedSimpArgs false
theorem occ_app (a p b : ByteArray) : Lib.occAt (a ++ p ++ b).data.toList p.data.toList a.size = true := by
  unfold Lib.occAt
  rw [List.isPrefixOf_iff_prefix]
  refine ⟨b.data.toList, ?_⟩
  have : a.size = a.data.toList.length := by simp
  simp only [ByteArray.data_append, Array.toList_append, List.append_assoc]
  rw [this, List.drop_left]
theorem occ_split {s p : ByteArray} {i : Nat} (hi : i ≤ s.size) (h : Lib.occAt s.data.toList p.data.toList i = true) : s = s.extract 0 i ++ p ++ s.extract (i + p.size) s.size := by
  unfold Lib.occAt at h
  rw [List.isPrefixOf_iff_prefix] at h
  obtain ⟨t, ht⟩ := h
  have hz : s.data.size = s.size := rfl
  have e : s.data.toList = s.data.toList.take i ++ (p.data.toList ++ t) := by rw [ht, List.take_append_drop]
  have ht2 : s.data.toList.drop (i + p.size) = t := by
    rw [← List.drop_drop, ← ht]
    have : p.size = p.data.toList.length := by simp
    rw [this, List.drop_left]
  refine ba_ext ?_
  simp only [ByteArray.data_append, Array.toList_append, ByteArray.data_extract, Array.toList_extract, List.extract_eq_take_drop, List.drop_zero, Nat.sub_zero, List.append_assoc]
  rw [show s.size - (i + p.size) = (s.data.toList.drop (i + p.size)).length by simp, List.take_length, ht2]
  exact e
theorem index_cases (s p : ByteArray) : (Lib.indexB s p = -1 ∧ ∀ a b, s ≠ a ++ p ++ b) ∨ ∃ i : Nat, Lib.indexB s p = i ∧ i ≤ s.size ∧ s = s.extract 0 i ++ p ++ s.extract (i + p.size) s.size ∧ ∀ a b, s = a ++ p ++ b → i ≤ a.size := by
  have hl : s.data.toList.length = s.size := by simp
  rcases Lib.index_spec s.data.toList p.data.toList with ⟨h1, h2⟩ | ⟨i, h1, h2, h3, h4⟩
  · refine .inl ⟨h1, fun a b e => ?_⟩
    have := h2 a.size (by rw [e]; simp)
    rw [e, occ_app] at this
    cases this
  · refine .inr ⟨i, h1, by omega, occ_split (by omega) h3, fun a b e => ?_⟩
    rcases Nat.lt_or_ge a.size i with h | h
    · have := h4 a.size h
      rw [e, occ_app] at this
      cases this
    · exact h
theorem sgn_lt {t : ByteArray} : sgnO (lt1 ++ t) = if isVer t = true then some (by8 "", t) else none := by
  by_cases h : isVer t = true
  · rw [if_pos h, sgn_high h]
  · rw [if_neg h]
    cases hs : sgnO (lt1 ++ t) with
    | none => rfl
    | some p =>
      obtain ⟨l, q⟩ := p
      rcases sgn_inv hs with ⟨_, _, e⟩ | ⟨_, h2, e⟩ | ⟨_, _, e⟩
      · have h3 := lt_not_ge (t := t)
        rw [e, hasP_iff.2 ⟨l, rfl⟩] at h3; cases h3
      · rw [app_inj e] at h; exact absurd h2 h
      · have h3 := lt_not_ge (t := t)
        rw [e, hasP_iff.2 ⟨l ++ sl2 ++ q, by simp only [ByteArray.append_assoc]⟩] at h3; cases h3
theorem sgn_cut_none {t : ByteArray} (hn : ∀ a b, t ≠ a ++ sl2 ++ b) : sgnO (ge2 ++ t) = if isVer t = true then some (t, by8 "") else none := by
  by_cases h : isVer t = true
  · rw [if_pos h, sgn_low h]
  · rw [if_neg h]
    cases hs : sgnO (ge2 ++ t) with
    | none => rfl
    | some p =>
      obtain ⟨l, q⟩ := p
      rcases sgn_inv hs with ⟨h2, _, e⟩ | ⟨_, h2, e⟩ | ⟨_, _, e⟩
      · rw [app_inj e] at h; exact absurd h2 h
      · have h3 := ge_not_lt (t := t)
        rw [e, hasP_iff.2 ⟨q, rfl⟩] at h3; cases h3
      · have e2 : ge2 ++ t = ge2 ++ (l ++ sl2 ++ q) := by rw [e]; simp only [ByteArray.append_assoc]
        exact absurd (app_inj e2) (hn _ _)
theorem app_size_inj {a b c d : ByteArray} (h : a ++ b = c ++ d) (hz : a.size = c.size) : a = c ∧ b = d := by
  have h1 := ext_appL a b
  rw [h, hz, ext_appL] at h1
  subst h1
  exact ⟨rfl, app_inj h⟩
theorem sgn_cut_some {v w : ByteArray} (hf : ∀ a b, v ++ sl2 ++ w = a ++ sl2 ++ b → v.size ≤ a.size) : sgnO (ge2 ++ (v ++ sl2 ++ w)) = if isVer v = true ∧ isVer w = true then some (v, w) else none := by
  by_cases h : isVer v = true ∧ isVer w = true
  · rw [if_pos h, ← sgn_both h.1 h.2]
    simp only [ByteArray.append_assoc]
  · rw [if_neg h]
    cases hs : sgnO (ge2 ++ (v ++ sl2 ++ w)) with
    | none => rfl
    | some p =>
      obtain ⟨l, q⟩ := p
      rcases sgn_inv hs with ⟨h2, _, e⟩ | ⟨_, h2, e⟩ | ⟨h2, h3, e⟩
      · have := ver32 h2
        rw [← app_inj e, free_app, free_app, sl2_eq, free_app] at this
        exact absurd (by decide +kernel : bt (one 32) 0 = 32) (this.1.2.1 0 (by decide))
      · have h3 := ge_not_lt (t := v ++ sl2 ++ w)
        rw [e, hasP_iff.2 ⟨q, rfl⟩] at h3; cases h3
      · have e2 : ge2 ++ (v ++ sl2 ++ w) = ge2 ++ (l ++ sl2 ++ q) := by rw [e]; simp only [ByteArray.append_assoc]
        have e3 := app_inj e2
        have h4 := hf l q e3
        rcases Nat.lt_or_ge v.size l.size with h5 | h5
        · have h6 := ver32 h2 v.size h5
          have e4 : bt (v ++ sl2 ++ w) v.size = 32 := by
            have := bt_appR (a := v) (b := sl2 ++ w) (j := 0) (by rw [ByteArray.size_append, sl2_size]; omega)
            rw [Nat.add_zero] at this
            rw [ByteArray.append_assoc, this, bt_appL (by decide +kernel)]
            decide +kernel
          rw [e3, ByteArray.append_assoc, bt_appL h5] at e4
          exact absurd e4 h6
        · have h6 : v.size = l.size := by omega
          rw [ByteArray.append_assoc, ByteArray.append_assoc] at e3
          obtain ⟨rfl, e4⟩ := app_size_inj e3 h6
          rw [app_inj e4] at h
          exact absurd ⟨h2, h3⟩ h
theorem sgn_else {s : ByteArray} (h1 : hasP s ge2 = false) (h2 : hasP s lt1 = false) : sgnO s = none := by
  cases hs : sgnO s with
  | none => rfl
  | some p =>
    obtain ⟨l, q⟩ := p
    rcases sgn_inv hs with ⟨_, _, e⟩ | ⟨_, _, e⟩ | ⟨_, _, e⟩
    · rw [e, hasP_iff.2 ⟨_, rfl⟩] at h1; cases h1
    · rw [e, hasP_iff.2 ⟨_, rfl⟩] at h2; cases h2
    · rw [e, hasP_iff.2 ⟨l ++ sl2 ++ q, by simp only [ByteArray.append_assoc]⟩] at h1; cases h1
/-- one or two numbers -/
noncomputable def shortO (s : ByteArray) : Option (ByteArray × ByteArray) := match spl 46 s with
  | [a] => if 0 ≤ readDec a ∧ verOk ⟨readDec a + 1, 0, 0, []⟩ = true then some (verT ⟨readDec a, 0, 0, []⟩, verT ⟨readDec a + 1, 0, 0, [by8 "0"]⟩) else none
  | [a, b] => if (0 ≤ readDec a ∧ 0 ≤ readDec b) ∧ verOk ⟨readDec a, readDec b + 1, 0, []⟩ = true then some (verT ⟨readDec a, readDec b, 0, []⟩, verT ⟨readDec a, readDec b + 1, 0, [by8 "0"]⟩) else none
  | _ => none
theorem dec0 : decT 0 = by8 "0" := by decide +kernel
theorem verOk_nums {a b c : Nat} (ha : a ≤ 999999999) (hb : b ≤ 999999999) (hc : c ≤ 999999999) : verOk ⟨a, b, c, []⟩ = true := by
  simp [verOk, inR]; omega
theorem verT_nums {a b c : Nat} (ha : a ≤ 999999999) (hb : b ≤ 999999999) (hc : c ≤ 999999999) : verT ⟨a, b, c, []⟩ = joinB [decT a, decT b, decT c] (one 46) := by
  rw [verT, if_pos (verOk_nums ha hb hc), coreT_join]
  simp only [preT, app_nil, Int.toNat_natCast]
/-- a version without texts, by its parts -/
theorem ver_parts {s : ByteArray} {v : Ver} (h : readVer s = some v) (hp : v.pre = []) : ∃ a b c : Nat, (a ≤ 999999999 ∧ b ≤ 999999999 ∧ c ≤ 999999999) ∧ v = ⟨a, b, c, []⟩ ∧ spl 46 s = [decT a, decT b, decT c] := by
  obtain ⟨h1, h2⟩ := ver_back h
  obtain ⟨⟨a, e1, k1⟩, ⟨b, e2, k2⟩, ⟨c, e3, k3⟩, _, _⟩ := verOk_b h1
  obtain ⟨maj, min, pat, pre⟩ := v
  simp only at e1 e2 e3 hp
  subst e1 e2 e3 hp
  refine ⟨a, b, c, ⟨k1, k2, k3⟩, rfl, ?_⟩
  have e : verT ⟨a, b, c, []⟩ = coreT ⟨a, b, c, []⟩ := by rw [verT, if_pos h1]; simp only [preT, app_nil]
  rw [← h2, e, core_spl]
  simp only [Int.toNat_natCast]
theorem dec_of {a : ByteArray} (h : 0 ≤ readDec a) : ∃ n : Nat, n ≤ 999999999 ∧ a = decT n ∧ readDec a = n := by
  rcases readDec_cases a with h1 | ⟨n, h1, h2, h3⟩
  · omega
  · exact ⟨n, h1, h2.symm, h3⟩
theorem joinB_app {qs : List ByteArray} (hne : qs ≠ []) : ∀ (ps : List ByteArray), ps ≠ [] → joinB ps (one 46) ++ (one 46 ++ joinB qs (one 46)) = joinB (ps ++ qs) (one 46)
  | [], h => absurd rfl h
  | [x], _ => by rw [joinB_one, List.singleton_append, joinB_cons' _ _ hne, ByteArray.append_assoc]
  | x :: y :: r, _ => by
    rw [joinB_cons, List.cons_append, List.cons_append, joinB_cons, ← List.cons_append, ← joinB_app hne (y :: r) (by simp)]
    simp only [ByteArray.append_assoc]
theorem spl_app {s t : ByteArray} {ps qs : List ByteArray} (hs : spl 46 s = ps) (hq : ∀ p ∈ qs, free 46 p) (hne : qs ≠ []) (ht : t = one 46 ++ joinB qs (one 46)) : spl 46 (s ++ t) = ps ++ qs := by
  have h1 := join_spl 46 s.size s (Nat.le_refl _)
  have h2 := spl_free 46 s.size s (Nat.le_refl _)
  have h3 := spl_ne 46 s
  rw [hs] at h1 h2 h3
  rw [← h1, ht, joinB_app hne ps h3, spl_join 46 _ (by simp [hne])]
  intro p hp
  rcases List.mem_append.1 hp with h | h
  · exact h2 p h
  · exact hq p h
theorem zero46 : free 46 (by8 "0") := zero_free
theorem short_one {s : ByteArray} {a : ByteArray} (hs : spl 46 s = [a]) {v : Ver} (h : readVer (s ++ by8 ".0.0") = some v) (hp : v.pre = []) : ∃ n : Nat, n ≤ 999999999 ∧ a = decT n ∧ readDec a = n ∧ v = ⟨n, 0, 0, []⟩ := by
  obtain ⟨x, y, z, ⟨k1, k2, k3⟩, rfl, hsp⟩ := ver_parts h hp
  rw [spl_app (qs := [by8 "0", by8 "0"]) hs (by simp [zero46]) (by simp) (by decide +kernel)] at hsp
  simp only [List.cons_append, List.nil_append, List.cons.injEq, and_true] at hsp
  obtain ⟨e1, e2, e3⟩ := hsp
  rw [← dec0] at e2 e3
  have := decT_inj e2; have := decT_inj e3
  subst_vars
  exact ⟨x, k1, rfl, readDec_some k1, rfl⟩
theorem short_two {s : ByteArray} {a b : ByteArray} (hs : spl 46 s = [a, b]) {v : Ver} (h : readVer (s ++ by8 ".0") = some v) (hp : v.pre = []) : ∃ n m : Nat, (n ≤ 999999999 ∧ m ≤ 999999999) ∧ (readDec a = n ∧ readDec b = m) ∧ v = ⟨n, m, 0, []⟩ := by
  obtain ⟨x, y, z, ⟨k1, k2, k3⟩, rfl, hsp⟩ := ver_parts h hp
  rw [spl_app (qs := [by8 "0"]) hs (by simp [zero46]) (by simp) (by decide +kernel)] at hsp
  simp only [List.cons_append, List.nil_append, List.cons.injEq, and_true] at hsp
  obtain ⟨e1, e2, e3⟩ := hsp
  rw [← dec0] at e3
  have := decT_inj e3
  subst_vars
  exact ⟨x, y, ⟨k1, k2⟩, ⟨readDec_some k1, readDec_some k2⟩, rfl⟩
theorem short_one_back {s a : ByteArray} (hs : spl 46 s = [a]) (h : 0 ≤ readDec a) : verT ⟨readDec a, 0, 0, []⟩ = s ++ by8 ".0.0" ∧ readVer (s ++ by8 ".0.0") = some ⟨readDec a, 0, 0, []⟩ := by
  obtain ⟨n, k, rfl, e⟩ := dec_of h
  have hj := join_spl 46 s.size s (Nat.le_refl _)
  rw [hs, joinB_one] at hj
  subst hj
  rw [e]
  have e2 : verT ⟨n, 0, 0, []⟩ = decT n ++ by8 ".0.0" := by
    have := verT_nums (a := n) (b := 0) (c := 0) k (by omega) (by omega)
    refine this.trans ?_
    rw [joinB_cons, joinB_cons, joinB_one, dec0, ByteArray.append_assoc]
    congr 1
  have hv : verOk ⟨n, 0, 0, []⟩ = true := verOk_nums (b := 0) (c := 0) k (by omega) (by omega)
  exact ⟨e2, by rw [← e2, ver_round hv]⟩
theorem short_two_back {s a b : ByteArray} (hs : spl 46 s = [a, b]) (h : 0 ≤ readDec a) (h2 : 0 ≤ readDec b) : verT ⟨readDec a, readDec b, 0, []⟩ = s ++ by8 ".0" ∧ readVer (s ++ by8 ".0") = some ⟨readDec a, readDec b, 0, []⟩ := by
  obtain ⟨n, k, rfl, e⟩ := dec_of h
  obtain ⟨m, k2, rfl, e'⟩ := dec_of h2
  have hj := join_spl 46 s.size s (Nat.le_refl _)
  rw [hs, joinB_cons, joinB_one] at hj
  subst hj
  rw [e, e']
  have e2 : verT ⟨n, m, 0, []⟩ = decT n ++ one 46 ++ decT m ++ by8 ".0" := by
    have := verT_nums (a := n) (b := m) (c := 0) k k2 (by omega)
    refine this.trans ?_
    rw [joinB_cons, joinB_cons, joinB_one, dec0]
    simp only [ByteArray.append_assoc]
    congr 1
  have hv : verOk ⟨n, m, 0, []⟩ = true := verOk_nums (c := 0) k k2 (by omega)
  exact ⟨e2, by rw [← e2, ver_round hv]⟩
end Go.Proofs.YticockdhfglolaaGreatDoor.Vm
namespace Go.Proofs.YticockdhfglolaaGreatDoor.Vm
open Go Go.RowKit
set_option linter.unusedVariables false
set_option linter.unusedSimpArgs false
noncomputable def careV (v : Ver) : Int := if 0 < v.maj then 0 else if 0 < v.min then 1 else 2
noncomputable def carP (s : ByteArray) (v : Ver) : Int := if bt s 0 = 126 then 1 else careV v
noncomputable def carO (s : ByteArray) : Option (ByteArray × ByteArray) := match readVer (s.extract 1 s.size) with
  | some v => if verOk (nextV v (carP s v)) = true then some (s.extract 1 s.size, verT ⟨(nextV v (carP s v)).maj, (nextV v (carP s v)).min, (nextV v (carP s v)).pat, [by8 "0"]⟩) else none
  | none => none
noncomputable def partO (s : ByteArray) : Option (ByteArray × ByteArray) := if s = by8 "*" then some (by8 "", by8 "") else if 0 < s.size ∧ (bt s 0 = 94 ∨ bt s 0 = 126) then carO s else if 0 < s.size ∧ (bt s 0 = 62 ∨ bt s 0 = 60) then sgnO s else match exactO s with
  | some p => some p
  | none => shortO s
theorem carP_cases (s : ByteArray) (v : Ver) : carP s v = 0 ∨ carP s v = 1 ∨ carP s v = 2 := by
  unfold carP careV
  repeat' split
  all_goals simp
theorem first_part {s a : ByteArray} {r : List ByteArray} (h : spl 46 s = a :: r) (h0 : 0 < a.size) : bt s 0 = bt a 0 := by
  have hj := join_spl 46 s.size s (Nat.le_refl _)
  rw [h] at hj
  rw [← hj]
  cases r with
  | nil => rw [joinB_one]
  | cons b r => rw [joinB_cons, ByteArray.append_assoc, bt_appL h0]
theorem decT_pos (n : Nat) : 0 < (decT n).size := by
  have h := dec_ne n
  rw [← decT_list] at h
  have : (decT n).data.toList.length = (decT n).size := by simp
  rcases Nat.eq_zero_or_pos (decT n).size with h2 | h2
  · rw [h2] at this
    exact absurd (List.length_eq_zero_iff.1 this) h
  · exact h2
theorem first_no {c : UInt8} (hc : c.toNat < 48 ∨ 57 < c.toNat) (h46 : c ≠ 46) (h45 : c ≠ 45) (hp : preB c = false) {s : ByteArray} (h0 : 0 < s.size) (hb : bt s 0 = c) : readVer s = none ∧ shortO s = none := by
  have hd : ∀ a r, spl 46 s = a :: r → readDec a < 0 := fun a r h => by
    rcases Int.lt_or_le (readDec a) 0 with h1 | h1
    · exact h1
    · obtain ⟨n, _, rfl, _⟩ := dec_of h1
      have := first_part h (decT_pos n)
      exact absurd (this.symm.trans hb) (dec_free hc n 0 (decT_pos n))
  refine ⟨?_, ?_⟩
  · cases h : readVer s with
    | none => rfl
    | some v => exact absurd hb (ver_free hc h46 h45 hp (isVer_of h) 0 h0)
  · unfold shortO
    split
    · rename_i a h; rw [if_neg (by have := hd _ _ h; omega)]
    · rename_i a b h; rw [if_neg (by have := hd _ _ h; omega)]
    · rfl
theorem exact_no {s : ByteArray} (h : readVer s = none) : exactO s = none := by simp [exactO, h]
theorem verT_is {v : Ver} (h : verOk v = true) : isVer (verT v) = true := isVer_of (ver_round h)
theorem verT_is' {v : Ver} (h : verT v ≠ by8 "") : isVer (verT v) = true := verT_is (by
  cases ho : verOk v
  · exact absurd (verT_nil.2 ho) h
  · rfl)
theorem head_ext {s : ByteArray} (h0 : 0 < s.size) : s = one (bt s 0) ++ s.extract 1 s.size := by
  have := ext_cut (s := s) (i := 0) h0
  rw [show s.extract 0 0 = by8 "" from size_nil (by rw [ext_size]; omega), nil_app] at this
  exact this.symm
/-- what a part's bound is -/
structure PartOk (s l h : ByteArray) : Prop where
  low : l = by8 "" ∨ isVer l = true
  high : h = by8 "" ∨ isVer h = true
  at64 : free 64 s
theorem part_ok {s l h : ByteArray} (hp : partO s = some (l, h)) : PartOk s l h := by
  have f64 : ∀ {t : ByteArray}, isVer t = true → free 64 t := fun ht => ver64 ht
  unfold partO at hp
  split at hp
  · rename_i h1
    obtain ⟨rfl, rfl⟩ := Prod.mk.inj (Option.some.inj hp)
    exact ⟨.inl rfl, .inl rfl, by rw [h1]; exact free_dec (by decide +kernel)⟩
  · split at hp
    · rename_i _ h1
      unfold carO at hp
      split at hp
      · rename_i v hv
        split at hp
        · rename_i h2
          obtain ⟨rfl, rfl⟩ := Prod.mk.inj (Option.some.inj hp)
          refine ⟨.inr (isVer_of hv), .inr (verT_is ?_), ?_⟩
          · rw [verOk_pre0, ← h2]
            congr 1
            rcases carP_cases s v with e | e | e <;> rw [e] <;> rfl
          · rw [head_ext h1.1, free_app]
            refine ⟨one_free ?_, f64 (isVer_of hv)⟩
            rcases h1.2 with e | e <;> rw [e] <;> decide
        · cases hp
      · cases hp
    · split at hp
      · have fg : free 64 ge2 := free_dec (by decide +kernel)
        have fl : free 64 lt1 := free_dec (by decide +kernel)
        have fs : free 64 sl2 := free_dec (by decide +kernel)
        rcases sgn_inv hp with ⟨h1, rfl, rfl⟩ | ⟨rfl, h1, rfl⟩ | ⟨h1, h2, rfl⟩
        · exact ⟨.inr h1, .inl rfl, free_app.2 ⟨fg, f64 h1⟩⟩
        · exact ⟨.inl rfl, .inr h1, free_app.2 ⟨fl, f64 h1⟩⟩
        · exact ⟨.inr h1, .inr h2, by rw [free_app, free_app, free_app]; exact ⟨⟨⟨fg, f64 h1⟩, fs⟩, f64 h2⟩⟩
      · split at hp
        · rename_i q hq
          obtain rfl := Option.some.inj hp
          unfold exactO at hq
          split at hq
          · rename_i v hv
            split at hq
            · cases hq
            · rename_i hx
              obtain ⟨rfl, rfl⟩ := Prod.mk.inj (Option.some.inj hq)
              refine ⟨.inr (isVer_of hv), .inr ?_, f64 (isVer_of hv)⟩
              unfold exHigh at hx ⊢
              split
              · rename_i h5; rw [if_pos h5] at hx; exact verT_is' hx
              · rename_i h5; rw [if_neg h5] at hx; exact verT_is' hx
          · cases hq
        · have hj := join_spl 46 s.size s (Nat.le_refl _)
          have dfree := fun n => dec_free (c := 64) (by decide) n
          unfold shortO at hp
          split at hp
          · rename_i a ha
            split at hp
            · rename_i h2
              obtain ⟨rfl, rfl⟩ := Prod.mk.inj (Option.some.inj hp)
              obtain ⟨n, k, rfl, e⟩ := dec_of h2.1
              rw [e] at h2 ⊢
              refine ⟨.inr (verT_is (verOk_nums (b := 0) (c := 0) k (by omega) (by omega))), .inr (verT_is (by rw [verOk_pre0]; exact h2.2)), ?_⟩
              rw [← hj, ha, joinB_one]
              exact dfree n
            · cases hp
          · rename_i a b ha
            split at hp
            · rename_i h2
              obtain ⟨rfl, rfl⟩ := Prod.mk.inj (Option.some.inj hp)
              obtain ⟨n, k, rfl, e⟩ := dec_of h2.1.1
              obtain ⟨m, k2, rfl, e2⟩ := dec_of h2.1.2
              rw [e, e2] at h2 ⊢
              refine ⟨.inr (verT_is (verOk_nums (c := 0) k k2 (by omega))), .inr (verT_is (by rw [verOk_pre0]; exact h2.2)), ?_⟩
              rw [← hj, ha, joinB_cons, joinB_one, free_app, free_app]
              exact ⟨⟨dfree n, one_free (by decide)⟩, dfree m⟩
            · cases hp
          · cases hp
/-- all parts -/
noncomputable def mapO : List ByteArray → Option (List (ByteArray × ByteArray))
  | [] => some []
  | p :: r => (partO p).bind fun b => (mapO r).map (b :: ·)
theorem mapO_app : ∀ (a b : List ByteArray), mapO (a ++ b) = (mapO a).bind fun x => (mapO b).map (x ++ ·)
  | [], b => by simp [mapO]
  | p :: r, b => by
    rw [List.cons_append, mapO, mapO, mapO_app r b]
    cases partO p with
    | none => rfl
    | some x =>
      simp only [Option.bind_some]
      cases mapO r with
      | none => rfl
      | some y =>
        simp only [Option.bind_some, Option.map_some, Option.map_map]
        rfl
theorem mapO_none {l : List ByteArray} {i : Nat} (h : i < l.length) (hp : partO l[i] = none) : mapO l = none := by
  have e : l = l.take i ++ (l[i] :: l.drop (i + 1)) := by rw [← List.drop_eq_getElem_cons h, List.take_append_drop]
  rw [e, mapO_app, mapO, hp]
  cases mapO (l.take i) <;> rfl
theorem mapO_next {l : List ByteArray} {i : Nat} (h : i < l.length) {out : List (ByteArray × ByteArray)} {b : ByteArray × ByteArray} (ho : mapO (l.take i) = some out) (hp : partO l[i] = some b) : mapO (l.take (i + 1)) = some (out ++ [b]) := by
  rw [List.take_succ_eq_append_getElem h, mapO_app, ho, mapO, hp]
  rfl
theorem mapO_len : ∀ {l : List ByteArray} {out : List (ByteArray × ByteArray)}, mapO l = some out → out.length = l.length
  | [], out, h => by obtain rfl := Option.some.inj h; rfl
  | p :: r, out, h => by
    rw [mapO] at h
    obtain ⟨b, _, h⟩ := Option.bind_eq_some_iff.1 h
    obtain ⟨q, hq, rfl⟩ := Option.map_eq_some_iff.1 h
    simp [mapO_len hq]
theorem mapO_mem : ∀ {l : List ByteArray} {out : List (ByteArray × ByteArray)}, mapO l = some out → (∀ p ∈ l, ∃ b, partO p = some b) ∧ ∀ b ∈ out, ∃ p ∈ l, partO p = some b
  | [], out, h => by obtain rfl := Option.some.inj h; simp
  | p :: r, out, h => by
    rw [mapO] at h
    obtain ⟨b, hb, h⟩ := Option.bind_eq_some_iff.1 h
    obtain ⟨q, hq, rfl⟩ := Option.map_eq_some_iff.1 h
    obtain ⟨h1, h2⟩ := mapO_mem hq
    refine ⟨fun x hx => ?_, fun x hx => ?_⟩
    · rcases List.mem_cons.1 hx with rfl | hx
      · exact ⟨b, hb⟩
      · exact h1 x hx
    · rcases List.mem_cons.1 hx with rfl | hx
      · exact ⟨p, List.mem_cons_self, hb⟩
      · obtain ⟨y, hy, e⟩ := h2 x hx
        exact ⟨y, List.mem_cons_of_mem _ hy, e⟩
def barB : ByteArray := by8 " || "
theorem barB_size : barB.size = 4 := by decide +kernel
noncomputable def rngO (s : ByteArray) : Option (List (ByteArray × ByteArray)) := if s.size ≤ 200 ∧ (spB barB s).length ≤ 8 then mapO (spB barB s) else none
end Go.Proofs.YticockdhfglolaaGreatDoor.Vm
namespace Go.Proofs.YticockdhfglolaaGreatDoor.Vm
open Go Go.RowKit
set_option linter.unusedVariables false
set_option linter.unusedSimpArgs false
def v129 : VC := .seq (.reg false [⟨some 2, .as (.c (.sl ⟨.nl, true⟩ 1 [])), none⟩] [2]) (.seq (.reg false [⟨some 6, .bsl 1 [], none⟩, ⟨some 3, .as (.t 6), none⟩] [6]) (.seq (.reg false [⟨some 4, .as (.c (.lit (.int .i64 0))), none⟩] []) (.seq (.seq (.reg false [⟨some 5, .as (.c (.lit (.int .i64 0))), none⟩] []) (.block 0 (.loop (.seq (.seq (.reg false [⟨some 7, .mv (.t 5), none⟩, ⟨some 8, .bin .add 0 (.t 7) (.c (.lit (.int .i64 4))), none⟩, ⟨some 9, .mv (.t 0), none⟩, ⟨some 10, .len true (.t 9), none⟩, ⟨some 11, .bin .leq 0 (.t 8) (.t 10), none⟩] [7, 8, 9, 10]) (.cond (.t 11) (.skip) (.exit 0))) (.seq (.block 1 (.seq (.reg false [⟨some 14, .mv (.t 5), none⟩, ⟨some 15, .mv (.t 4), none⟩, ⟨some 16, .bin .geq 0 (.t 14) (.t 15), none⟩, ⟨some 17, .mv (.t 16), none⟩, ⟨some 18, .mv (.t 0), (some (17, true))⟩, ⟨some 19, .mv (.t 5), (some (17, true))⟩, ⟨some 20, .mv (.t 5), (some (17, true))⟩, ⟨some 21, .bin .add 0 (.t 20) (.c (.lit (.int .i64 4))), (some (17, true))⟩, ⟨some 22, .slS (.t 18) (some (.t 19)) (some (.t 21)), (some (17, true))⟩, ⟨some 23, .bin .eql 0 (.t 22) (.c (.lit (.string (by8 " || ")))), (some (17, true))⟩, ⟨some 24, .pick (.t 17) (.t 23) (.c (.lit (.bool false))), none⟩] [14, 15, 16, 17, 18, 19, 20, 21, 22, 23]) (.cond (.t 24) (.seq (.reg false [⟨some 25, .mv (.t 3), none⟩, ⟨some 26, .mv (.t 0), none⟩, ⟨some 27, .mv (.t 4), none⟩, ⟨some 28, .mv (.t 5), none⟩, ⟨some 29, .slS (.t 26) (some (.t 27)) (some (.t 28)), none⟩, ⟨some 30, .bsl 1 [(.t 29)], none⟩, ⟨some 31, .app 1 16 (.t 25) (.t 30), none⟩, ⟨some 3, .as (.t 31), none⟩] [25, 26, 27, 28, 29, 30, 31]) (.reg false [⟨some 32, .mv (.t 5), none⟩, ⟨some 33, .bin .add 0 (.t 32) (.c (.lit (.int .i64 4))), none⟩, ⟨some 4, .as (.t 33), none⟩] [32, 33])) (.skip)))) (.reg false [⟨some 12, .mv (.t 5), none⟩, ⟨some 13, .bin .add 0 (.t 12) (.c (.lit (.int .i64 1))), none⟩, ⟨some 5, .as (.t 13), none⟩] [12, 13])))))) (.seq (.reg false [⟨some 34, .mv (.t 3), none⟩, ⟨some 35, .mv (.t 0), none⟩, ⟨some 36, .mv (.t 4), none⟩, ⟨some 37, .slS (.t 35) (some (.t 36)) none, none⟩, ⟨some 38, .bsl 1 [(.t 37)], none⟩, ⟨some 39, .app 1 16 (.t 34) (.t 38), none⟩, ⟨some 2, .as (.t 39), none⟩] [34, 35, 36, 37, 38, 39]) (.ret)))))
theorem is129 : Is Go.Proofs.Tryz.prog 129 40 v129 [.t 2] := ⟨Go.Proofs.Tryz.f129, dl [(0, [2]), (1, [6]), (4, [7, 8, 9, 10]), (6, [14, 15, 16, 17, 18, 19, 20, 21, 22, 23]), (7, [25, 26, 27, 28, 29, 30, 31]), (8, [32, 33]), (5, [12, 13]), (9, [34, 35, 36, 37, 38, 39])], Go.Proofs.Tryz.func129, by kernel_rfl, by kernel_rfl, by kernel_rfl, by kernel_rfl⟩
def v185 : VC := .seq (.reg false [⟨some 1, .box 4 (.t 0), none⟩, ⟨some 2, .as (.c (.lit (.int .i64 0))), none⟩] [2]) (.seq (.block 0 (.seq (.reg false [⟨some 4, .fa 0 (.t 1), none⟩, ⟨some 5, .ld false 1 (.t 4), none⟩, ⟨some 6, .bin .gtr 0 (.t 5) (.c (.lit (.int .i64 0))), none⟩, ⟨some 3, .as (.t 6), none⟩] [4, 5, 6]) (.cond (.t 3) (.seq (.reg false [⟨some 2, .as (.c (.lit (.int .i64 0))), none⟩] []) (.ret)) (.seq (.reg false [⟨some 8, .fa 1 (.t 1), none⟩, ⟨some 9, .ld false 1 (.t 8), none⟩, ⟨some 10, .bin .gtr 0 (.t 9) (.c (.lit (.int .i64 0))), none⟩, ⟨some 7, .as (.t 10), none⟩] [8, 9, 10]) (.cond (.t 7) (.seq (.reg false [⟨some 2, .as (.c (.lit (.int .i64 1))), none⟩] []) (.ret)) (.skip)))))) (.seq (.reg false [⟨some 2, .as (.c (.lit (.int .i64 2))), none⟩] []) (.ret)))
theorem is185 : Is Go.Proofs.Tryz.prog 185 11 v185 [.t 2] := ⟨Go.Proofs.Tryz.f185, dl [(0, [2]), (1, [4, 5, 6]), (3, [8, 9, 10])], Go.Proofs.Tryz.func185, by kernel_rfl, by kernel_rfl, by kernel_rfl, by kernel_rfl⟩
def v184 : VC := .seq (.reg false [⟨some 4, .box 4 (.t 1), none⟩, ⟨some 6, .alloc (.agg [(.lit (.string (by8 ""))), (.lit (.string (by8 "")))]), none⟩, ⟨some 7, .as (.c (.lit (.bool false))), none⟩] [7]) (.seq (.reg false [⟨some 11, .ld true 4 (.t 4), none⟩, ⟨some 12, .mv (.t 2), none⟩, ⟨some 13, .call false 212 [(.t 11), (.t 12)], none⟩, ⟨some 10, .mv (.t 13), none⟩, ⟨some 14, .ext (.t 10) 0, none⟩, ⟨some 15, .ext (.t 10) 1, none⟩, ⟨some 8, .as (.t 14), none⟩, ⟨some 9, .as (.t 15), none⟩] [11, 12, 13, 10, 14, 15]) (.seq (.seq (.reg false [⟨some 16, .mv (.t 9), none⟩, ⟨some 17, .un .not (.t 16), none⟩] [16]) (.cond (.t 17) (.seq (.reg false [⟨some 18, .bld [(.lit (.string (by8 ""))), (.lit (.string (by8 "")))] [], none⟩, ⟨none, .st 2 (.t 6) (.t 18), none⟩, ⟨some 7, .as (.c (.lit (.bool false))), none⟩] [18]) (.ret)) (.skip))) (.seq (.reg false [⟨some 19, .mv (.t 0), none⟩, ⟨some 20, .mv (.t 8), none⟩, ⟨some 21, .bld [(.lit (.string (by8 ""))), (.lit (.string (by8 "")))] [(0, 1, (.t 19)), (1, 1, (.t 20))], none⟩, ⟨none, .st 2 (.t 6) (.t 21), none⟩, ⟨some 7, .as (.c (.lit (.bool true))), none⟩] [19, 20, 21]) (.ret))))
theorem is184 : Is Go.Proofs.Tryz.prog 184 22 v184 [.b 6 true 2, .t 7] := ⟨Go.Proofs.Tryz.f184, dl [(0, [7]), (1, [11, 12, 13, 10, 14, 15]), (2, [16]), (3, [18]), (4, [19, 20, 21])], Go.Proofs.Tryz.func184, by kernel_rfl, by kernel_rfl, by kernel_rfl, by kernel_rfl⟩
def v188 : VC := .seq (.reg false [⟨some 2, .as (.c (.lit (.bool false))), none⟩] [2]) (.seq (.reg false [⟨some 6, .mv (.t 0), none⟩, ⟨some 7, .call false 57 [(.t 6)], none⟩, ⟨some 5, .mv (.t 7), none⟩, ⟨some 8, .ext (.t 5) 0, none⟩, ⟨some 9, .ext (.t 5) 1, none⟩, ⟨some 3, .alloc (.agg [(.lit (.int .i64 0)), (.lit (.int .i64 0)), (.lit (.int .i64 0)), (.sl ⟨.nl, true⟩ 1 [])]), none⟩, ⟨none, .st 4 (.t 3) (.t 8), none⟩, ⟨some 4, .as (.t 9), none⟩] [6, 7, 5, 8, 9, 3]) (.seq (.reg false [⟨some 10, .mv (.t 4), none⟩, ⟨some 11, .mv (.t 10), none⟩, ⟨some 12, .mv (.t 0), (some (11, false))⟩, ⟨some 13, .bin .eql 0 (.t 12) (.c (.lit (.string (by8 "")))), (some (11, false))⟩, ⟨some 14, .pick (.t 11) (.c (.lit (.bool true))) (.t 13), none⟩, ⟨some 2, .as (.t 14), none⟩] [10, 11, 12, 13, 14]) (.ret)))
theorem is188 : Is Go.Proofs.Tryz.prog 188 15 v188 [.t 2] := ⟨Go.Proofs.Tryz.f188, dl [(0, [2]), (1, [6, 7, 5, 8, 9, 3]), (2, [10, 11, 12, 13, 14])], Go.Proofs.Tryz.func188, by kernel_rfl, by kernel_rfl, by kernel_rfl, by kernel_rfl⟩
def v131 : VC := .seq (.reg false [⟨some 2, .as (.c (.lit (.bool false))), none⟩] [2]) (.seq (.seq (.reg false [⟨some 3, .as (.c (.lit (.int .i64 0))), none⟩] []) (.block 0 (.loop (.seq (.seq (.reg false [⟨some 4, .mv (.t 3), none⟩, ⟨some 5, .mv (.t 0), none⟩, ⟨some 6, .len false (.t 5), none⟩, ⟨some 7, .bin .lss 0 (.t 4) (.t 6), none⟩] [4, 5, 6]) (.cond (.t 7) (.skip) (.exit 0))) (.seq (.block 1 (.seq (.reg false [⟨some 10, .mv (.t 0), none⟩, ⟨some 11, .mv (.t 3), none⟩, ⟨some 12, .ia 2 (.t 10) (.t 11), none⟩, ⟨some 13, .fa 0 (.t 12), none⟩, ⟨some 14, .ld false 1 (.t 13), none⟩, ⟨some 15, .call false 188 [(.t 14)], none⟩, ⟨some 16, .un .not (.t 15), none⟩, ⟨some 17, .mv (.t 16), none⟩, ⟨some 18, .mv (.t 0), (some (17, false))⟩, ⟨some 19, .mv (.t 3), (some (17, false))⟩, ⟨some 20, .ia 2 (.t 18) (.t 19), (some (17, false))⟩, ⟨some 21, .fa 1 (.t 20), (some (17, false))⟩, ⟨some 22, .ld false 1 (.t 21), (some (17, false))⟩, ⟨some 23, .call false 188 [(.t 22)], (some (17, false))⟩, ⟨some 24, .un .not (.t 23), (some (17, false))⟩, ⟨some 25, .pick (.t 17) (.c (.lit (.bool true))) (.t 24), none⟩] [10, 11, 12, 13, 14, 15, 16, 17, 18, 19, 20, 21, 22, 23, 24]) (.cond (.t 25) (.seq (.reg false [⟨some 2, .as (.c (.lit (.bool false))), none⟩] []) (.ret)) (.skip)))) (.reg false [⟨some 8, .mv (.t 3), none⟩, ⟨some 9, .bin .add 0 (.t 8) (.c (.lit (.int .i64 1))), none⟩, ⟨some 3, .as (.t 9), none⟩] [8, 9])))))) (.seq (.reg false [⟨some 26, .mv (.t 0), none⟩, ⟨some 27, .len false (.t 26), none⟩, ⟨some 28, .call false 82 [(.t 27), (.c (.lit (.int .i64 1))), (.c (.lit (.int .i64 8)))], none⟩, ⟨some 2, .as (.t 28), none⟩] [26, 27, 28]) (.ret)))
theorem is131 : Is Go.Proofs.Tryz.prog 131 29 v131 [.t 2] := ⟨Go.Proofs.Tryz.f131, dl [(0, [2]), (2, [4, 5, 6]), (4, [10, 11, 12, 13, 14, 15, 16, 17, 18, 19, 20, 21, 22, 23, 24]), (3, [8, 9]), (6, [26, 27, 28])], Go.Proofs.Tryz.func131, by kernel_rfl, by kernel_rfl, by kernel_rfl, by kernel_rfl⟩
def v133 : VC := .seq (.reg false [⟨some 2, .as (.c (.sl ⟨.nl, true⟩ 1 [])), none⟩] [2]) (.seq (.reg false [⟨some 3, .mv (.t 0), none⟩, ⟨some 4, .call false 101 [(.t 3), (.c (.lit (.int .u8 32)))], none⟩, ⟨some 2, .as (.t 4), none⟩] [3, 4]) (.ret))
theorem is133 : Is Go.Proofs.Tryz.prog 133 5 v133 [.t 2] := ⟨Go.Proofs.Tryz.f133, dl [(0, [2]), (1, [3, 4])], Go.Proofs.Tryz.func133, by kernel_rfl, by kernel_rfl, by kernel_rfl, by kernel_rfl⟩
def v186 : VC := .seq (.reg false [⟨some 2, .alloc (.agg [(.lit (.string (by8 ""))), (.lit (.string (by8 "")))]), none⟩, ⟨some 3, .as (.c (.lit (.bool false))), none⟩] [3]) (.seq (.reg false [⟨some 7, .mv (.t 0), none⟩, ⟨some 8, .call false 133 [(.t 7)], none⟩, ⟨some 4, .as (.t 8), none⟩] [7, 8]) (.seq (.reg false [⟨some 9, .bld [(.lit (.string (by8 ""))), (.lit (.string (by8 "")))] [], none⟩, ⟨some 5, .alloc (.agg [(.lit (.string (by8 ""))), (.lit (.string (by8 "")))]), none⟩, ⟨none, .st 2 (.t 5) (.t 9), none⟩] [9]) (.seq (.seq (.reg false [⟨some 6, .as (.c (.lit (.int .i64 0))), none⟩] []) (.block 0 (.loop (.seq (.seq (.reg false [⟨some 10, .mv (.t 6), none⟩, ⟨some 11, .mv (.t 4), none⟩, ⟨some 12, .len false (.t 11), none⟩, ⟨some 13, .bin .lss 0 (.t 10) (.t 12), none⟩] [10, 11, 12]) (.cond (.t 13) (.skip) (.exit 0))) (.seq (.block 1 (.block 2 (.seq (.reg false [⟨some 18, .mv (.t 6), none⟩, ⟨some 19, .bin .eql 0 (.t 18) (.c (.lit (.int .i64 0))), none⟩, ⟨some 20, .mv (.t 19), none⟩, ⟨some 21, .mv (.t 4), (some (20, true))⟩, ⟨some 22, .mv (.t 6), (some (20, true))⟩, ⟨some 23, .ia 1 (.t 21) (.t 22), (some (20, true))⟩, ⟨some 24, .ld false 1 (.t 23), (some (20, true))⟩, ⟨some 25, .len true (.t 24), (some (20, true))⟩, ⟨some 26, .bin .gtr 0 (.t 25) (.c (.lit (.int .i64 2))), (some (20, true))⟩, ⟨some 27, .pick (.t 20) (.t 26) (.c (.lit (.bool false))), none⟩, ⟨some 28, .mv (.t 27), none⟩, ⟨some 29, .mv (.t 4), (some (28, true))⟩, ⟨some 30, .mv (.t 6), (some (28, true))⟩, ⟨some 31, .ia 1 (.t 29) (.t 30), (some (28, true))⟩, ⟨some 32, .ld false 1 (.t 31), (some (28, true))⟩, ⟨some 33, .slS (.t 32) none (some (.c (.lit (.int .i64 2)))), (some (28, true))⟩, ⟨some 34, .bin .eql 0 (.t 33) (.c (.lit (.string (by8 ">=")))), (some (28, true))⟩, ⟨some 35, .pick (.t 28) (.t 34) (.c (.lit (.bool false))), none⟩, ⟨some 17, .as (.t 35), none⟩] [18, 19, 20, 21, 22, 23, 24, 25, 26, 27, 28, 29, 30, 31, 32, 33, 34, 35]) (.cond (.t 17) (.reg false [⟨some 36, .mv (.t 4), none⟩, ⟨some 37, .mv (.t 6), none⟩, ⟨some 38, .ia 1 (.t 36) (.t 37), none⟩, ⟨some 39, .ld false 1 (.t 38), none⟩, ⟨some 40, .slS (.t 39) (some (.c (.lit (.int .i64 2)))) none, none⟩, ⟨some 41, .fa 0 (.t 5), none⟩, ⟨none, .st 1 (.t 41) (.t 40), none⟩] [36, 37, 38, 39, 40, 41]) (.seq (.reg false [⟨some 43, .mv (.t 6), none⟩, ⟨some 44, .mv (.t 4), none⟩, ⟨some 45, .len false (.t 44), none⟩, ⟨some 46, .bin .sub 0 (.t 45) (.c (.lit (.int .i64 1))), none⟩, ⟨some 47, .bin .eql 0 (.t 43) (.t 46), none⟩, ⟨some 48, .mv (.t 47), none⟩, ⟨some 49, .mv (.t 4), (some (48, true))⟩, ⟨some 50, .mv (.t 6), (some (48, true))⟩, ⟨some 51, .ia 1 (.t 49) (.t 50), (some (48, true))⟩, ⟨some 52, .ld false 1 (.t 51), (some (48, true))⟩, ⟨some 53, .len true (.t 52), (some (48, true))⟩, ⟨some 54, .bin .gtr 0 (.t 53) (.c (.lit (.int .i64 1))), (some (48, true))⟩, ⟨some 55, .pick (.t 48) (.t 54) (.c (.lit (.bool false))), none⟩, ⟨some 56, .mv (.t 55), none⟩, ⟨some 57, .mv (.t 4), (some (56, true))⟩, ⟨some 58, .mv (.t 6), (some (56, true))⟩, ⟨some 59, .ia 1 (.t 57) (.t 58), (some (56, true))⟩, ⟨some 60, .ld false 1 (.t 59), (some (56, true))⟩, ⟨some 61, .idx (.t 60) (.c (.lit (.int .i64 0))), (some (56, true))⟩, ⟨some 62, .bin .eql 0 (.t 61) (.c (.lit (.int .u8 60))), (some (56, true))⟩, ⟨some 63, .pick (.t 56) (.t 62) (.c (.lit (.bool false))), none⟩, ⟨some 42, .as (.t 63), none⟩] [43, 44, 45, 46, 47, 48, 49, 50, 51, 52, 53, 54, 55, 56, 57, 58, 59, 60, 61, 62, 63]) (.cond (.t 42) (.reg false [⟨some 64, .mv (.t 4), none⟩, ⟨some 65, .mv (.t 6), none⟩, ⟨some 66, .ia 1 (.t 64) (.t 65), none⟩, ⟨some 67, .ld false 1 (.t 66), none⟩, ⟨some 68, .slS (.t 67) (some (.c (.lit (.int .i64 1)))) none, none⟩, ⟨some 69, .fa 1 (.t 5), none⟩, ⟨none, .st 1 (.t 69) (.t 68), none⟩] [64, 65, 66, 67, 68, 69]) (.seq (.reg false [⟨some 16, .bld [(.lit (.string (by8 ""))), (.lit (.string (by8 "")))] [], none⟩, ⟨none, .st 2 (.t 2) (.t 16), none⟩, ⟨some 3, .as (.c (.lit (.bool false))), none⟩] [16]) (.ret)))))))) (.reg false [⟨some 14, .mv (.t 6), none⟩, ⟨some 15, .bin .add 0 (.t 14) (.c (.lit (.int .i64 1))), none⟩, ⟨some 6, .as (.t 15), none⟩] [14, 15])))))) (.seq (.seq (.reg false [⟨some 70, .mv (.t 4), none⟩, ⟨some 71, .len false (.t 70), none⟩, ⟨some 72, .bin .gtr 0 (.t 71) (.c (.lit (.int .i64 2))), none⟩, ⟨some 73, .mv (.t 72), none⟩, ⟨some 74, .ld true 2 (.t 5), (some (73, false))⟩, ⟨some 75, .bsl 2 [(.t 74)], (some (73, false))⟩, ⟨some 76, .call false 131 [(.t 75)], (some (73, false))⟩, ⟨some 77, .un .not (.t 76), (some (73, false))⟩, ⟨some 78, .pick (.t 73) (.c (.lit (.bool true))) (.t 77), none⟩] [70, 71, 72, 73, 74, 75, 76, 77]) (.cond (.t 78) (.seq (.reg false [⟨some 79, .bld [(.lit (.string (by8 ""))), (.lit (.string (by8 "")))] [], none⟩, ⟨none, .st 2 (.t 2) (.t 79), none⟩, ⟨some 3, .as (.c (.lit (.bool false))), none⟩] [79]) (.ret)) (.skip))) (.seq (.reg false [⟨some 80, .ld true 2 (.t 5), none⟩, ⟨none, .st 2 (.t 2) (.t 80), none⟩, ⟨some 3, .as (.c (.lit (.bool true))), none⟩] [80]) (.ret))))))
theorem is186 : Is Go.Proofs.Tryz.prog 186 81 v186 [.b 2 true 2, .t 3] := ⟨Go.Proofs.Tryz.f186, dl [(0, [3]), (1, [7, 8]), (2, [9]), (4, [10, 11, 12]), (7, [18, 19, 20, 21, 22, 23, 24, 25, 26, 27, 28, 29, 30, 31, 32, 33, 34, 35]), (9, [43, 44, 45, 46, 47, 48, 49, 50, 51, 52, 53, 54, 55, 56, 57, 58, 59, 60, 61, 62, 63]), (6, [16]), (10, [64, 65, 66, 67, 68, 69]), (8, [36, 37, 38, 39, 40, 41]), (5, [14, 15]), (11, [70, 71, 72, 73, 74, 75, 76, 77]), (12, [79]), (13, [80])], Go.Proofs.Tryz.func186, by kernel_rfl, by kernel_rfl, by kernel_rfl, by kernel_rfl⟩
theorem ext_mid (a b c : ByteArray) : (a ++ b ++ c).extract a.size (a.size + b.size) = b := by
  have h := ext_appL (a ++ b) c
  have h2 := ext_app a b
  rw [ByteArray.size_append] at h h2
  rw [← h, ext_ext, Nat.zero_add, Nat.zero_add, Nat.min_self] at h2
  exact h2
theorem bar_at {s : ByteArray} {a k : Nat} (ha : a ≤ s.size) (hk : k ≤ (s.extract a s.size).size) (h : s.extract a s.size = (s.extract a s.size).extract 0 k ++ barB ++ (s.extract a s.size).extract (k + barB.size) (s.extract a s.size).size) : s.extract (a + k) (a + k + 4) = barB ∧ a + k + 4 ≤ s.size := by
  have hz := congrArg ByteArray.size h
  simp only [ByteArray.size_append, ext_size, barB_size] at hz hk
  have hs : ((s.extract a s.size).extract 0 k).size = k := by simp only [ext_size]; omega
  have hm := ext_mid ((s.extract a s.size).extract 0 k) barB ((s.extract a s.size).extract (k + barB.size) (s.extract a s.size).size)
  rw [← h, hs, barB_size, ext_ext, show min (a + (k + 4)) s.size = a + k + 4 by omega] at hm
  exact ⟨hm, by omega⟩
theorem bar_hit {s : ByteArray} {a i : Nat} (ha : a ≤ i) (hi : i + 4 ≤ s.size) (he : s.extract i (i + 4) = barB) (hall : ∀ j, a ≤ j → j < i → s.extract j (j + 4) ≠ barB) : spB barB (s.extract a s.size) = s.extract a i :: spB barB (s.extract (i + 4) s.size) := by
  have hsp : s.extract a s.size = s.extract a i ++ barB ++ s.extract (i + 4) s.size := by
    rw [← he, ByteArray.extract_append_extract, show min a i = a by omega, show max i (i + 4) = i + 4 by omega, ByteArray.extract_append_extract, show min a (i + 4) = a by omega, show max (i + 4) s.size = s.size by omega]
  rcases index_cases (s.extract a s.size) barB with ⟨h, h2⟩ | ⟨k, h, hk, h2, h3⟩
  · exact absurd hsp (h2 _ _)
  · have h4 := h3 _ _ hsp
    rw [ext_size] at h4
    obtain ⟨h5, h6⟩ := bar_at (by omega) hk h2
    rcases Nat.lt_or_ge (a + k) i with h7 | h7
    · exact absurd h5 (hall _ (by omega) h7)
    · obtain rfl : k = i - a := by omega
      rw [spB_hit (by rw [barB_size]; omega) h, ext_ext, ext_ext, ext_size, barB_size, show a + 0 = a by omega, show min (a + (i - a)) s.size = i by omega, show a + (i - a + 4) = i + 4 by omega, show min (a + (min s.size s.size - a)) s.size = s.size by omega]
theorem bar_none {s : ByteArray} {a i : Nat} (ha : a ≤ s.size) (hi : s.size < i + 4) (hall : ∀ j, a ≤ j → j < i → s.extract j (j + 4) ≠ barB) : spB barB (s.extract a s.size) = [s.extract a s.size] := by
  rcases index_cases (s.extract a s.size) barB with ⟨h, h2⟩ | ⟨k, h, hk, h2, h3⟩
  · exact spB_none h
  · obtain ⟨h5, h6⟩ := bar_at ha hk h2
    exact absurd h5 (hall _ (by omega) (by omega))
/-- a bound's ends are right -/
noncomputable def endOk (s : ByteArray) : Bool := isVer s || decide (s = by8 "")
noncomputable def bndOk (l : List (ByteArray × ByteArray)) (i : Nat) : Bool := endOk (l.getD i (by8 "", by8 "")).1 && endOk (l.getD i (by8 "", by8 "")).2
noncomputable def rngOk (l : List (ByteArray × ByteArray)) : Bool := (List.range l.length).all (bndOk l) && inR l.length 1 8
theorem rngOk_one (l h : ByteArray) : rngOk [(l, h)] = (endOk l && endOk h) := by
  simp [rngOk, bndOk, inR, List.range_succ]
theorem end_nil : endOk (by8 "") = true := by simp [endOk]
theorem end_pos {s : ByteArray} (h : 0 < s.size) : endOk s = isVer s := by
  have : ¬ s = by8 "" := fun e => by rw [e, by8_nil] at h; omega
  simp [endOk, this]
theorem ge_head {a : ByteArray} (h : 2 < a.size) : a.extract 0 2 = by8 ">=" ↔ hasP a ge2 = true := by
  rw [hasP_iff]
  constructor
  · intro e
    refine ⟨a.extract 2 a.size, ?_⟩
    rw [show ge2 = a.extract 0 2 from e.symm, ByteArray.extract_append_extract, show min 0 2 = 0 by omega, show max 2 a.size = a.size by omega, ext_all]
  · rintro ⟨t, rfl⟩
    have := ext_appL ge2 t
    rwa [ge2_size] at this
theorem lt_head {a : ByteArray} (h : 1 < a.size) : bt a 0 = 60 ↔ hasP a lt1 = true := by
  rw [lt1_eq, hasP_one]
  simp; omega
theorem ge_short {a : ByteArray} (h : hasP a ge2 = true) (hv : isVer (a.extract 2 a.size) = true) : 2 < a.size := by
  have := ver_pos hv
  rw [ext_size] at this
  omega
theorem lt_short {a : ByteArray} (hv : isVer (a.extract 1 a.size) = true) : 1 < a.size := by
  have := ver_pos hv
  rw [ext_size] at this
  omega
section
variable {E : Env} (hE : E.P = Go.Proofs.Tryz.prog)
include hE
set_option maxHeartbeats 2000000 in
theorem l03Parts_fx (s : ByteArray) (hs : s.size ≤ 4294967280) : Fx E 129 [] [.lit (.string s)] [] (.sl ⟨.no, true⟩ 1 ((spB barB s).map fun x => .lit (.string x))) := by
  refine (is129.to hE).fx [] (by simp) rfl rfl ?_
  simp [v129]
  refine X_loop (τ := Nat × List ByteArray × Nat) (fun p => ⟨[(0, .lit (.string s)), (3, .sl ⟨.cl 384, true⟩ 1 (p.2.1.map fun x => .lit (.string x))), (4, .lit (.int .i64 p.2.2)), (5, .lit (.int .i64 p.1))], []⟩) (fun p => p.1 ≤ s.size ∧ p.2.2 ≤ s.size ∧ p.2.1.length ≤ p.1 ∧ spB barB s = p.2.1 ++ spB barB (s.extract p.2.2 s.size) ∧ ∀ j, p.2.2 ≤ j → j < p.1 → s.extract j (j + 4) ≠ barB) (fun p => s.size - p.1) (0, [], 0) (by simp [ext_all]) (Wk.both (by simp [wkL, wkV.same, frA.frL]) trivial) ?_
  rintro ⟨i, out, a⟩ ⟨hi, ha, hlen, hsp, hall⟩
  simp only at hi ha hlen hsp hall
  simp
  rw [wrap_i64 (i := (i : Int) + 4) (by omega) (by omega)]
  by_cases hlt : i + 4 ≤ s.size
  · have hlt' : (i : Int) + 4 ≤ s.size := by omega
    have nxt : (a ≤ i → s.extract i (i + 4) ≠ barB) → ∀ j, a ≤ j → j < i + 1 → s.extract j (j + 4) ≠ barB := fun h j h1 h2 => by
      rcases Nat.lt_succ_iff_lt_or_eq.1 h2 with h3 | rfl
      · exact hall j h1 h3
      · exact h h1
    simp [hlt']
    by_cases c1 : a ≤ i
    · simp [c1]
      rw [wrap_i64 (i := (i : Int) + 4) (by omega) (by omega)]
      refine wh_ll (l := i) (h := (i + 4 : Nat)) (k' := .i64) rfl (by simp) (by omega) (by omega) (by omega) ?_
      simp [show ((i : Int) + 4).toNat = i + 4 by omega]
      by_cases c2 : s.extract i (i + 4) = barB
      · have hx := bar_hit c1 hlt c2 hall
        rw [show by8 " || " = barB from rfl, c2]
        simp
        refine wh_ll (l := a) (h := i) rfl rfl (by omega) (by omega) (by omega) ?_
        simp [okC, frA, frA.frL, AS.dem, mapV, dem, dem.demL]
        refine ⟨by omega, i + 1, out ++ [s.extract a i], i + 4, ⟨by omega, by omega, by simp; omega, by rw [hsp, hx]; simp, fun j h1 h2 => by omega⟩, by omega, Wk.both (by simp [wkL, wkV.same]; rw [wrapN (by omega), wrap_i64 (i := (i : Int) + 4) (by omega) (by omega)]; exact ⟨wkV.same _, .inl (by simp)⟩) trivial⟩
      · rw [show by8 " || " = barB from rfl]
        simp [c2]
        refine ⟨i + 1, out, a, ⟨by omega, by omega, by omega, hsp, nxt fun _ => c2⟩, by omega, Wk.both (by simp [wkL, wkV.same]; rw [wrapN (by omega)]; exact wkV.same _) trivial⟩
    · simp [c1]
      refine ⟨i + 1, out, a, ⟨by omega, by omega, by omega, hsp, nxt fun h => absurd h c1⟩, by omega, Wk.both (by simp [wkL, wkV.same]; rw [wrapN (by omega)]; exact wkV.same _) trivial⟩
  · have hlt' : ¬ (i : Int) + 4 ≤ s.size := by omega
    simp [hlt']
    refine wh_l (l := a) rfl (by omega) (by omega) ?_
    simp [okC, frA, frA.frL, AS.dem, mapV, dem, dem.demL]
    have hx := bar_none (s := s) (a := a) (i := i) ha (by omega) hall
    refine ⟨by omega, Fin_ret rfl ?_⟩
    rw [hsp, hx]
    simp [reC]
theorem care_fx (v : Ver) : Fx E 185 [] [.agg v.av] [] (.lit (.int .i64 (careV v))) := by
  refine (is185.to hE).fx [] (by simp) rfl rfl ?_
  simp [v185, Ver.av, okC, ro]
  by_cases c1 : 0 < v.maj
  · simp [c1]
    exact Fin_ret rfl (by rw [careV, if_pos c1]; rfl)
  simp [c1]
  by_cases c2 : 0 < v.min
  · simp [c2]
    exact Fin_ret rfl (by rw [careV, if_neg c1, if_pos c2]; rfl)
  · simp [c2]
    exact Fin_ret rfl (by rw [careV, if_neg c1, if_neg c2]; rfl)
theorem from_fx (s : ByteArray) (v : Ver) (hv : verOk v = true) (p : Int) (hp : p = 0 ∨ p = 1 ∨ p = 2) : Fx E 184 [] [.lit (.string s), .agg v.av, .lit (.int .i64 p)] [] (if verOk (nextV v p) = true then .tup [bndV s (verT ⟨(nextV v p).maj, (nextV v p).min, (nextV v p).pat, [by8 "0"]⟩), .lit (.bool true)] else .tup [bndV (by8 "") (by8 ""), .lit (.bool false)]) := by
  have hb := specBelow_fx hE v hv p hp
  unfold belowRes at hb
  refine (is184.to hE).fx [] (by simp) rfl (by split <;> rfl) ?_
  simp [v184, Ver.av, okC, ro]
  refine vcall_go hb (by simp [Ver.av, ro]) (by simp) (by simp) (by simp) ?_
  by_cases h : verOk (nextV v p) = true
  · rw [if_pos h, if_pos h]
    simp [okC, putElem, upd, fill]
    exact Fin_ret2 rfl rfl
  · rw [if_neg h, if_neg h]
    simp [okC, putElem, upd, fill]
    exact Fin_ret2 rfl rfl
theorem l03Is_fx (s : ByteArray) (hs : s.size ≤ 1099511627) : Fx E 188 [] [.lit (.string s)] [] (.lit (.bool (endOk s))) := by
  refine (is188.to hE).fx [] (by simp) rfl rfl ?_
  simp [v188, okC]
  refine vcall_go (specReadVer_fx hE s hs) (by simp) (by simp) (by simp) (by simp) ?_
  unfold verRes
  cases hr : readVer s with
  | none =>
    have hi : isVer s = false := by rw [isVer, hr]; rfl
    simp [verNone, okC, putElem, upd, fill]
    exact Fin_ret rfl (by rw [endOk, hi]; rfl)
  | some v =>
    have hi : isVer s = true := isVer_of hr
    rcases apS_cases s with h | h
    all_goals
      simp [verSome, okC, putElem, upd, fill, h]
      exact Fin_ret rfl (by rw [endOk, hi]; rfl)
theorem words_fx (s : ByteArray) (hs : s.size ≤ 4294967280) : Fx E 133 [] [.lit (.string s)] [] (.sl ⟨.no, true⟩ 1 ((spl 32 s).map fun x => .lit (.string x))) := by
  refine (is133.to hE).fx [] (by simp) rfl rfl ?_
  simp [v133]
  refine vcall_go (l01Cut_fx hE s 32 hs) (by simp) (by simp) (by simp) (by simp) ?_
  simp
  exact Fin_ret rfl rfl
theorem specRngOk_fx (l : List (ByteArray × ByteArray)) (hl : l.length ≤ 1048576) (hx : ∀ b ∈ l, b.1.size ≤ 1073741824 ∧ b.2.size ≤ 1073741824) : Fx E 131 [] [.sl ro 2 (l.map fun b => bndV b.1 b.2)] [] (.lit (.bool (rngOk l))) := by
  refine (is131.to hE).fx [] (by simp) rfl rfl ?_
  simp [v131]
  refine X_loop (τ := Nat) (fun i => ⟨[(0, .sl ro 2 (l.map fun b => bndV b.1 b.2)), (3, .lit (.int .i64 i))], []⟩) (fun i => i ≤ l.length ∧ ∀ j, j < i → bndOk l j = true) (fun i => l.length - i) 0 (by simp) (Wk.both (by simp [wkL, wkV.same]) trivial) ?_
  rintro i ⟨hi, hall⟩
  simp
  by_cases hlt : i < l.length
  · obtain ⟨g1, g2⟩ := hx _ (List.getElem_mem hlt)
    have hat : bndOk l i = (endOk l[i].1 && endOk l[i].2) := by unfold bndOk; rw [show l.getD i (by8 "", by8 "") = l[i] by simp [List.getD, hlt]]
    have no : bndOk l i = false → rngOk l = false := fun h => by
      have : (List.range l.length).all (bndOk l) = false := by rw [List.all_eq_false]; exact ⟨i, List.mem_range.2 hlt, by simp [h]⟩
      rw [rngOk, this]; rfl
    rw [hat] at no
    simp [hlt, bndV, ro, mkF]
    refine vcall_go (l03Is_fx hE l[i].1 (by omega)) (by simp) (by simp) (by simp) (by simp) ?_
    simp
    cases c1 : endOk l[i].1
    · have := no (by rw [c1]; rfl)
      simp
      exact Fin_ret rfl (by rw [this]; rfl)
    simp [hlt, bndV, ro, mkF]
    refine vcall_go (l03Is_fx hE l[i].2 (by omega)) (by simp) (by simp) (by simp) (by simp) ?_
    simp
    cases c2 : endOk l[i].2
    · have := no (by rw [c1, c2]; rfl)
      simp
      exact Fin_ret rfl (by rw [this]; rfl)
    simp
    refine ⟨i + 1, ⟨by omega, fun j hj => ?_⟩, by omega, Wk.both (by simp [wkL, wkV.same, ro, bndV]; rw [wrapN (by omega)]; exact wkV.same _) trivial⟩
    rcases Nat.lt_succ_iff_lt_or_eq.1 hj with h | rfl
    · exact hall j h
    · rw [hat, c1, c2]; rfl
  · obtain rfl : i = l.length := by omega
    have hpa : (List.range l.length).all (bndOk l) = true := by rw [List.all_eq_true]; exact fun j hj => hall j (List.mem_range.1 hj)
    simp
    refine vcall_go (l01In_fx hE l.length 1 8) (by simp) (by simp) (by simp) (by simp) ?_
    simp
    exact Fin_ret rfl (by rw [rngOk, hpa]; rfl)
set_option maxHeartbeats 4000000 in
theorem signs03_fx (s : ByteArray) (hs : s.size ≤ 1073741824) : Fx E 186 [] [.lit (.string s)] [] (match sgnO s with
  | some p => .tup [bndV p.1 p.2, .lit (.bool true)]
  | none => .tup [bndV (by8 "") (by8 ""), .lit (.bool false)]) := by
  have hres : resOk (match sgnO s with
    | some p => .tup [bndV p.1 p.2, .lit (.bool true)]
    | none => .tup [bndV (by8 "") (by8 ""), .lit (.bool false)]) = true := by cases sgnO s <;> rfl
  refine (is186.to hE).fx [] (by simp) rfl hres ?_
  simp [v186, okC]
  refine vcall_go (words_fx hE s (by omega)) (by simp) (by simp) (by simp) (by simp) ?_
  have hsz : ∀ (i : Nat) p, (spl 32 s)[i]? = some p → p.size ≤ s.size := fun i p h => spl_size h
  have hll := spl_len_le 32 s
  unfold sgnO at hres ⊢
  have hne := spl_ne 32 s
  obtain ⟨w, hw⟩ : ∃ w, spl 32 s = w := ⟨_, rfl⟩
  rw [hw] at hsz hll hne hres ⊢
  obtain ⟨a, r, rfl⟩ : ∃ a r, w = a :: r := by cases w with | nil => exact absurd rfl hne | cons a r => exact ⟨a, r, rfl⟩
  have za := hsz 0 a rfl
  simp [okC, putElem, upd, fill]
  refine X_loop (τ := Nat × ByteArray × ByteArray) (fun p => ⟨[(0, .lit (.string s)), (2, .ptr 1000000000002 0 0), (4, .sl ⟨.no, true⟩ 1 ((a :: r).map fun x => .lit (.string x))), (5, .ptr 1000000000005 0 0), (6, .lit (.int .i64 p.1))], [(1000000000002, [bndV (by8 "") (by8 "")]), (1000000000005, [bndV p.2.1 p.2.2])]⟩) (fun p => p = (0, by8 "", by8 "") ∨ (p = (1, a.extract 2 a.size, by8 "") ∧ 2 < a.size ∧ hasP a ge2 = true) ∨ (p = (1, by8 "", a.extract 1 a.size) ∧ r = [] ∧ hasP a ge2 = false ∧ 1 < a.size ∧ hasP a lt1 = true) ∨ ∃ b, p = (2, a.extract 2 a.size, b.extract 1 b.size) ∧ r = [b] ∧ (2 < a.size ∧ hasP a ge2 = true) ∧ 1 < b.size ∧ hasP b lt1 = true) (fun p => 3 - p.1) (0, by8 "", by8 "") (.inl rfl) (Wk.both (by simp [wkL, wkV.same]) (by simp [wkB, bndV])) ?_
  rintro p (rfl | ⟨rfl, h2, hg⟩ | ⟨rfl, rfl, hg, h2, hl⟩ | ⟨b, rfl, rfl, ⟨h2, hg⟩, h3, hl⟩)
  · have neither : (¬ (2 < a.size ∧ hasP a ge2 = true)) → (r ≠ [] ∨ ¬ (1 < a.size ∧ bt a 0 = 60)) → sgnW (a :: r) = none := fun h1 h2 => by
      have key : ∀ {x : ByteArray}, ¬ (hasP a ge2 = true ∧ isVer (a.extract 2 a.size) = true) := fun {x} h => h1 ⟨ge_short h.1 h.2, h.1⟩
      cases r with
      | nil =>
        have h3 : ¬ (hasP a lt1 = true ∧ isVer (a.extract 1 a.size) = true) := fun h => by
          have h4 := lt_short h.2
          rcases h2 with h2 | h2
          · exact h2 rfl
          · exact h2 ⟨h4, (lt_head h4).2 h.1⟩
        rw [sgnW]
        by_cases h5 : hasP a ge2 = true
        · rw [if_pos h5, if_neg fun h => key (x := a) ⟨h5, h⟩]
        · rw [if_neg h5, if_neg h3]
      | cons b r =>
        cases r with
        | nil => rw [sgnW, if_neg fun h => key (x := a) h.1]
        | cons c r => rfl
    have hw : IntKind.i64.wrap (r.length : Int) = r.length := wrap_i64 (by omega) (by simp at hll; omega)
    by_cases c1 : 2 < a.size
    · have c1' : (2 : Int) < a.size := by omega
      simp [c1', bndV, mkF]
      refine wh_h (h := 2) (k := .i64) rfl (by omega) (by omega) ?_
      simp
      by_cases c2 : hasP a ge2 = true
      · have c2' := (ge_head c1).2 c2
        simp [c2', mkF]
        refine wh_l (l := 2) (k := .i64) rfl (by omega) (by omega) ?_
        simp [okC, putElem, upd, bndV, mkF]
        exact ⟨1, a.extract 2 a.size, by8 "", .inl ⟨⟨rfl, rfl, rfl⟩, c1, c2⟩, by omega, Wk.both (by simp [wkL, wkV.same]; rw [wrap_i64 (i := 1) (by omega) (by omega)]; exact wkV.same _) (by simp [wkB, bndV])⟩
      · have c2' : ¬ a.extract 0 2 = by8 ">=" := fun h => c2 ((ge_head c1).1 h)
        have nA : ¬ (2 < a.size ∧ hasP a ge2 = true) := fun h => c2 h.2
        simp [c2']
        rw [hw]
        cases r with
        | nil =>
          by_cases c3 : 1 < a.size
          · have c3' : (1 : Int) < a.size := by omega
            have c5 : 0 < a.size := by omega
            simp [c3', c5, mkF]
            by_cases c4 : ((bt a 0).toNat : Int) = 60
            · have c4' : bt a 0 = 60 := u8_eq.1 (c4.trans rfl)
              have hgf : hasP a ge2 = false := by
                cases h : hasP a ge2
                · rfl
                · obtain ⟨x, hx⟩ := hasP_iff.1 ((lt_head c3).1 c4')
                  have h6 := lt_not_ge (t := x)
                  rw [← hx, h] at h6; cases h6
              simp [c4, c4', mkF]
              refine wh_l (l := 1) (k := .i64) rfl (by omega) (by omega) ?_
              simp [okC, putElem, upd, bndV, mkF]
              exact ⟨1, by8 "", a.extract 1 a.size, .inr ⟨⟨rfl, rfl, rfl⟩, hgf, c3, (lt_head c3).1 c4'⟩, by omega, Wk.both (by simp [wkL, wkV.same]; rw [wrap_i64 (i := 1) (by omega) (by omega)]; exact wkV.same _) (by simp [wkB, bndV])⟩
            · have c4' : ¬ bt a 0 = 60 := fun e => c4 (by rw [e]; rfl)
              simp [c4, c4', okC, putElem, upd, fill]
              exact Fin_ret2 rfl (by rw [neither nA (.inr fun h => c4' h.2)]; rfl)
          · have c3' : ¬ (1 : Int) < a.size := by omega
            simp [c3', mkF, okC, putElem, upd, fill]
            exact Fin_ret2 rfl (by rw [neither nA (.inr fun h => c3 h.1)]; rfl)
        | cons b r =>
          have c6 : ¬ (0 : Int) = ((b :: r).length : Nat) := by simp; omega
          rw [decide_eq_false c6]
          simp [okC, putElem, upd, fill]
          exact Fin_ret2 rfl (by rw [neither nA (.inl (by simp))]; rfl)
    · have c1' : ¬ (2 : Int) < a.size := by omega
      have nA : ¬ (2 < a.size ∧ hasP a ge2 = true) := fun h => c1 h.1
      simp [c1', bndV, mkF]
      rw [hw]
      cases r with
      | nil =>
        by_cases c3 : 1 < a.size
        · have c3' : (1 : Int) < a.size := by omega
          have c5 : 0 < a.size := by omega
          simp [c3', c5, mkF]
          by_cases c4 : ((bt a 0).toNat : Int) = 60
          · have c4' : bt a 0 = 60 := u8_eq.1 (c4.trans rfl)
            have hgf : hasP a ge2 = false := by
              cases h : hasP a ge2
              · rfl
              · obtain ⟨x, hx⟩ := hasP_iff.1 ((lt_head c3).1 c4')
                have h6 := lt_not_ge (t := x)
                rw [← hx, h] at h6; cases h6
            simp [c4, c4', mkF]
            refine wh_l (l := 1) (k := .i64) rfl (by omega) (by omega) ?_
            simp [okC, putElem, upd, bndV, mkF]
            exact ⟨1, by8 "", a.extract 1 a.size, .inr ⟨⟨rfl, rfl, rfl⟩, hgf, c3, (lt_head c3).1 c4'⟩, by omega, Wk.both (by simp [wkL, wkV.same]; rw [wrap_i64 (i := 1) (by omega) (by omega)]; exact wkV.same _) (by simp [wkB, bndV])⟩
          · have c4' : ¬ bt a 0 = 60 := fun e => c4 (by rw [e]; rfl)
            simp [c4, c4', okC, putElem, upd, fill]
            exact Fin_ret2 rfl (by rw [neither nA (.inr fun h => c4' h.2)]; rfl)
        · have c3' : ¬ (1 : Int) < a.size := by omega
          simp [c3', mkF, okC, putElem, upd, fill]
          exact Fin_ret2 rfl (by rw [neither nA (.inr fun h => c3 h.1)]; rfl)
      | cons b r =>
        have c6 : ¬ (0 : Int) = ((b :: r).length : Nat) := by simp; omega
        rw [decide_eq_false c6]
        simp [okC, putElem, upd, fill]
        exact Fin_ret2 rfl (by rw [neither nA (.inl (by simp))]; rfl)
  · have ze : (a.extract 2 a.size).size = a.size - 2 := by rw [ext_size]; omega
    have hw : IntKind.i64.wrap (r.length : Int) = r.length := wrap_i64 (by omega) (by simp at hll; omega)
    cases r with
    | nil =>
      simp [bndV, okC, frA, frA.frL]
      refine vcall_go (specRngOk_fx hE [(a.extract 2 a.size, by8 "")] (by simp) (by simp [by8_nil, ze]; omega)) (by simp [bndV, ro]) (by simp) (by simp) (by simp) ?_
      rw [rngOk_one, end_nil, end_pos (by omega), Bool.and_true]
      have hsg : sgnW [a] = if isVer (a.extract 2 a.size) = true then some (a.extract 2 a.size, by8 "") else none := by
        rw [sgnW, if_pos hg]
      cases hv : isVer (a.extract 2 a.size)
      · rw [hv, if_neg (by simp)] at hsg
        simp [okC, putElem, upd, fill]
        exact Fin_ret2 rfl (by rw [hsg]; rfl)
      · rw [hv, if_pos rfl] at hsg
        simp [okC, putElem, upd, fill]
        exact Fin_ret2 rfl (by rw [hsg]; rfl)
    | cons b r =>
      have zb := hsz 1 b rfl
      have c0 : (1 : Int) < (r.length : Int) + 1 + 1 := by omega
      simp [bndV, mkF, c0]
      have hw2 : IntKind.i64.wrap ((r.length : Int) + 1) = r.length + 1 := wrap_i64 (by omega) (by simp at hll; omega)
      rw [hw2]
      cases r with
      | cons c r =>
        have c6 : ¬ (1 : Int) = (((c :: r).length : Nat) : Int) + 1 := by simp; omega
        rw [decide_eq_false c6]
        simp [okC, putElem, upd, fill]
        exact Fin_ret2 rfl rfl
      | nil =>
        by_cases c3 : 1 < b.size
        · have c3' : (1 : Int) < b.size := by omega
          have c5 : 0 < b.size := by omega
          simp [c3', c5, mkF]
          by_cases c4 : ((bt b 0).toNat : Int) = 60
          · have c4' : bt b 0 = 60 := u8_eq.1 (c4.trans rfl)
            simp [c4, c4', mkF]
            refine wh_l (l := 1) (k := .i64) rfl (by omega) (by omega) ?_
            simp [okC, putElem, upd, bndV, mkF]
            exact ⟨2, a.extract 2 a.size, b.extract 1 b.size, .inr ⟨b, ⟨rfl, rfl, rfl⟩, rfl, ⟨h2, hg⟩, c3, (lt_head c3).1 c4'⟩, by omega, Wk.both (by simp [wkL, wkV.same]; rw [wrap_i64 (i := 2) (by omega) (by omega)]; exact wkV.same _) (by simp [wkB, bndV])⟩
          · have c4' : ¬ bt b 0 = 60 := fun e => c4 (by rw [e]; rfl)
            have hn : sgnW [a, b] = none := by rw [sgnW, if_neg fun h => c4' ((lt_head c3).2 h.2.1)]
            simp [c4, c4', okC, putElem, upd, fill]
            exact Fin_ret2 rfl (by rw [hn]; rfl)
        · have c3' : ¬ (1 : Int) < b.size := by omega
          have hn : sgnW [a, b] = none := by rw [sgnW, if_neg fun h => c3 (lt_short h.2.2)]
          simp [c3', mkF, okC, putElem, upd, fill]
          exact Fin_ret2 rfl (by rw [hn]; rfl)
  · have zb : (a.extract 1 a.size).size = a.size - 1 := by rw [ext_size]; omega
    simp [bndV, okC, frA, frA.frL]
    refine vcall_go (specRngOk_fx hE [(by8 "", a.extract 1 a.size)] (by simp) (by simp [by8_nil, zb]; omega)) (by simp [bndV, ro]) (by simp) (by simp) (by simp) ?_
    rw [rngOk_one, end_nil, end_pos (by omega), Bool.true_and]
    have hsg : sgnW [a] = if isVer (a.extract 1 a.size) = true then some (by8 "", a.extract 1 a.size) else none := by
      rw [sgnW, hg, if_neg (by simp), hl]; simp
    cases hv : isVer (a.extract 1 a.size)
    · rw [hv, if_neg (by simp)] at hsg
      simp [okC, putElem, upd, fill]
      exact Fin_ret2 rfl (by rw [hsg]; rfl)
    · rw [hv, if_pos rfl] at hsg
      simp [okC, putElem, upd, fill]
      exact Fin_ret2 rfl (by rw [hsg]; rfl)
  · have za2 : (a.extract 2 a.size).size = a.size - 2 := by rw [ext_size]; omega
    have zb2 : (b.extract 1 b.size).size = b.size - 1 := by rw [ext_size]; omega
    have zb := hsz 1 b rfl
    simp [bndV, okC, frA, frA.frL]
    refine vcall_go (specRngOk_fx hE [(a.extract 2 a.size, b.extract 1 b.size)] (by simp) (by simp [za2, zb2]; omega)) (by simp [bndV, ro]) (by simp) (by simp) (by simp) ?_
    rw [rngOk_one, end_pos (by omega), end_pos (by omega)]
    have hsg : sgnW [a, b] = if isVer (a.extract 2 a.size) = true ∧ isVer (b.extract 1 b.size) = true then some (a.extract 2 a.size, b.extract 1 b.size) else none := by
      rw [sgnW, hg, hl]; simp
    cases hv : isVer (a.extract 2 a.size)
    · rw [hv, if_neg (by simp)] at hsg
      simp [okC, putElem, upd, fill]
      exact Fin_ret2 rfl (by rw [hsg]; rfl)
    · cases hv2 : isVer (b.extract 1 b.size)
      · rw [hv, hv2, if_neg (by simp)] at hsg
        simp [okC, putElem, upd, fill]
        exact Fin_ret2 rfl (by rw [hsg]; rfl)
      · rw [hv, hv2, if_pos ⟨rfl, rfl⟩] at hsg
        simp [okC, putElem, upd, fill]
        exact Fin_ret2 rfl (by rw [hsg]; rfl)
end
end Go.Proofs.YticockdhfglolaaGreatDoor.Vm
namespace Go.Proofs.YticockdhfglolaaGreatDoor.Vm
open Go Go.RowKit
set_option linter.unusedVariables false
set_option linter.unusedSimpArgs false
def v187 : VC := .seq (.reg false [⟨some 2, .alloc (.agg [(.lit (.string (by8 ""))), (.lit (.string (by8 "")))]), none⟩, ⟨some 3, .as (.c (.lit (.bool false))), none⟩] [3]) (.seq (.reg false [⟨some 10, .mv (.t 0), none⟩, ⟨some 11, .call false 101 [(.t 10), (.c (.lit (.int .u8 46)))], none⟩, ⟨some 4, .as (.t 11), none⟩] [10, 11]) (.seq (.reg false [⟨some 12, .mv (.t 0), none⟩, ⟨some 13, .bin .add 0 (.t 12) (.c (.lit (.string (by8 ".0")))), none⟩, ⟨some 5, .as (.t 13), none⟩] [12, 13]) (.seq (.seq (.reg false [⟨some 14, .mv (.t 4), none⟩, ⟨some 15, .len false (.t 14), none⟩, ⟨some 16, .bin .eql 0 (.t 15) (.c (.lit (.int .i64 1))), none⟩] [14, 15]) (.cond (.t 16) (.reg false [⟨some 17, .mv (.t 0), none⟩, ⟨some 18, .bin .add 0 (.t 17) (.c (.lit (.string (by8 ".0.0")))), none⟩, ⟨some 5, .as (.t 18), none⟩] [17, 18]) (.skip))) (.seq (.reg false [⟨some 20, .mv (.t 5), none⟩, ⟨some 21, .call false 57 [(.t 20)], none⟩, ⟨some 19, .mv (.t 21), none⟩, ⟨some 22, .ext (.t 19) 0, none⟩, ⟨some 23, .ext (.t 19) 1, none⟩, ⟨some 6, .alloc (.agg [(.lit (.int .i64 0)), (.lit (.int .i64 0)), (.lit (.int .i64 0)), (.sl ⟨.nl, true⟩ 1 [])]), none⟩, ⟨none, .st 4 (.t 6) (.t 22), none⟩, ⟨some 7, .as (.t 23), none⟩] [20, 21, 19, 22, 23]) (.seq (.seq (.reg false [⟨some 24, .mv (.t 7), none⟩, ⟨some 25, .un .not (.t 24), none⟩, ⟨some 26, .mv (.t 25), none⟩, ⟨some 27, .mv (.t 4), (some (26, false))⟩, ⟨some 28, .len false (.t 27), (some (26, false))⟩, ⟨some 29, .call false 82 [(.t 28), (.c (.lit (.int .i64 1))), (.c (.lit (.int .i64 2)))], (some (26, false))⟩, ⟨some 30, .un .not (.t 29), (some (26, false))⟩, ⟨some 31, .pick (.t 26) (.c (.lit (.bool true))) (.t 30), none⟩, ⟨some 32, .mv (.t 31), none⟩, ⟨some 33, .fa 3 (.t 6), (some (32, false))⟩, ⟨some 34, .ld false 1 (.t 33), (some (32, false))⟩, ⟨some 35, .len false (.t 34), (some (32, false))⟩, ⟨some 36, .bin .gtr 0 (.t 35) (.c (.lit (.int .i64 0))), (some (32, false))⟩, ⟨some 37, .pick (.t 32) (.c (.lit (.bool true))) (.t 36), none⟩] [24, 25, 26, 27, 28, 29, 30, 31, 32, 33, 34, 35, 36]) (.cond (.t 37) (.seq (.reg false [⟨some 38, .bld [(.lit (.string (by8 ""))), (.lit (.string (by8 "")))] [], none⟩, ⟨none, .st 2 (.t 2) (.t 38), none⟩, ⟨some 3, .as (.c (.lit (.bool false))), none⟩] [38]) (.ret)) (.skip))) (.seq (.reg false [⟨some 40, .ld true 4 (.t 6), none⟩, ⟨some 41, .mv (.t 4), none⟩, ⟨some 42, .len false (.t 41), none⟩, ⟨some 43, .bin .sub 0 (.t 42) (.c (.lit (.int .i64 1))), none⟩, ⟨some 44, .call false 212 [(.t 40), (.t 43)], none⟩, ⟨some 39, .mv (.t 44), none⟩, ⟨some 45, .ext (.t 39) 0, none⟩, ⟨some 46, .ext (.t 39) 1, none⟩, ⟨some 8, .as (.t 45), none⟩, ⟨some 9, .as (.t 46), none⟩] [40, 41, 42, 43, 44, 39, 45, 46]) (.seq (.seq (.reg false [⟨some 47, .mv (.t 9), none⟩, ⟨some 48, .un .not (.t 47), none⟩] [47]) (.cond (.t 48) (.seq (.reg false [⟨some 49, .bld [(.lit (.string (by8 ""))), (.lit (.string (by8 "")))] [], none⟩, ⟨none, .st 2 (.t 2) (.t 49), none⟩, ⟨some 3, .as (.c (.lit (.bool false))), none⟩] [49]) (.ret)) (.skip))) (.seq (.reg false [⟨some 50, .mv (.t 5), none⟩, ⟨some 51, .mv (.t 8), none⟩, ⟨some 52, .bld [(.lit (.string (by8 ""))), (.lit (.string (by8 "")))] [(0, 1, (.t 50)), (1, 1, (.t 51))], none⟩, ⟨none, .st 2 (.t 2) (.t 52), none⟩, ⟨some 3, .as (.c (.lit (.bool true))), none⟩] [50, 51, 52]) (.ret)))))))))
theorem is187 : Is Go.Proofs.Tryz.prog 187 53 v187 [.b 2 true 2, .t 3] := ⟨Go.Proofs.Tryz.f187, dl [(0, [3]), (1, [10, 11]), (2, [12, 13]), (3, [14, 15]), (4, [17, 18]), (5, [20, 21, 19, 22, 23]), (6, [24, 25, 26, 27, 28, 29, 30, 31, 32, 33, 34, 35, 36]), (7, [38]), (8, [40, 41, 42, 43, 44, 39, 45, 46]), (9, [47]), (10, [49]), (11, [50, 51, 52])], Go.Proofs.Tryz.func187, by kernel_rfl, by kernel_rfl, by kernel_rfl, by kernel_rfl⟩
def v130 : VC := .seq (.reg false [⟨some 2, .alloc (.agg [(.lit (.string (by8 ""))), (.lit (.string (by8 "")))]), none⟩, ⟨some 3, .as (.c (.lit (.bool false))), none⟩] [3]) (.seq (.seq (.reg false [⟨some 8, .mv (.t 0), none⟩, ⟨some 9, .bin .eql 0 (.t 8) (.c (.lit (.string (by8 "*")))), none⟩] [8]) (.cond (.t 9) (.seq (.reg false [⟨some 10, .bld [(.lit (.string (by8 ""))), (.lit (.string (by8 "")))] [], none⟩, ⟨none, .st 2 (.t 2) (.t 10), none⟩, ⟨some 3, .as (.c (.lit (.bool true))), none⟩] [10]) (.ret)) (.skip))) (.seq (.seq (.reg false [⟨some 11, .mv (.t 0), none⟩, ⟨some 12, .len true (.t 11), none⟩, ⟨some 13, .bin .gtr 0 (.t 12) (.c (.lit (.int .i64 1))), none⟩, ⟨some 14, .mv (.t 13), none⟩, ⟨some 15, .mv (.t 0), (some (14, true))⟩, ⟨some 16, .idx (.t 15) (.c (.lit (.int .i64 0))), (some (14, true))⟩, ⟨some 17, .bin .eql 0 (.t 16) (.c (.lit (.int .u8 94))), (some (14, true))⟩, ⟨some 18, .mv (.t 17), (some (14, true))⟩, ⟨some 19, .mv (.t 0), (some (18, false))⟩, ⟨some 20, .idx (.t 19) (.c (.lit (.int .i64 0))), (some (18, false))⟩, ⟨some 21, .bin .eql 0 (.t 20) (.c (.lit (.int .u8 126))), (some (18, false))⟩, ⟨some 22, .pick (.t 18) (.c (.lit (.bool true))) (.t 21), (some (14, true))⟩, ⟨some 23, .pick (.t 14) (.t 22) (.c (.lit (.bool false))), none⟩] [11, 12, 13, 14, 15, 16, 17, 18, 19, 20, 21, 22]) (.cond (.t 23) (.seq (.reg false [⟨some 25, .mv (.t 0), none⟩, ⟨some 26, .slS (.t 25) (some (.c (.lit (.int .i64 1)))) none, none⟩, ⟨some 27, .call false 57 [(.t 26)], none⟩, ⟨some 24, .mv (.t 27), none⟩, ⟨some 28, .ext (.t 24) 0, none⟩, ⟨some 29, .ext (.t 24) 1, none⟩, ⟨some 4, .alloc (.agg [(.lit (.int .i64 0)), (.lit (.int .i64 0)), (.lit (.int .i64 0)), (.sl ⟨.nl, true⟩ 1 [])]), none⟩, ⟨none, .st 4 (.t 4) (.t 28), none⟩, ⟨some 5, .as (.t 29), none⟩] [25, 26, 27, 24, 28, 29]) (.seq (.seq (.reg false [⟨some 30, .mv (.t 5), none⟩, ⟨some 31, .un .not (.t 30), none⟩] [30]) (.cond (.t 31) (.seq (.reg false [⟨some 32, .bld [(.lit (.string (by8 ""))), (.lit (.string (by8 "")))] [], none⟩, ⟨none, .st 2 (.t 2) (.t 32), none⟩, ⟨some 3, .as (.c (.lit (.bool false))), none⟩] [32]) (.ret)) (.skip))) (.seq (.seq (.reg false [⟨some 33, .mv (.t 0), none⟩, ⟨some 34, .idx (.t 33) (.c (.lit (.int .i64 0))), none⟩, ⟨some 35, .bin .eql 0 (.t 34) (.c (.lit (.int .u8 126))), none⟩] [33, 34]) (.cond (.t 35) (.seq (.reg true [⟨some 36, .mv (.t 0), none⟩, ⟨some 37, .slS (.t 36) (some (.c (.lit (.int .i64 1)))) none, none⟩, ⟨some 38, .ld true 4 (.t 4), none⟩, ⟨some 39, .call true 184 [(.t 37), (.t 38), (.c (.lit (.int .i64 1)))], none⟩, ⟨some 40, .ext (.t 39) 0, none⟩, ⟨some 41, .ext (.t 39) 1, none⟩, ⟨none, .st 2 (.t 2) (.t 40), none⟩, ⟨some 3, .as (.t 41), none⟩] [36, 37, 38, 39, 40, 41]) (.ret)) (.skip))) (.seq (.reg true [⟨some 42, .mv (.t 0), none⟩, ⟨some 43, .slS (.t 42) (some (.c (.lit (.int .i64 1)))) none, none⟩, ⟨some 44, .ld true 4 (.t 4), none⟩, ⟨some 45, .ld true 4 (.t 4), none⟩, ⟨some 46, .call true 185 [(.t 45)], none⟩, ⟨some 47, .call true 184 [(.t 43), (.t 44), (.t 46)], none⟩, ⟨some 48, .ext (.t 47) 0, none⟩, ⟨some 49, .ext (.t 47) 1, none⟩, ⟨none, .st 2 (.t 2) (.t 48), none⟩, ⟨some 3, .as (.t 49), none⟩] [42, 43, 44, 45, 46, 47, 48, 49]) (.ret))))) (.skip))) (.seq (.seq (.reg false [⟨some 50, .mv (.t 0), none⟩, ⟨some 51, .len true (.t 50), none⟩, ⟨some 52, .bin .gtr 0 (.t 51) (.c (.lit (.int .i64 0))), none⟩, ⟨some 53, .mv (.t 52), none⟩, ⟨some 54, .mv (.t 0), (some (53, true))⟩, ⟨some 55, .idx (.t 54) (.c (.lit (.int .i64 0))), (some (53, true))⟩, ⟨some 56, .bin .eql 0 (.t 55) (.c (.lit (.int .u8 62))), (some (53, true))⟩, ⟨some 57, .mv (.t 56), (some (53, true))⟩, ⟨some 58, .mv (.t 0), (some (57, false))⟩, ⟨some 59, .idx (.t 58) (.c (.lit (.int .i64 0))), (some (57, false))⟩, ⟨some 60, .bin .eql 0 (.t 59) (.c (.lit (.int .u8 60))), (some (57, false))⟩, ⟨some 61, .pick (.t 57) (.c (.lit (.bool true))) (.t 60), (some (53, true))⟩, ⟨some 62, .pick (.t 53) (.t 61) (.c (.lit (.bool false))), none⟩] [50, 51, 52, 53, 54, 55, 56, 57, 58, 59, 60, 61]) (.cond (.t 62) (.seq (.reg false [⟨some 63, .mv (.t 0), none⟩, ⟨some 64, .call false 186 [(.t 63)], none⟩, ⟨some 65, .ext (.t 64) 0, none⟩, ⟨some 66, .ext (.t 64) 1, none⟩, ⟨none, .st 2 (.t 2) (.t 65), none⟩, ⟨some 3, .as (.t 66), none⟩] [63, 64, 65, 66]) (.ret)) (.skip))) (.seq (.reg false [⟨some 68, .mv (.t 0), none⟩, ⟨some 69, .call false 171 [(.t 68)], none⟩, ⟨some 67, .mv (.t 69), none⟩, ⟨some 70, .ext (.t 67) 0, none⟩, ⟨some 71, .ext (.t 67) 1, none⟩, ⟨some 6, .alloc (.agg [(.lit (.string (by8 ""))), (.lit (.string (by8 "")))]), none⟩, ⟨none, .st 2 (.t 6) (.t 70), none⟩, ⟨some 7, .as (.t 71), none⟩] [68, 69, 67, 70, 71]) (.seq (.seq (.reg false [⟨some 72, .mv (.t 7), none⟩] []) (.cond (.t 72) (.seq (.reg false [⟨some 73, .ld true 2 (.t 6), none⟩, ⟨none, .st 2 (.t 2) (.t 73), none⟩, ⟨some 3, .as (.c (.lit (.bool true))), none⟩] [73]) (.ret)) (.skip))) (.seq (.reg false [⟨some 74, .mv (.t 0), none⟩, ⟨some 75, .call false 187 [(.t 74)], none⟩, ⟨some 76, .ext (.t 75) 0, none⟩, ⟨some 77, .ext (.t 75) 1, none⟩, ⟨none, .st 2 (.t 2) (.t 76), none⟩, ⟨some 3, .as (.t 77), none⟩] [74, 75, 76, 77]) (.ret)))))))
theorem is130 : Is Go.Proofs.Tryz.prog 130 78 v130 [.b 2 true 2, .t 3] := ⟨Go.Proofs.Tryz.f130, dl [(0, [3]), (1, [8]), (2, [10]), (3, [11, 12, 13, 14, 15, 16, 17, 18, 19, 20, 21, 22]), (4, [25, 26, 27, 24, 28, 29]), (5, [30]), (6, [32]), (7, [33, 34]), (8, [36, 37, 38, 39, 40, 41]), (9, [42, 43, 44, 45, 46, 47, 48, 49]), (10, [50, 51, 52, 53, 54, 55, 56, 57, 58, 59, 60, 61]), (11, [63, 64, 65, 66]), (12, [68, 69, 67, 70, 71]), (14, [73]), (15, [74, 75, 76, 77])], Go.Proofs.Tryz.func130, by kernel_rfl, by kernel_rfl, by kernel_rfl, by kernel_rfl⟩
def v78 : VC := .seq (.reg false [⟨some 2, .as (.c (.sl ⟨.nl, true⟩ 1 [])), none⟩, ⟨some 3, .as (.c (.lit (.bool false))), none⟩] [2, 3]) (.seq (.reg false [⟨some 9, .bsl 2 [], none⟩, ⟨some 4, .as (.t 9), none⟩] [9]) (.seq (.reg false [⟨some 10, .mv (.t 0), none⟩, ⟨some 11, .call false 129 [(.t 10)], none⟩, ⟨some 5, .as (.t 11), none⟩] [10, 11]) (.seq (.seq (.reg false [⟨some 12, .mv (.t 0), none⟩, ⟨some 13, .len true (.t 12), none⟩, ⟨some 14, .bin .gtr 0 (.t 13) (.c (.lit (.int .i64 200))), none⟩, ⟨some 15, .mv (.t 14), none⟩, ⟨some 16, .mv (.t 5), (some (15, false))⟩, ⟨some 17, .len false (.t 16), (some (15, false))⟩, ⟨some 18, .bin .gtr 0 (.t 17) (.c (.lit (.int .i64 8))), (some (15, false))⟩, ⟨some 19, .pick (.t 15) (.c (.lit (.bool true))) (.t 18), none⟩] [12, 13, 14, 15, 16, 17, 18]) (.cond (.t 19) (.seq (.reg false [⟨some 20, .mv (.t 4), none⟩, ⟨some 2, .as (.t 20), none⟩, ⟨some 3, .as (.c (.lit (.bool false))), none⟩] [20]) (.ret)) (.skip))) (.seq (.seq (.reg false [⟨some 6, .as (.c (.lit (.int .i64 0))), none⟩] []) (.block 0 (.loop (.seq (.seq (.reg false [⟨some 21, .mv (.t 6), none⟩, ⟨some 22, .mv (.t 5), none⟩, ⟨some 23, .len false (.t 22), none⟩, ⟨some 24, .bin .lss 0 (.t 21) (.t 23), none⟩] [21, 22, 23]) (.cond (.t 24) (.skip) (.exit 0))) (.seq (.block 1 (.seq (.reg false [⟨some 28, .mv (.t 5), none⟩, ⟨some 29, .mv (.t 6), none⟩, ⟨some 30, .ia 1 (.t 28) (.t 29), none⟩, ⟨some 31, .ld false 1 (.t 30), none⟩, ⟨some 32, .call false 130 [(.t 31)], none⟩, ⟨some 27, .mv (.t 32), none⟩, ⟨some 33, .ext (.t 27) 0, none⟩, ⟨some 34, .ext (.t 27) 1, none⟩, ⟨some 7, .alloc (.agg [(.lit (.string (by8 ""))), (.lit (.string (by8 "")))]), none⟩, ⟨none, .st 2 (.t 7) (.t 33), none⟩, ⟨some 8, .as (.t 34), none⟩] [28, 29, 30, 31, 32, 27, 33, 34]) (.seq (.seq (.reg false [⟨some 35, .mv (.t 8), none⟩, ⟨some 36, .un .not (.t 35), none⟩] [35]) (.cond (.t 36) (.seq (.reg false [⟨some 37, .bsl 2 [], none⟩, ⟨some 2, .as (.t 37), none⟩, ⟨some 3, .as (.c (.lit (.bool false))), none⟩] [37]) (.ret)) (.skip))) (.reg false [⟨some 38, .mv (.t 4), none⟩, ⟨some 39, .ld true 2 (.t 7), none⟩, ⟨some 40, .bsl 2 [(.t 39)], none⟩, ⟨some 41, .app 2 32 (.t 38) (.t 40), none⟩, ⟨some 4, .as (.t 41), none⟩] [38, 39, 40, 41])))) (.reg false [⟨some 25, .mv (.t 6), none⟩, ⟨some 26, .bin .add 0 (.t 25) (.c (.lit (.int .i64 1))), none⟩, ⟨some 6, .as (.t 26), none⟩] [25, 26])))))) (.seq (.reg false [⟨some 42, .mv (.t 4), none⟩, ⟨some 2, .as (.t 42), none⟩, ⟨some 3, .as (.c (.lit (.bool true))), none⟩] [42]) (.ret))))))
theorem is78 : Is Go.Proofs.Tryz.prog 78 43 v78 [.t 2, .t 3] := ⟨Go.Proofs.Tryz.f78, dl [(0, [2, 3]), (1, [9]), (2, [10, 11]), (3, [12, 13, 14, 15, 16, 17, 18]), (4, [20]), (6, [21, 22, 23]), (8, [28, 29, 30, 31, 32, 27, 33, 34]), (9, [35]), (10, [37]), (11, [38, 39, 40, 41]), (7, [25, 26]), (12, [42])], Go.Proofs.Tryz.func78, by kernel_rfl, by kernel_rfl, by kernel_rfl, by kernel_rfl⟩
noncomputable def bndR : Option (ByteArray × ByteArray) → AV
  | some p => .tup [bndV p.1 p.2, .lit (.bool true)]
  | none => .tup [bndV (by8 "") (by8 ""), .lit (.bool false)]
theorem bndR_ok (o : Option (ByteArray × ByteArray)) : resOk (bndR o) = true := by cases o <;> rfl
theorem w64_0 : IntKind.i64.wrap 0 = 0 := wrap_i64 (by omega) (by omega)
theorem w64_1 : IntKind.i64.wrap 1 = 1 := wrap_i64 (by omega) (by omega)
theorem short_more {s : ByteArray} {w : List ByteArray} (h : spl 46 s = w) (h2 : 2 < w.length) : shortO s = none := by
  unfold shortO
  rw [h]
  match w, h2 with
  | a :: b :: c :: r, _ => rfl
noncomputable def lastO (s : ByteArray) : Option (ByteArray × ByteArray) := match exactO s with
  | some p => some p
  | none => shortO s
theorem part_sgn {s : ByteArray} (c0 : ¬ s = by8 "*") (h0 : 0 < s.size) (h : bt s 0 = 62 ∨ bt s 0 = 60) : partO s = sgnO s := by
  have h1 : ¬ (0 < s.size ∧ (bt s 0 = 94 ∨ bt s 0 = 126)) := by
    rintro ⟨_, h2⟩
    rcases h with h | h <;> rw [h] at h2 <;> revert h2 <;> decide
  rw [partO, if_neg c0, if_neg h1, if_pos ⟨h0, h⟩]
theorem part_car {s : ByteArray} (c0 : ¬ s = by8 "*") (h0 : 0 < s.size) (h : bt s 0 = 94 ∨ bt s 0 = 126) : partO s = carO s := by
  rw [partO, if_neg c0, if_pos ⟨h0, h⟩]
theorem part_last {s : ByteArray} (c0 : ¬ s = by8 "*") (h9 : ¬ (0 < s.size ∧ (bt s 0 = 94 ∨ bt s 0 = 126)) ∨ s.size ≤ 1) (h8 : ¬ (0 < s.size ∧ (bt s 0 = 62 ∨ bt s 0 = 60))) : partO s = lastO s := by
  rw [partO, if_neg c0]
  rcases h9 with h9 | h9
  · rw [if_neg h9, if_neg h8]; rfl
  · by_cases h7 : 0 < s.size ∧ (bt s 0 = 94 ∨ bt s 0 = 126)
    · have h6 : s.extract 1 s.size = by8 "" := size_nil (by rw [ext_size]; omega)
      have h5 : readVer s = none ∧ shortO s = none := by
        rcases h7.2 with h | h
        · exact first_no (c := 94) (by decide) (by decide) (by decide) (by decide +kernel) h7.1 h
        · exact first_no (c := 126) (by decide) (by decide) (by decide) (by decide +kernel) h7.1 h
      have h4 : readVer (by8 "") = none := by rw [readVer, cand_nil]; rfl
      rw [if_pos h7, carO, h6, h4, lastO, exact_no h5.1, h5.2]
    · rw [if_neg h7, if_neg h8]; rfl
noncomputable def rngRes (s : ByteArray) : AV := match rngO s with
  | some l => .tup [.sl ⟨.no, true⟩ 2 (l.map fun b => bndV b.1 b.2), .lit (.bool true)]
  | none => .tup [.sl ⟨.no, true⟩ 2 [], .lit (.bool false)]
theorem rngRes_ok (s : ByteArray) : resOk (rngRes s) = true := by unfold rngRes; cases rngO s <;> rfl
theorem fin_row2 {n m sz : Nat} {xs : List AV} {s : AS} {r : AV} {ap : Ap} {v : Value} (hnm : n ≠ m) (h : s.get n = .sl ⟨ap, true⟩ sz xs) (h2 : s.get m = .lit v) (hr : r = .tup [.sl ⟨.no, true⟩ sz xs, .lit v]) : Fin [.t n, .t m] r [] .ret s := Fin_wk2' (s1 := ⟨[(n, .sl ⟨.no, true⟩ sz xs), (m, .lit v)], []⟩) (Wk.both (by simp [wkL, h, h2, wkV.same]; exact wkV_no ap true sz xs) (by simp [wkB])) (r1 := .sl ⟨.no, true⟩ sz xs) (r2 := .lit v) (by simp [resVs, resV, AS.get, look, hnm]; rw [if_neg fun e => hnm e.symm]; rfl) (by rw [hr]; rfl)
theorem fin_nil2 {n m sz : Nat} {s : AS} {r : AV} {v : Value} (hnm : n ≠ m) (h : s.get n = .sl ⟨.nl, true⟩ 1 []) (h2 : s.get m = .lit v) (hr : r = .tup [.sl ⟨.no, true⟩ sz [], .lit v]) : Fin [.t n, .t m] r [] .ret s := Fin_wk2' (s1 := ⟨[(n, .sl ⟨.no, true⟩ sz []), (m, .lit v)], []⟩) (Wk.both (by simp [wkL, h, h2, wkV.same]; exact .inr (.inr ⟨_, _, _, _, _, rfl, rfl, id, .inl ⟨rfl, .inr rfl⟩⟩)) (by simp [wkB])) (r1 := .sl ⟨.no, true⟩ sz []) (r2 := .lit v) (by simp [resVs, resV, AS.get, look, hnm]; rw [if_neg fun e => hnm e.symm]; rfl) (by rw [hr]; rfl)
theorem parts_size {s p : ByteArray} (h : p ∈ spB barB s) : p.size ≤ s.size := spB_size (by rw [barB_size]; omega) s.size s (Nat.le_refl _) p h
section
variable {E : Env} (hE : E.P = Go.Proofs.Tryz.prog)
include hE
set_option maxHeartbeats 4000000 in
theorem short03_fx (s : ByteArray) (hs : s.size ≤ 1073741824) : Fx E 187 [] [.lit (.string s)] [] (bndR (shortO s)) := by
  have e2 : (by8 ".0").size = 2 := by decide +kernel
  have e4 : (by8 ".0.0").size = 4 := by decide +kernel
  refine (is187.to hE).fx [] (by simp) rfl (bndR_ok _) ?_
  simp [v187, okC]
  refine vcall_go (l01Cut_fx hE s 46 (by omega)) (by simp) (by simp) (by simp) (by simp) ?_
  have hll := spl_len_le 46 s
  have hne := spl_ne 46 s
  obtain ⟨w, hw⟩ : ∃ w, spl 46 s = w := ⟨_, rfl⟩
  rw [hw] at hll hne ⊢
  have hw0 : IntKind.i64.wrap ((w.length : Int) - 1) = w.length - 1 := wrap_i64 (by omega) (by omega)
  simp
  refine ⟨by omega, ?_⟩
  match w, hne with
  | [a], _ =>
    simp
    refine ⟨by omega, ?_⟩
    refine vcall_go (specReadVer_fx hE (s ++ by8 ".0.0") (by rw [ByteArray.size_append]; omega)) (by simp) (by simp) (by simp) (by simp) ?_
    unfold verRes
    have hso : shortO s = if 0 ≤ readDec a ∧ verOk ⟨readDec a + 1, 0, 0, []⟩ = true then some (verT ⟨readDec a, 0, 0, []⟩, verT ⟨readDec a + 1, 0, 0, [by8 "0"]⟩) else none := by rw [shortO, hw]
    cases hr : readVer (s ++ by8 ".0.0") with
    | none =>
      have hx : shortO s = none := by
        rw [hso, if_neg]
        rintro ⟨h, _⟩
        rw [(short_one_back hw h).2] at hr; cases hr
      simp [verNone, okC, putElem, upd, fill]
      exact Fin_ret2 rfl (by rw [hx]; rfl)
    | some v =>
      by_cases hp : v.pre = []
      · obtain ⟨n, hn, rfl, hd, rfl⟩ := short_one hw hr hp
        have hb := short_one_back hw (by omega)
        rw [hd] at hso hb
        have hbl := specBelow_fx hE ⟨n, 0, 0, []⟩ (ver_back hr).1 0 (by simp)
        have hnx : nextV ⟨n, 0, 0, []⟩ 0 = ⟨(n : Int) + 1, 0, 0, []⟩ := rfl
        rw [belowRes, hnx] at hbl
        rcases apS_cases (s ++ by8 ".0.0") with h | h
        all_goals
          simp [verSome, okC, putElem, upd, fill, h]
          refine vcall_go (l01In_fx hE 1 1 2) (by simp) (by simp) (by simp) (by simp) ?_
          simp [inR]
          refine vcall_go hbl (by simp [Ver.av, ro, w64_0, w64_1]) (by simp) (by simp) (by simp) ?_
          cases hk : verOk ⟨(n : Int) + 1, 0, 0, []⟩
          · rw [hk, if_neg (by simp)] at hso
            simp [okC, putElem, upd, fill]
            exact Fin_ret2 rfl (by rw [hso]; rfl)
          · rw [hk, if_pos ⟨by omega, rfl⟩] at hso
            simp [okC, putElem, upd, fill]
            exact Fin_ret2 rfl (by rw [hso, hb.1]; rfl)
      · have hx : shortO s = none := by
          rw [hso, if_neg]
          rintro ⟨h, _⟩
          rw [(short_one_back hw h).2] at hr
          rw [← Option.some.inj hr] at hp
          exact hp rfl
        have hp0 : 0 < v.pre.length := List.length_pos_iff.2 hp
        rcases apS_cases (s ++ by8 ".0.0") with h | h
        all_goals
          simp [verSome, okC, putElem, upd, fill, h, hp, hp0]
          refine vcall_go (l01In_fx hE 1 1 2) (by simp) (by simp) (by simp) (by simp) ?_
          simp [inR, hp0, okC, putElem, upd, fill]
          exact Fin_ret2 rfl (by rw [hx]; rfl)
  | [a, b], _ =>
    simp
    refine vcall_go (specReadVer_fx hE (s ++ by8 ".0") (by rw [ByteArray.size_append]; omega)) (by simp) (by simp) (by simp) (by simp) ?_
    unfold verRes
    have hso : shortO s = if (0 ≤ readDec a ∧ 0 ≤ readDec b) ∧ verOk ⟨readDec a, readDec b + 1, 0, []⟩ = true then some (verT ⟨readDec a, readDec b, 0, []⟩, verT ⟨readDec a, readDec b + 1, 0, [by8 "0"]⟩) else none := by rw [shortO, hw]
    cases hr : readVer (s ++ by8 ".0") with
    | none =>
      have hx : shortO s = none := by
        rw [hso, if_neg]
        rintro ⟨⟨h, h9⟩, _⟩
        rw [(short_two_back hw h h9).2] at hr; cases hr
      simp [verNone, okC, putElem, upd, fill]
      exact Fin_ret2 rfl (by rw [hx]; rfl)
    | some v =>
      by_cases hp : v.pre = []
      · obtain ⟨n, m, ⟨hn, hm⟩, ⟨hd, hd2⟩, rfl⟩ := short_two hw hr hp
        have hb := short_two_back hw (by omega) (by omega)
        rw [hd, hd2] at hso hb
        have hbl := specBelow_fx hE ⟨n, m, 0, []⟩ (ver_back hr).1 1 (by simp)
        have hnx : nextV ⟨n, m, 0, []⟩ 1 = ⟨n, (m : Int) + 1, 0, []⟩ := rfl
        rw [belowRes, hnx] at hbl
        rcases apS_cases (s ++ by8 ".0") with h | h
        all_goals
          simp [verSome, okC, putElem, upd, fill, h]
          refine vcall_go (l01In_fx hE 2 1 2) (by simp) (by simp) (by simp) (by simp) ?_
          simp [inR]
          refine vcall_go hbl (by simp [Ver.av, ro, w64_0, w64_1]) (by simp) (by simp) (by simp) ?_
          cases hk : verOk ⟨(n : Int), (m : Int) + 1, 0, []⟩
          · rw [hk, if_neg (by simp)] at hso
            simp [okC, putElem, upd, fill]
            exact Fin_ret2 rfl (by rw [hso]; rfl)
          · rw [hk, if_pos ⟨⟨by omega, by omega⟩, rfl⟩] at hso
            simp [okC, putElem, upd, fill]
            exact Fin_ret2 rfl (by rw [hso, hb.1]; rfl)
      · have hx : shortO s = none := by
          rw [hso, if_neg]
          rintro ⟨⟨h, h9⟩, _⟩
          rw [(short_two_back hw h h9).2] at hr
          rw [← Option.some.inj hr] at hp
          exact hp rfl
        have hp0 : 0 < v.pre.length := List.length_pos_iff.2 hp
        rcases apS_cases (s ++ by8 ".0") with h | h
        all_goals
          simp [verSome, okC, putElem, upd, fill, h, hp, hp0]
          refine vcall_go (l01In_fx hE 2 1 2) (by simp) (by simp) (by simp) (by simp) ?_
          simp [inR, hp0, okC, putElem, upd, fill]
          exact Fin_ret2 rfl (by rw [hx]; rfl)
  | a :: b :: c :: r, _ =>
    have hx : shortO s = none := short_more hw (by simp)
    have hn1 : ¬ ((r.length : Int) + 1 + 1 + 1 = 1) := by omega
    simp [hn1]
    refine vcall_go (specReadVer_fx hE (s ++ by8 ".0") (by rw [ByteArray.size_append]; omega)) (by simp) (by simp) (by simp) (by simp) ?_
    unfold verRes
    cases hr : readVer (s ++ by8 ".0") with
    | none =>
      simp [verNone, okC, putElem, upd, fill]
      exact Fin_ret2 rfl (by rw [hx]; rfl)
    | some v =>
      have hin : inR ((r.length : Int) + 1 + 1 + 1) 1 2 = false := by simp [inR]; omega
      rcases apS_cases (s ++ by8 ".0") with h | h
      all_goals
        simp [verSome, okC, putElem, upd, fill, h]
        refine vcall_go (l01In_fx hE ((r.length : Int) + 1 + 1 + 1) 1 2) (by simp) (by simp) (by simp) (by simp) ?_
        rw [hin]
        simp [okC, putElem, upd, fill]
        exact Fin_ret2 rfl (by rw [hx]; rfl)
set_option maxHeartbeats 8000000 in
theorem part03_fx (s : ByteArray) (hs : s.size ≤ 1073741823) : Fx E 130 [] [.lit (.string s)] [] (bndR (partO s)) := by
  have hsg : Fx E 186 [] [.lit (.string s)] [] (bndR (sgnO s)) := signs03_fx hE s (by omega)
  refine (is130.to hE).fx [] (by simp) rfl (bndR_ok _) ?_
  by_cases c0 : s = by8 "*"
  · have hx : partO s = some (by8 "", by8 "") := by rw [partO, if_pos c0]
    rw [hx]
    simp [v130, c0, okC, putElem, upd, fill]
    exact Fin_ret2 rfl rfl
  simp [v130, c0, okC]
  by_cases c1 : 1 < s.size
  · have c1' : (1 : Int) < s.size := by omega
    have c1z : 0 < s.size := by omega
    simp [c1', c1z]
    by_cases d : bt s 0 = 94 ∨ bt s 0 = 126
    · have hx := part_car c0 c1z d
      have ze : (s.extract 1 s.size).size = s.size - 1 := by rw [ext_size]; omega
      rcases d with d | d
      · have hp : ∀ v, carP s v = careV v := fun v => by rw [carP, if_neg (by rw [d]; decide)]
        simp [d]
        refine wh_l (l := 1) (k := .i64) rfl (by omega) (by omega) ?_
        simp
        refine vcall_go (specReadVer_fx hE (s.extract 1 s.size) (by omega)) (by simp) (by simp) (by simp) (by simp) ?_
        unfold verRes
        cases hr : readVer (s.extract 1 s.size) with
        | none =>
          have hc : carO s = none := by rw [carO, hr]
          simp [verNone, okC, putElem, upd, fill]
          exact Fin_ret2 rfl (by rw [hx, hc]; rfl)
        | some v =>
          have hc : carO s = if verOk (nextV v (careV v)) = true then some (s.extract 1 s.size, verT ⟨(nextV v (careV v)).maj, (nextV v (careV v)).min, (nextV v (careV v)).pat, [by8 "0"]⟩) else none := by
            rw [carO, hr]; simp only [hp]
          have hcs := carP_cases s v
          rw [hp] at hcs
          have hf := from_fx hE (s.extract 1 s.size) v (ver_back hr).1 (careV v) hcs
          rcases apS_cases (s.extract 1 s.size) with h | h
          all_goals
            simp [verSome, okC, putElem, upd, fill, h, c1z, d]
            refine wh_l (l := 1) (k := .i64) rfl (by omega) (by omega) ?_
            simp
            refine vcall_go (care_fx hE v) (by simp [Ver.av, ro]) (by simp) (by simp) (by simp) ?_
            simp
            refine vcall_go hf (by simp [Ver.av, ro]) (by simp) (by simp) (by simp) ?_
            cases hk : verOk (nextV v (careV v))
            · rw [hk, if_neg (by simp)] at hc
              simp [bndV, okC, putElem, upd, fill]
              exact Fin_ret2 rfl (by rw [hx, hc]; rfl)
            · rw [hk, if_pos rfl] at hc
              simp [bndV, okC, putElem, upd, fill]
              exact Fin_ret2 rfl (by rw [hx, hc]; rfl)
      · have hp : ∀ v, carP s v = 1 := fun v => by rw [carP, if_pos d]
        simp [d, c1z]
        refine wh_l (l := 1) (k := .i64) rfl (by omega) (by omega) ?_
        simp
        refine vcall_go (specReadVer_fx hE (s.extract 1 s.size) (by omega)) (by simp) (by simp) (by simp) (by simp) ?_
        unfold verRes
        cases hr : readVer (s.extract 1 s.size) with
        | none =>
          have hc : carO s = none := by rw [carO, hr]
          simp [verNone, okC, putElem, upd, fill]
          exact Fin_ret2 rfl (by rw [hx, hc]; rfl)
        | some v =>
          have hc : carO s = if verOk (nextV v (1)) = true then some (s.extract 1 s.size, verT ⟨(nextV v (1)).maj, (nextV v (1)).min, (nextV v (1)).pat, [by8 "0"]⟩) else none := by
            rw [carO, hr]; simp only [hp]
          have hf := from_fx hE (s.extract 1 s.size) v (ver_back hr).1 1 (by simp)
          rcases apS_cases (s.extract 1 s.size) with h | h
          all_goals
            simp [verSome, okC, putElem, upd, fill, h, c1z, d]
            refine wh_l (l := 1) (k := .i64) rfl (by omega) (by omega) ?_
            simp
            refine vcall_go hf (by simp [Ver.av, ro]) (by simp) (by simp) (by simp) ?_
            cases hk : verOk (nextV v (1))
            · rw [hk, if_neg (by simp)] at hc
              simp [bndV, okC, putElem, upd, fill]
              exact Fin_ret2 rfl (by rw [hx, hc]; rfl)
            · rw [hk, if_pos rfl] at hc
              simp [bndV, okC, putElem, upd, fill]
              exact Fin_ret2 rfl (by rw [hx, hc]; rfl)
    · have d1 : ¬ ((bt s 0).toNat : Int) = 94 := fun e => d (.inl (u8_eq.1 (e.trans rfl)))
      have d2 : ¬ ((bt s 0).toNat : Int) = 126 := fun e => d (.inr (u8_eq.1 (e.trans rfl)))
      have nA : ¬ (0 < s.size ∧ (bt s 0 = 94 ∨ bt s 0 = 126)) ∨ s.size ≤ 1 := .inl fun h => d h.2
      simp [d1, d2, c1z]
      have z := c1z
      · skip
        by_cases d1 : ((bt s 0).toNat : Int) = 62
        · have hx := part_sgn c0 z (.inl (u8_eq.1 (d1.trans rfl)))
          simp [d1]
          refine vcall_go hsg (by simp) (by simp) (by simp) (by simp) ?_
          cases hr : sgnO s with
          | some p =>
            simp [bndR, bndV, okC, putElem, upd, fill]
            exact Fin_ret2 rfl (by rw [hx, hr]; rfl)
          | none =>
            simp [bndR, bndV, okC, putElem, upd, fill]
            exact Fin_ret2 rfl (by rw [hx, hr]; rfl)
        · have d1' : ¬ bt s 0 = 62 := fun e => d1 (by rw [e]; rfl)
          simp [d1, z]
          by_cases d2 : ((bt s 0).toNat : Int) = 60
          · have hx := part_sgn c0 z (.inr (u8_eq.1 (d2.trans rfl)))
            simp [d2]
            refine vcall_go hsg (by simp) (by simp) (by simp) (by simp) ?_
            cases hr : sgnO s with
            | some p =>
              simp [bndR, bndV, okC, putElem, upd, fill]
              exact Fin_ret2 rfl (by rw [hx, hr]; rfl)
            | none =>
              simp [bndR, bndV, okC, putElem, upd, fill]
              exact Fin_ret2 rfl (by rw [hx, hr]; rfl)
          · have d2' : ¬ bt s 0 = 60 := fun e => d2 (by rw [e]; rfl)
            have hx := part_last c0 nA fun h => h.2.elim d1' d2'
            simp [d2]
            refine vcall_go (specAlone_fx hE s (by omega)) (by simp) (by simp) (by simp) (by simp) ?_
            cases hq : exactO s with
            | some p =>
              simp [aloneRes, hq, bndV, okC, putElem, upd, fill]
              exact Fin_ret2 rfl (by rw [hx, lastO, hq]; rfl)
            | none =>
              simp [aloneRes, hq, bndV, okC, putElem, upd, fill]
              refine vcall_go (short03_fx hE s (by omega)) (by simp) (by simp) (by simp) (by simp) ?_
              cases hr : shortO s with
              | some p =>
                simp [bndR, bndV, okC, putElem, upd, fill]
                exact Fin_ret2 rfl (by rw [hx, lastO, hq, hr]; rfl)
              | none =>
                simp [bndR, bndV, okC, putElem, upd, fill]
                exact Fin_ret2 rfl (by rw [hx, lastO, hq, hr]; rfl)
  · have c1' : ¬ (1 : Int) < s.size := by omega
    have nA : ¬ (0 < s.size ∧ (bt s 0 = 94 ∨ bt s 0 = 126)) ∨ s.size ≤ 1 := .inr (by omega)
    simp [c1']
    by_cases z : 0 < s.size
    · simp [z]
      by_cases d1 : ((bt s 0).toNat : Int) = 62
      · have hx := part_sgn c0 z (.inl (u8_eq.1 (d1.trans rfl)))
        simp [d1]
        refine vcall_go hsg (by simp) (by simp) (by simp) (by simp) ?_
        cases hr : sgnO s with
        | some p =>
          simp [bndR, bndV, okC, putElem, upd, fill]
          exact Fin_ret2 rfl (by rw [hx, hr]; rfl)
        | none =>
          simp [bndR, bndV, okC, putElem, upd, fill]
          exact Fin_ret2 rfl (by rw [hx, hr]; rfl)
      · have d1' : ¬ bt s 0 = 62 := fun e => d1 (by rw [e]; rfl)
        simp [d1, z]
        by_cases d2 : ((bt s 0).toNat : Int) = 60
        · have hx := part_sgn c0 z (.inr (u8_eq.1 (d2.trans rfl)))
          simp [d2]
          refine vcall_go hsg (by simp) (by simp) (by simp) (by simp) ?_
          cases hr : sgnO s with
          | some p =>
            simp [bndR, bndV, okC, putElem, upd, fill]
            exact Fin_ret2 rfl (by rw [hx, hr]; rfl)
          | none =>
            simp [bndR, bndV, okC, putElem, upd, fill]
            exact Fin_ret2 rfl (by rw [hx, hr]; rfl)
        · have d2' : ¬ bt s 0 = 60 := fun e => d2 (by rw [e]; rfl)
          have hx := part_last c0 nA fun h => h.2.elim d1' d2'
          simp [d2]
          refine vcall_go (specAlone_fx hE s (by omega)) (by simp) (by simp) (by simp) (by simp) ?_
          cases hq : exactO s with
          | some p =>
            simp [aloneRes, hq, bndV, okC, putElem, upd, fill]
            exact Fin_ret2 rfl (by rw [hx, lastO, hq]; rfl)
          | none =>
            simp [aloneRes, hq, bndV, okC, putElem, upd, fill]
            refine vcall_go (short03_fx hE s (by omega)) (by simp) (by simp) (by simp) (by simp) ?_
            cases hr : shortO s with
            | some p =>
              simp [bndR, bndV, okC, putElem, upd, fill]
              exact Fin_ret2 rfl (by rw [hx, lastO, hq, hr]; rfl)
            | none =>
              simp [bndR, bndV, okC, putElem, upd, fill]
              exact Fin_ret2 rfl (by rw [hx, lastO, hq, hr]; rfl)
    · have hx := part_last c0 nA fun h => z h.1
      simp [z]
      refine vcall_go (specAlone_fx hE s (by omega)) (by simp) (by simp) (by simp) (by simp) ?_
      cases hq : exactO s with
      | some p =>
        simp [aloneRes, hq, bndV, okC, putElem, upd, fill]
        exact Fin_ret2 rfl (by rw [hx, lastO, hq]; rfl)
      | none =>
        simp [aloneRes, hq, bndV, okC, putElem, upd, fill]
        refine vcall_go (short03_fx hE s (by omega)) (by simp) (by simp) (by simp) (by simp) ?_
        cases hr : shortO s with
        | some p =>
          simp [bndR, bndV, okC, putElem, upd, fill]
          exact Fin_ret2 rfl (by rw [hx, lastO, hq, hr]; rfl)
        | none =>
          simp [bndR, bndV, okC, putElem, upd, fill]
          exact Fin_ret2 rfl (by rw [hx, lastO, hq, hr]; rfl)
set_option maxHeartbeats 4000000 in
theorem specRange_fx (s : ByteArray) (hs : s.size ≤ 1073741823) : Fx E 78 [] [.lit (.string s)] [] (rngRes s) := by
  refine (is78.to hE).fx [] (by simp) rfl (rngRes_ok _) ?_
  simp [v78]
  refine vcall_go (l03Parts_fx hE s (by omega)) (by simp) (by simp) (by simp) (by simp) ?_
  have hll := spB_len_le (sep := barB) (s := s) (by rw [barB_size]; omega)
  have hz : ∀ p ∈ spB barB s, p.size ≤ s.size := fun p hp => parts_size hp
  have hno : ∀ {b : Prop}, (rngO s = none) → rngRes s = .tup [.sl ⟨.no, true⟩ 2 [], .lit (.bool false)] := fun h => by rw [rngRes, h]
  have hrg : rngO s = if s.size ≤ 200 ∧ (spB barB s).length ≤ 8 then mapO (spB barB s) else none := rfl
  obtain ⟨w, hw⟩ : ∃ w, spB barB s = w := ⟨_, rfl⟩
  rw [hw] at hll hz hrg ⊢
  simp
  by_cases c1 : (200 : Int) < s.size
  · have hn : rngO s = none := by rw [hrg, if_neg (by omega)]
    simp [c1]
    exact fin_row2 (by decide) rfl rfl (hno (b := True) hn)
  simp [c1]
  by_cases c2 : (8 : Int) < w.length
  · have hn : rngO s = none := by rw [hrg, if_neg (by omega)]
    simp [c2]
    exact fin_row2 (by decide) rfl rfl (hno (b := True) hn)
  rw [if_pos (by omega)] at hrg
  simp [c2]
  refine X_loop (τ := Nat × List (ByteArray × ByteArray)) (fun p => ⟨[(0, .lit (.string s)), (4, .sl ⟨.cl 576, true⟩ 2 (p.2.map fun b => bndV b.1 b.2)), (5, .sl ⟨.no, true⟩ 1 (w.map fun x => .lit (.string x))), (6, .lit (.int .i64 p.1))], []⟩) (fun p => p.1 ≤ w.length ∧ mapO (w.take p.1) = some p.2) (fun p => w.length - p.1) (0, []) ⟨by omega, rfl⟩ (Wk.both (by simp [wkL, wkV.same, frA.frL]) trivial) ?_
  rintro ⟨i, out⟩ ⟨hi, hm⟩
  simp only at hi hm
  have hol := mapO_len hm
  rw [List.length_take] at hol
  simp
  by_cases hlt : i < w.length
  · have hpz := hz _ (List.getElem_mem hlt)
    simp [hlt, mkF]
    refine vcall_go (part03_fx hE w[i] (by omega)) (by simp) (by simp) (by simp) (by simp) ?_
    cases hp : partO w[i] with
    | none =>
      have hn : rngO s = none := by rw [hrg, mapO_none hlt hp]
      simp [bndR, bndV, okC, putElem, upd, fill]
      exact fin_row2 (by decide) rfl rfl (hno (b := True) hn)
    | some b =>
      simp [bndR, bndV, okC, putElem, upd, fill, frA, frA.frL, AS.dem, mapV, dem, dem.demL]
      refine ⟨by omega, i + 1, out ++ [b], ⟨by omega, mapO_next hlt hm hp⟩, by omega, Wk.both (by simp [wkL, wkV.same, bndV]; rw [wrapN (by omega)]; exact wkV.same _) (by simp [wkB])⟩
  · obtain rfl : i = w.length := by omega
    rw [List.take_length] at hm
    simp
    exact fin_row2 (by decide) rfl rfl (by rw [rngRes, hrg, hm])
end
end Go.Proofs.YticockdhfglolaaGreatDoor.Vm
namespace Go.Proofs.YticockdhfglolaaGreatDoor.Vm
open Go Go.RowKit
set_option linter.unusedVariables false
set_option linter.unusedSimpArgs false
def v194 : VC := .seq (.reg false [⟨some 2, .alloc (.agg [(.lit (.string (by8 ""))), (.lit (.string (by8 "")))]), none⟩, ⟨some 3, .as (.c (.lit (.bool false))), none⟩] [3]) (.seq (.reg false [⟨some 9, .mv (.t 0), none⟩, ⟨some 10, .call false 138 [(.t 9), (.c (.lit (.string (by8 "."))))], none⟩, ⟨some 4, .as (.t 10), none⟩] [9, 10]) (.seq (.reg false [⟨some 11, .bsb [(.c (.lit (.int .i64 0))), (.c (.lit (.int .i64 0)))], none⟩, ⟨some 5, .as (.t 11), none⟩] [11]) (.seq (.seq (.reg false [⟨some 12, .mv (.t 4), none⟩, ⟨some 13, .len false (.t 12), none⟩, ⟨some 14, .bin .gtr 0 (.t 13) (.c (.lit (.int .i64 2))), none⟩] [12, 13]) (.cond (.t 14) (.seq (.reg false [⟨some 15, .bld [(.lit (.string (by8 ""))), (.lit (.string (by8 "")))] [], none⟩, ⟨none, .st 2 (.t 2) (.t 15), none⟩, ⟨some 3, .as (.c (.lit (.bool false))), none⟩] [15]) (.ret)) (.skip))) (.seq (.seq (.reg false [⟨some 16, .mv (.t 4), none⟩, ⟨some 17, .len false (.t 16), none⟩, ⟨some 18, .mv (.c (.lit (.int .i64 0))), none⟩] []) (.block 0 (.loop (.seq (.reg false [⟨some 19, .bin .lss 0 (.t 18) (.t 17), none⟩] []) (.seq (.cond (.t 19) (.skip) (.exit 0)) (.seq (.block 1 (.seq (.reg false [⟨some 20, .mv (.t 18), none⟩, ⟨some 21, .ia 1 (.t 16) (.t 18), none⟩, ⟨some 22, .ld false 1 (.t 21), none⟩, ⟨some 6, .as (.t 20), none⟩, ⟨some 7, .as (.t 22), none⟩] [20, 21, 22]) (.seq (.reg false [⟨some 23, .mv (.t 5), none⟩, ⟨some 24, .mv (.t 6), none⟩, ⟨some 25, .mv (.t 7), none⟩, ⟨some 26, .call false 157 [(.t 25)], none⟩, ⟨some 27, .ia 1 (.t 23) (.t 24), none⟩, ⟨none, .st 1 (.t 27) (.t 26), none⟩] [23, 24, 25, 26, 27]) (.seq (.reg false [⟨some 28, .mv (.t 5), none⟩, ⟨some 29, .mv (.t 6), none⟩, ⟨some 30, .ia 1 (.t 28) (.t 29), none⟩, ⟨some 31, .ld false 1 (.t 30), none⟩, ⟨some 32, .bin .lss 0 (.t 31) (.c (.lit (.int .i64 0))), none⟩] [28, 29, 30, 31]) (.cond (.t 32) (.seq (.reg false [⟨some 33, .bld [(.lit (.string (by8 ""))), (.lit (.string (by8 "")))] [], none⟩, ⟨none, .st 2 (.t 2) (.t 33), none⟩, ⟨some 3, .as (.c (.lit (.bool false))), none⟩] [33]) (.ret)) (.skip)))))) (.reg false [⟨some 34, .bin .add 0 (.t 18) (.c (.lit (.int .i64 1))), none⟩, ⟨some 18, .mv (.t 34), none⟩] [34]))))))) (.seq (.reg true [⟨some 35, .mv (.t 5), none⟩, ⟨some 36, .ia 1 (.t 35) (.c (.lit (.int .i64 0))), none⟩, ⟨some 37, .ld false 1 (.t 36), none⟩, ⟨some 38, .mv (.t 5), none⟩, ⟨some 39, .ia 1 (.t 38) (.c (.lit (.int .i64 1))), none⟩, ⟨some 40, .ld false 1 (.t 39), none⟩, ⟨some 41, .bld [(.lit (.int .i64 0)), (.lit (.int .i64 0)), (.lit (.int .i64 0)), (.sl ⟨.nl, true⟩ 1 [])] [(0, 1, (.t 37)), (1, 1, (.t 40))], none⟩, ⟨some 42, .call true 158 [(.t 41)], none⟩, ⟨some 43, .mv (.t 5), none⟩, ⟨some 44, .ia 1 (.t 43) (.c (.lit (.int .i64 0))), none⟩, ⟨some 45, .ld false 1 (.t 44), none⟩, ⟨some 46, .mv (.t 5), none⟩, ⟨some 47, .ia 1 (.t 46) (.c (.lit (.int .i64 1))), none⟩, ⟨some 48, .ld false 1 (.t 47), none⟩, ⟨some 49, .bin .add 0 (.t 48) (.c (.lit (.int .i64 1))), none⟩, ⟨some 50, .call true 193 [(.t 45), (.t 49), (.c (.lit (.int .i64 0)))], none⟩, ⟨some 51, .bld [(.lit (.string (by8 ""))), (.lit (.string (by8 "")))] [(0, 1, (.t 42)), (1, 1, (.t 50))], none⟩, ⟨some 8, .alloc (.agg [(.lit (.string (by8 ""))), (.lit (.string (by8 "")))]), none⟩, ⟨none, .st 2 (.t 8) (.t 51), none⟩] [35, 36, 37, 38, 39, 40, 41, 42, 43, 44, 45, 46, 47, 48, 49, 50, 51]) (.seq (.seq (.reg false [⟨some 52, .mv (.t 4), none⟩, ⟨some 53, .len false (.t 52), none⟩, ⟨some 54, .bin .eql 0 (.t 53) (.c (.lit (.int .i64 1))), none⟩] [52, 53]) (.cond (.t 54) (.reg false [⟨some 55, .mv (.t 5), none⟩, ⟨some 56, .ia 1 (.t 55) (.c (.lit (.int .i64 0))), none⟩, ⟨some 57, .ld false 1 (.t 56), none⟩, ⟨some 58, .bin .add 0 (.t 57) (.c (.lit (.int .i64 1))), none⟩, ⟨some 59, .call false 193 [(.t 58), (.c (.lit (.int .i64 0))), (.c (.lit (.int .i64 0)))], none⟩, ⟨some 60, .fa 1 (.t 8), none⟩, ⟨none, .st 1 (.t 60) (.t 59), none⟩] [55, 56, 57, 58, 59, 60]) (.skip))) (.seq (.reg false [⟨some 61, .ld true 2 (.t 8), none⟩, ⟨none, .st 2 (.t 2) (.t 61), none⟩, ⟨some 3, .as (.c (.lit (.bool true))), none⟩] [61]) (.ret))))))))
theorem is194 : Is Go.Proofs.Tryz.prog 194 62 v194 [.b 2 true 2, .t 3] := ⟨Go.Proofs.Tryz.f194, dl [(0, [3]), (1, [9, 10]), (2, [11]), (3, [12, 13]), (4, [15]), (7, [20, 21, 22]), (8, [23, 24, 25, 26, 27]), (9, [28, 29, 30, 31]), (10, [33]), (11, [34]), (12, [35, 36, 37, 38, 39, 40, 41, 42, 43, 44, 45, 46, 47, 48, 49, 50, 51]), (13, [52, 53]), (14, [55, 56, 57, 58, 59, 60]), (15, [61])], Go.Proofs.Tryz.func194, by kernel_rfl, by kernel_rfl, by kernel_rfl, by kernel_rfl⟩
def v141 : VC := .seq (.reg false [⟨some 2, .as (.c (.lit (.bool false))), none⟩] [2]) (.seq (.seq (.reg false [⟨some 5, .mv (.t 0), none⟩, ⟨some 6, .len false (.t 5), none⟩, ⟨some 7, .mv (.c (.lit (.int .i64 0))), none⟩] []) (.block 0 (.loop (.seq (.reg false [⟨some 8, .bin .lss 0 (.t 7) (.t 6), none⟩] []) (.seq (.cond (.t 8) (.skip) (.exit 0)) (.seq (.block 1 (.seq (.reg false [⟨some 9, .ia 2 (.t 5) (.t 7), none⟩, ⟨some 10, .ld true 2 (.t 9), none⟩, ⟨some 4, .alloc (.agg [(.lit (.string (by8 ""))), (.lit (.string (by8 "")))]), none⟩, ⟨none, .st 2 (.t 4) (.t 10), none⟩] [9, 10]) (.seq (.reg false [⟨some 11, .fa 0 (.t 4), none⟩, ⟨some 12, .ld false 1 (.t 11), none⟩, ⟨some 13, .bin .neq 0 (.t 12) (.c (.lit (.string (by8 "")))), none⟩, ⟨some 14, .mv (.t 13), none⟩, ⟨some 15, .fa 0 (.t 4), (some (14, true))⟩, ⟨some 16, .ld false 1 (.t 15), (some (14, true))⟩, ⟨some 17, .call false 60 [(.t 16)], (some (14, true))⟩, ⟨some 18, .un .not (.t 17), (some (14, true))⟩, ⟨some 19, .pick (.t 14) (.t 18) (.c (.lit (.bool false))), none⟩, ⟨some 20, .mv (.t 19), none⟩, ⟨some 21, .fa 1 (.t 4), (some (20, false))⟩, ⟨some 22, .ld false 1 (.t 21), (some (20, false))⟩, ⟨some 23, .bin .neq 0 (.t 22) (.c (.lit (.string (by8 "")))), (some (20, false))⟩, ⟨some 24, .mv (.t 23), (some (20, false))⟩, ⟨some 25, .fa 1 (.t 4), (some (24, true))⟩, ⟨some 26, .ld false 1 (.t 25), (some (24, true))⟩, ⟨some 27, .call false 60 [(.t 26)], (some (24, true))⟩, ⟨some 28, .un .not (.t 27), (some (24, true))⟩, ⟨some 29, .pick (.t 24) (.t 28) (.c (.lit (.bool false))), (some (20, false))⟩, ⟨some 30, .pick (.t 20) (.c (.lit (.bool true))) (.t 29), none⟩] [11, 12, 13, 14, 15, 16, 17, 18, 19, 20, 21, 22, 23, 24, 25, 26, 27, 28, 29]) (.cond (.t 30) (.seq (.reg false [⟨some 2, .as (.c (.lit (.bool false))), none⟩] []) (.ret)) (.skip))))) (.reg false [⟨some 31, .bin .add 0 (.t 7) (.c (.lit (.int .i64 1))), none⟩, ⟨some 7, .mv (.t 31), none⟩] [31]))))))) (.seq (.reg false [⟨some 32, .mv (.t 0), none⟩, ⟨some 33, .len false (.t 32), none⟩, ⟨some 34, .call false 89 [(.t 33), (.c (.lit (.int .i64 1))), (.c (.lit (.int .i64 8)))], none⟩, ⟨some 2, .as (.t 34), none⟩] [32, 33, 34]) (.ret)))
theorem is141 : Is Go.Proofs.Tryz.prog 141 35 v141 [.t 2] := ⟨Go.Proofs.Tryz.f141, dl [(0, [2]), (3, [9, 10]), (4, [11, 12, 13, 14, 15, 16, 17, 18, 19, 20, 21, 22, 23, 24, 25, 26, 27, 28, 29]), (6, [31]), (7, [32, 33, 34])], Go.Proofs.Tryz.func141, by kernel_rfl, by kernel_rfl, by kernel_rfl, by kernel_rfl⟩
/-- what 'Cut' gives at any text -/
def cutS (p s : ByteArray) : AV := .tup (if 0 ≤ Lib.indexB s p then [.lit (.string (s.extract 0 (Lib.indexB s p).toNat)), .lit (.string (s.extract ((Lib.indexB s p).toNat + p.size) s.size)), .lit (.bool true)] else [.lit (.string s), .lit (.string (by8 "")), .lit (.bool false)])
theorem tup3_rel (x : X) (base : Nat) (a b : ByteArray) (d : Bool) : Rel x base (.tuple #[.string a, .string b, .bool d]) (.tup [.lit (.string a), .lit (.string b), .lit (.bool d)]) := by
  refine .tup _ _ rfl fun j v e hv he => ?_
  match j with
  | 0 => obtain rfl := Option.some.inj hv; obtain rfl := Option.some.inj he; exact .lit _ rfl
  | 1 => obtain rfl := Option.some.inj hv; obtain rfl := Option.some.inj he; exact .lit _ rfl
  | 2 => obtain rfl := Option.some.inj hv; obtain rfl := Option.some.inj he; exact .lit _ rfl
  | j + 3 => simp at he
theorem tup2_rel (x : X) (base : Nat) (a : ByteArray) (d : Bool) : Rel x base (.tuple #[.string a, .bool d]) (.tup [.lit (.string a), .lit (.bool d)]) := by
  refine .tup _ _ rfl fun j v e hv he => ?_
  match j with
  | 0 => obtain rfl := Option.some.inj hv; obtain rfl := Option.some.inj he; exact .lit _ rfl
  | 1 => obtain rfl := Option.some.inj hv; obtain rfl := Option.some.inj he; exact .lit _ rfl
  | j + 2 => simp at he
noncomputable def parRes (s : ByteArray) : AV := match spl 46 s with
  | [a] => if 0 ≤ readDec a then .tup [bndV (verT ⟨readDec a, 0, 0, []⟩) (verT ⟨readDec a + 1, 0, 0, [by8 "0"]⟩), .lit (.bool true)] else .tup [bndV (by8 "") (by8 ""), .lit (.bool false)]
  | [a, b] => if 0 ≤ readDec a ∧ 0 ≤ readDec b then .tup [bndV (verT ⟨readDec a, readDec b, 0, []⟩) (verT ⟨readDec a, readDec b + 1, 0, [by8 "0"]⟩), .lit (.bool true)] else .tup [bndV (by8 "") (by8 ""), .lit (.bool false)]
  | _ => .tup [bndV (by8 "") (by8 ""), .lit (.bool false)]
theorem parRes_ok (s : ByteArray) : resOk (parRes s) = true := by
  unfold parRes
  split
  · split <;> rfl
  · split <;> rfl
  · rfl
section
variable {E : Env} (hE : E.P = Go.Proofs.Tryz.prog) (hZ : ∀ w, E.K w → KZ w)
include hE
theorem cutPrefix_fx (s p : ByteArray) : Fx E 192 [] [.lit (.string s), .lit (.string p)] [] (.tup [.lit (.string (trimP s p)), .lit (.bool (hasP s p))]) := by
  refine Fx_res (args := [.string s, .string p]) rfl (tup2_rel · · (trimP s p) (hasP s p)) fun w hw => ?_
  rw [hE]
  refine (Go.Proofs.Tryz.strings_CutPrefix s p w).mono ?_
  rintro e w' ⟨rfl, rfl⟩
  rw [trimP_eq]
  exact ⟨rfl, Below.refl _ _⟩
include hZ in
theorem cutS_fx (p s : ByteArray) (hs : s.size < 4294967281) : Fx E 143 [] [.lit (.string s), .lit (.string p)] [] (cutS p s) := by
  have hres : resOk (cutS p s) = true := by unfold cutS; split <;> rfl
  have hrel : ∀ x base, Rel x base (.tuple #[.string ⟨(Lib.cut s.data.toList p.data.toList).1.toArray⟩, .string ⟨(Lib.cut s.data.toList p.data.toList).2.1.toArray⟩, .bool (Lib.cut s.data.toList p.data.toList).2.2]) (cutS p s) := by
    intro x base
    rcases index_cases s p with ⟨h, _⟩ | ⟨i, h, _, _, _⟩
    · obtain ⟨q1, q2, q3⟩ := Lib.cutB_miss s p h
      rw [q1, q2, q3, cutS, h, ← ba_nil]
      exact tup3_rel _ _ _ _ _
    · obtain ⟨q1, q2, q3⟩ := Lib.cutB_hit s p i h
      rw [q1, q2, q3, cutS, h, if_pos (by omega)]
      exact tup3_rel _ _ _ _ _
  refine Fx_res (args := [.string s, .string p]) hres hrel fun w hw => ?_
  rw [hE]
  obtain ⟨m, hm⟩ := (hZ w hw).maxl
  refine (Go.Proofs.Tryz.strings_Cut s p m w hs hm).mono ?_
  rintro e w' ⟨rfl, n, rfl⟩
  exact ⟨rfl, ⟨rfl, rfl, rfl, Nat.le_refl _, fun _ _ => rfl⟩⟩
include hZ in
set_option maxHeartbeats 4000000 in
theorem implRngOk_fx (l : List (ByteArray × ByteArray)) (hl : l.length ≤ 1048576) (hx : ∀ b ∈ l, b.1.size ≤ 1073741824 ∧ b.2.size ≤ 1073741824) : Fx E 141 [] [.sl ro 2 (l.map fun b => bndV b.1 b.2)] [] (.lit (.bool (rngOk l))) := by
  refine (is141.to hE).fx [] (by simp) rfl rfl ?_
  simp [v141]
  refine X_loop (τ := Nat) (fun i => ⟨[(0, .sl ro 2 (l.map fun b => bndV b.1 b.2)), (5, .sl ro 2 (l.map fun b => bndV b.1 b.2)), (6, .lit (.int .i64 l.length)), (7, .lit (.int .i64 i))], []⟩) (fun i => i ≤ l.length ∧ ∀ j, j < i → bndOk l j = true) (fun i => l.length - i) 0 (by simp) (Wk.both (by simp [wkL, wkV.same]) trivial) ?_
  rintro i ⟨hi, hall⟩
  simp
  by_cases hlt : i < l.length
  · obtain ⟨g1, g2⟩ := hx _ (List.getElem_mem hlt)
    have hat : bndOk l i = (endOk l[i].1 && endOk l[i].2) := by unfold bndOk; rw [show l.getD i (by8 "", by8 "") = l[i] by simp [List.getD, hlt]]
    have no : bndOk l i = false → rngOk l = false := fun h => by
      have : (List.range l.length).all (bndOk l) = false := by rw [List.all_eq_false]; exact ⟨i, List.mem_range.2 hlt, by simp [h]⟩
      rw [rngOk, this]; rfl
    have nxt : bndOk l i = true → ∀ j, j < i + 1 → bndOk l j = true := fun h j hj => by
      rcases Nat.lt_succ_iff_lt_or_eq.1 hj with h2 | rfl
      · exact hall j h2
      · exact h
    rw [hat] at no nxt
    simp [hlt, bndV, ro, mkF, mkF.mkL, okC, putElem, upd]
    have hd : ∀ {s : ByteArray}, ¬ s = by8 "" → endOk s = isVer s := fun {s} h => by simp [endOk, h]
    by_cases z1 : l[i].1 = by8 ""
    · have e1 : endOk l[i].1 = true := by rw [z1]; exact end_nil
      simp [z1]
      by_cases z2 : l[i].2 = by8 ""
      · have e2 : endOk l[i].2 = true := by rw [z2]; exact end_nil
        simp [z2]
        exact ⟨i + 1, ⟨by omega, nxt (by rw [e1, e2]; rfl)⟩, by omega, Wk.both (by simp [wkL, wkV.same, ro, bndV]; rw [wrapN (by omega)]; exact wkV.same _) (by simp [wkB])⟩
      · simp [z2]
        refine vcall_go (isVersion_fx hE hZ l[i].2 (by omega)) (by simp) (by simp) (by simp) (by simp) ?_
        rw [← hd z2]
        simp
        cases e2 : endOk l[i].2
        · have := no (by rw [e2]; simp)
          simp
          exact Fin_ret rfl (by rw [this]; rfl)
        · simp
          exact ⟨i + 1, ⟨by omega, nxt (by rw [e1, e2]; rfl)⟩, by omega, Wk.both (by simp [wkL, wkV.same, ro, bndV]; rw [wrapN (by omega)]; exact wkV.same _) (by simp [wkB])⟩
    · simp [z1]
      refine vcall_go (isVersion_fx hE hZ l[i].1 (by omega)) (by simp) (by simp) (by simp) (by simp) ?_
      rw [← hd z1]
      simp
      cases e1 : endOk l[i].1
      · have := no (by rw [e1]; simp)
        simp
        exact Fin_ret rfl (by rw [this]; rfl)
      · simp
        by_cases z2 : l[i].2 = by8 ""
        · have e2 : endOk l[i].2 = true := by rw [z2]; exact end_nil
          simp [z2]
          exact ⟨i + 1, ⟨by omega, nxt (by rw [e1, e2]; rfl)⟩, by omega, Wk.both (by simp [wkL, wkV.same, ro, bndV]; rw [wrapN (by omega)]; exact wkV.same _) (by simp [wkB])⟩
        · simp [z2]
          refine vcall_go (isVersion_fx hE hZ l[i].2 (by omega)) (by simp) (by simp) (by simp) (by simp) ?_
          rw [← hd z2]
          simp
          cases e2 : endOk l[i].2
          · have := no (by rw [e1, e2]; simp)
            simp
            exact Fin_ret rfl (by rw [this]; rfl)
          · simp
            exact ⟨i + 1, ⟨by omega, nxt (by rw [e1, e2]; rfl)⟩, by omega, Wk.both (by simp [wkL, wkV.same, ro, bndV]; rw [wrapN (by omega)]; exact wkV.same _) (by simp [wkB])⟩
  · obtain rfl : i = l.length := by omega
    have hpa : (List.range l.length).all (bndOk l) = true := by rw [List.all_eq_true]; exact fun j hj => hall j (List.mem_range.1 hj)
    simp
    refine vcall_go (within_fx hE l.length 1 8) (by simp) (by simp) (by simp) (by simp) ?_
    simp
    exact Fin_ret rfl (by rw [rngOk, hpa]; rfl)
include hZ in
set_option maxHeartbeats 4000000 in
theorem partial_fx (s : ByteArray) (hs : s.size ≤ 1073741824) : Fx E 194 [] [.lit (.string s)] [] (parRes s) := by
  have hsp := split_fx hE hZ s (by8 ".") (by omega) (by decide +kernel)
  rw [show spB (by8 ".") s = spl 46 s by rw [by46]; rfl] at hsp
  refine (is194.to hE).fx [] (by simp) rfl (parRes_ok s) ?_
  simp [v194, okC]
  refine vcall_go hsp (by simp) (by simp) (by simp) (by simp) ?_
  have hz : ∀ (i : Nat) p, (spl 46 s)[i]? = some p → p.size ≤ s.size := fun i p h => spl_size h
  have hne := spl_ne 46 s
  unfold parRes
  obtain ⟨w, hw⟩ : ∃ w, spl 46 s = w := ⟨_, rfl⟩
  rw [hw] at hz hne ⊢
  simp
  match w, hne with
  | [a], _ =>
    have za := hz 0 a rfl
    simp
    refine X_loop (τ := Nat × Int) (fun p => ⟨[(0, .lit (.string s)), (2, .ptr 1000000000002 0 0), (4, .sl ⟨.no, true⟩ 1 [.lit (.string a)]), (5, .bs 1000000000011 1 2), (16, .sl ⟨.no, true⟩ 1 [.lit (.string a)]), (17, .lit (.int .i64 1)), (18, .lit (.int .i64 p.1))], [(1000000000002, [bndV (by8 "") (by8 "")]), (1000000000011, [.lit (.int .i64 p.2), .lit (.int .i64 0)])]⟩) (fun p => p = (0, 0) ∨ (p = (1, readDec a) ∧ 0 ≤ readDec a)) (fun p => 2 - p.1) (0, 0) (.inl rfl) (Wk.both (by simp [wkL, wkV.same]) (by simp [wkB, bndV])) ?_
    rintro p (rfl | ⟨rfl, h0⟩)
    · simp [mkF]
      refine vcall_go (implReadDec_fx hE hZ a (by omega)) (by simp) (by simp) (by simp) (by simp [bndV]) ?_
      simp [okC, putElem, upd]
      by_cases c : readDec a < 0
      · simp [c, okC, putElem, upd, fill, bndV]
        exact Fin_ret2 rfl (by rw [if_neg (by omega)]; rfl)
      · simp [c]
        exact ⟨1, readDec a, ⟨⟨rfl, rfl⟩, by omega⟩, by omega, Wk.both (by simp [wkL, wkV.same]; rw [wrap_i64 (i := 1) (by omega) (by omega)]; exact wkV.same _) (by simp [wkB])⟩
    · obtain ⟨n, hn, rfl, hd⟩ := dec_of h0
      rw [hd]
      simp [fill, okC, upd]
      refine vcall_go (implVerT_fx hE hZ ⟨n, 0, 0, []⟩ (by simp) (by simp)) (by simp [Ver.av, ro]) (by simp) (by simp) (by simp [bndV]) ?_
      simp
      rw [w64_1]
      refine vcall_go (zeroPre_fx hE hZ n 1 0) (by simp) (by simp) (by simp) (by simp [bndV]) ?_
      simp [okC, putElem, upd, fill, bndV]
      rw [wrap_i64 (i := (n : Int) + 1) (by omega) (by omega)]
      refine vcall_go (zeroPre_fx hE hZ (n + 1) 0 0) (by simp) (by simp) (by simp) (by simp [bndV]) ?_
      simp [okC, putElem, upd, fill, bndV]
      exact Fin_ret2 rfl rfl
  | [a, b], _ =>
    have za := hz 0 a rfl
    have zb := hz 1 b rfl
    simp
    refine X_loop (τ := Nat × Int × Int) (fun p => ⟨[(0, .lit (.string s)), (2, .ptr 1000000000002 0 0), (4, .sl ⟨.no, true⟩ 1 [.lit (.string a), .lit (.string b)]), (5, .bs 1000000000011 1 2), (16, .sl ⟨.no, true⟩ 1 [.lit (.string a), .lit (.string b)]), (17, .lit (.int .i64 2)), (18, .lit (.int .i64 p.1))], [(1000000000002, [bndV (by8 "") (by8 "")]), (1000000000011, [.lit (.int .i64 p.2.1), .lit (.int .i64 p.2.2)])]⟩) (fun p => p = (0, 0, 0) ∨ (p = (1, readDec a, 0) ∧ 0 ≤ readDec a) ∨ (p = (2, readDec a, readDec b) ∧ 0 ≤ readDec a ∧ 0 ≤ readDec b)) (fun p => 3 - p.1) (0, 0, 0) (.inl rfl) (Wk.both (by simp [wkL, wkV.same]) (by simp [wkB, bndV])) ?_
    rintro p (rfl | ⟨rfl, h0⟩ | ⟨rfl, h0, h1⟩)
    · simp [mkF]
      refine vcall_go (implReadDec_fx hE hZ a (by omega)) (by simp) (by simp) (by simp) (by simp [bndV]) ?_
      simp [okC, putElem, upd]
      by_cases c : readDec a < 0
      · simp [c, okC, putElem, upd, fill, bndV]
        exact Fin_ret2 rfl (by rw [if_neg (by omega)]; rfl)
      · simp [c]
        exact ⟨1, readDec a, 0, .inl ⟨⟨rfl, rfl, rfl⟩, by omega⟩, by omega, Wk.both (by simp [wkL, wkV.same]; rw [wrap_i64 (i := 1) (by omega) (by omega)]; exact wkV.same _) (by simp [wkB])⟩
    · simp [mkF]
      refine vcall_go (implReadDec_fx hE hZ b (by omega)) (by simp) (by simp) (by simp) (by simp [bndV]) ?_
      simp [okC, putElem, upd]
      by_cases c : readDec b < 0
      · simp [c, okC, putElem, upd, fill, bndV]
        exact Fin_ret2 rfl (by rw [if_neg (by omega)]; rfl)
      · simp [c]
        exact ⟨2, readDec a, readDec b, .inr ⟨⟨rfl, rfl, rfl⟩, by omega, by omega⟩, by omega, Wk.both (by simp [wkL, wkV.same]; rw [wrap_i64 (i := 2) (by omega) (by omega)]; exact wkV.same _) (by simp [wkB])⟩
    · obtain ⟨n, hn, e1, hd⟩ := dec_of h0
      obtain ⟨m, hm, e2, hd2⟩ := dec_of h1
      rw [hd, hd2]
      simp [fill, okC, upd]
      refine vcall_go (implVerT_fx hE hZ ⟨n, m, 0, []⟩ (by simp) (by simp)) (by simp [Ver.av, ro]) (by simp) (by simp) (by simp [bndV]) ?_
      simp
      rw [wrap_i64 (i := (m : Int) + 1) (by omega) (by omega)]
      refine vcall_go (zeroPre_fx hE hZ n (m + 1) 0) (by simp) (by simp) (by simp) (by simp [bndV]) ?_
      simp [okC, putElem, upd, fill, bndV]
      exact Fin_ret2 rfl rfl
  | a :: b :: c :: r, _ =>
    have c1 : (2 : Int) < (r.length : Int) + 1 + 1 + 1 := by omega
    simp [c1, okC, putElem, upd, fill, bndV]
    exact Fin_ret2 rfl rfl
end
end Go.Proofs.YticockdhfglolaaGreatDoor.Vm
namespace Go.Proofs.YticockdhfglolaaGreatDoor.Vm
open Go Go.RowKit
set_option linter.unusedVariables false
set_option linter.unusedSimpArgs false
def v139 : VC := .seq (.reg false [⟨some 2, .alloc (.agg [(.lit (.string (by8 ""))), (.lit (.string (by8 "")))]), none⟩, ⟨some 3, .as (.c (.lit (.bool false))), none⟩] [3]) (.seq (.seq (.reg false [⟨some 16, .mv (.t 0), none⟩, ⟨some 17, .bin .eql 0 (.t 16) (.c (.lit (.string (by8 "*")))), none⟩] [16]) (.cond (.t 17) (.seq (.reg false [⟨some 18, .bld [(.lit (.string (by8 ""))), (.lit (.string (by8 "")))] [], none⟩, ⟨none, .st 2 (.t 2) (.t 18), none⟩, ⟨some 3, .as (.c (.lit (.bool true))), none⟩] [18]) (.ret)) (.skip))) (.seq (.seq (.reg false [⟨some 20, .mv (.t 0), none⟩, ⟨some 21, .call false 107 [(.t 20)], none⟩, ⟨some 19, .mv (.t 21), none⟩, ⟨some 22, .ext (.t 19) 0, none⟩, ⟨some 23, .ext (.t 19) 1, none⟩, ⟨some 4, .alloc (.agg [(.lit (.int .i64 0)), (.lit (.int .i64 0)), (.lit (.int .i64 0)), (.sl ⟨.nl, true⟩ 1 [])]), none⟩, ⟨none, .st 4 (.t 4) (.t 22), none⟩, ⟨some 5, .as (.t 23), none⟩] [20, 21, 19, 22, 23]) (.seq (.reg false [⟨some 24, .mv (.t 5), none⟩] []) (.cond (.t 24) (.seq (.reg false [⟨some 25, .ld true 4 (.t 4), none⟩, ⟨some 26, .call false 176 [(.t 25)], none⟩, ⟨none, .st 2 (.t 2) (.t 26), none⟩, ⟨some 3, .as (.c (.lit (.bool true))), none⟩] [25, 26]) (.ret)) (.skip)))) (.seq (.seq (.reg false [⟨some 28, .mv (.t 0), none⟩, ⟨some 29, .call false 192 [(.t 28), (.c (.lit (.string (by8 ">="))))], none⟩, ⟨some 27, .mv (.t 29), none⟩, ⟨some 30, .ext (.t 27) 0, none⟩, ⟨some 31, .ext (.t 27) 1, none⟩, ⟨some 6, .as (.t 30), none⟩, ⟨some 7, .as (.t 31), none⟩] [28, 29, 27, 30, 31]) (.seq (.reg false [⟨some 32, .mv (.t 7), none⟩] []) (.cond (.t 32) (.seq (.reg false [⟨some 34, .mv (.t 6), none⟩, ⟨some 35, .call false 143 [(.t 34), (.c (.lit (.string (by8 " <"))))], none⟩, ⟨some 33, .mv (.t 35), none⟩, ⟨some 36, .ext (.t 33) 0, none⟩, ⟨some 37, .ext (.t 33) 1, none⟩, ⟨some 38, .ext (.t 33) 2, none⟩, ⟨some 8, .as (.t 36), none⟩, ⟨some 9, .as (.t 37), none⟩, ⟨some 10, .as (.t 38), none⟩] [34, 35, 33, 36, 37, 38]) (.seq (.reg false [⟨some 39, .mv (.t 8), none⟩, ⟨some 40, .mv (.t 9), none⟩, ⟨some 41, .bld [(.lit (.string (by8 ""))), (.lit (.string (by8 "")))] [(0, 1, (.t 39)), (1, 1, (.t 40))], none⟩, ⟨some 42, .mv (.t 8), none⟩, ⟨some 43, .call false 60 [(.t 42)], none⟩, ⟨some 44, .mv (.t 43), none⟩, ⟨some 45, .mv (.t 10), (some (44, true))⟩, ⟨some 46, .un .not (.t 45), (some (44, true))⟩, ⟨some 47, .mv (.t 46), (some (44, true))⟩, ⟨some 48, .mv (.t 9), (some (47, false))⟩, ⟨some 49, .call false 60 [(.t 48)], (some (47, false))⟩, ⟨some 50, .pick (.t 47) (.c (.lit (.bool true))) (.t 49), (some (44, true))⟩, ⟨some 51, .pick (.t 44) (.t 50) (.c (.lit (.bool false))), none⟩, ⟨none, .st 2 (.t 2) (.t 41), none⟩, ⟨some 3, .as (.t 51), none⟩] [39, 40, 41, 42, 43, 44, 45, 46, 47, 48, 49, 50, 51]) (.ret))) (.skip)))) (.seq (.seq (.reg false [⟨some 53, .mv (.t 0), none⟩, ⟨some 54, .call false 192 [(.t 53), (.c (.lit (.string (by8 "<"))))], none⟩, ⟨some 52, .mv (.t 54), none⟩, ⟨some 55, .ext (.t 52) 0, none⟩, ⟨some 56, .ext (.t 52) 1, none⟩, ⟨some 11, .as (.t 55), none⟩, ⟨some 12, .as (.t 56), none⟩] [53, 54, 52, 55, 56]) (.seq (.reg false [⟨some 57, .mv (.t 12), none⟩] []) (.cond (.t 57) (.seq (.reg false [⟨some 58, .mv (.t 11), none⟩, ⟨some 59, .bld [(.lit (.string (by8 ""))), (.lit (.string (by8 "")))] [(1, 1, (.t 58))], none⟩, ⟨some 60, .mv (.t 11), none⟩, ⟨some 61, .call false 60 [(.t 60)], none⟩, ⟨none, .st 2 (.t 2) (.t 59), none⟩, ⟨some 3, .as (.t 61), none⟩] [58, 59, 60, 61]) (.ret)) (.skip)))) (.seq (.seq (.reg false [⟨some 62, .mv (.t 0), none⟩, ⟨some 63, .bin .neq 0 (.t 62) (.c (.lit (.string (by8 "")))), none⟩, ⟨some 64, .mv (.t 63), none⟩, ⟨some 65, .mv (.t 0), (some (64, true))⟩, ⟨some 66, .idx (.t 65) (.c (.lit (.int .i64 0))), (some (64, true))⟩, ⟨some 67, .bin .eql 0 (.t 66) (.c (.lit (.int .u8 94))), (some (64, true))⟩, ⟨some 68, .mv (.t 67), (some (64, true))⟩, ⟨some 69, .mv (.t 0), (some (68, false))⟩, ⟨some 70, .idx (.t 69) (.c (.lit (.int .i64 0))), (some (68, false))⟩, ⟨some 71, .bin .eql 0 (.t 70) (.c (.lit (.int .u8 126))), (some (68, false))⟩, ⟨some 72, .pick (.t 68) (.c (.lit (.bool true))) (.t 71), (some (64, true))⟩, ⟨some 73, .pick (.t 64) (.t 72) (.c (.lit (.bool false))), none⟩] [62, 63, 64, 65, 66, 67, 68, 69, 70, 71, 72]) (.cond (.t 73) (.seq (.reg false [⟨some 75, .mv (.t 0), none⟩, ⟨some 76, .slS (.t 75) (some (.c (.lit (.int .i64 1)))) none, none⟩, ⟨some 77, .call false 107 [(.t 76)], none⟩, ⟨some 74, .mv (.t 77), none⟩, ⟨some 78, .ext (.t 74) 0, none⟩, ⟨some 79, .ext (.t 74) 1, none⟩, ⟨some 13, .alloc (.agg [(.lit (.int .i64 0)), (.lit (.int .i64 0)), (.lit (.int .i64 0)), (.sl ⟨.nl, true⟩ 1 [])]), none⟩, ⟨none, .st 4 (.t 13) (.t 78), none⟩, ⟨some 14, .as (.t 79), none⟩] [75, 76, 77, 74, 78, 79]) (.seq (.reg false [⟨some 80, .fa 0 (.t 13), none⟩, ⟨some 81, .ld false 1 (.t 80), none⟩, ⟨some 82, .fa 1 (.t 13), none⟩, ⟨some 83, .ld false 1 (.t 82), none⟩, ⟨some 84, .bin .add 0 (.t 83) (.c (.lit (.int .i64 1))), none⟩, ⟨some 85, .call false 193 [(.t 81), (.t 84), (.c (.lit (.int .i64 0)))], none⟩, ⟨some 15, .as (.t 85), none⟩] [80, 81, 82, 83, 84, 85]) (.seq (.seq (.reg false [⟨some 86, .mv (.t 0), none⟩, ⟨some 87, .idx (.t 86) (.c (.lit (.int .i64 0))), none⟩, ⟨some 88, .bin .eql 0 (.t 87) (.c (.lit (.int .u8 94))), none⟩] [86, 87]) (.cond (.t 88) (.block 0 (.seq (.reg false [⟨some 90, .fa 0 (.t 13), none⟩, ⟨some 91, .ld false 1 (.t 90), none⟩, ⟨some 92, .bin .gtr 0 (.t 91) (.c (.lit (.int .i64 0))), none⟩, ⟨some 89, .as (.t 92), none⟩] [90, 91, 92]) (.cond (.t 89) (.reg false [⟨some 93, .fa 0 (.t 13), none⟩, ⟨some 94, .ld false 1 (.t 93), none⟩, ⟨some 95, .bin .add 0 (.t 94) (.c (.lit (.int .i64 1))), none⟩, ⟨some 96, .call false 193 [(.t 95), (.c (.lit (.int .i64 0))), (.c (.lit (.int .i64 0)))], none⟩, ⟨some 15, .as (.t 96), none⟩] [93, 94, 95, 96]) (.seq (.reg false [⟨some 98, .fa 1 (.t 13), none⟩, ⟨some 99, .ld false 1 (.t 98), none⟩, ⟨some 100, .bin .eql 0 (.t 99) (.c (.lit (.int .i64 0))), none⟩, ⟨some 97, .as (.t 100), none⟩] [98, 99, 100]) (.cond (.t 97) (.reg false [⟨some 101, .fa 2 (.t 13), none⟩, ⟨some 102, .ld false 1 (.t 101), none⟩, ⟨some 103, .bin .add 0 (.t 102) (.c (.lit (.int .i64 1))), none⟩, ⟨some 104, .call false 193 [(.c (.lit (.int .i64 0))), (.c (.lit (.int .i64 0))), (.t 103)], none⟩, ⟨some 15, .as (.t 104), none⟩] [101, 102, 103, 104]) (.skip)))))) (.skip))) (.seq (.reg false [⟨some 105, .mv (.t 0), none⟩, ⟨some 106, .slS (.t 105) (some (.c (.lit (.int .i64 1)))) none, none⟩, ⟨some 107, .mv (.t 15), none⟩, ⟨some 108, .bld [(.lit (.string (by8 ""))), (.lit (.string (by8 "")))] [(0, 1, (.t 106)), (1, 1, (.t 107))], none⟩, ⟨some 109, .mv (.t 14), none⟩, ⟨none, .st 2 (.t 2) (.t 108), none⟩, ⟨some 3, .as (.t 109), none⟩] [105, 106, 107, 108, 109]) (.ret))))) (.skip))) (.seq (.reg false [⟨some 110, .mv (.t 0), none⟩, ⟨some 111, .call false 194 [(.t 110)], none⟩, ⟨some 112, .ext (.t 111) 0, none⟩, ⟨some 113, .ext (.t 111) 1, none⟩, ⟨none, .st 2 (.t 2) (.t 112), none⟩, ⟨some 3, .as (.t 113), none⟩] [110, 111, 112, 113]) (.ret)))))))
theorem is139 : Is Go.Proofs.Tryz.prog 139 114 v139 [.b 2 true 2, .t 3] := ⟨Go.Proofs.Tryz.f139, dl [(0, [3]), (1, [16]), (2, [18]), (3, [20, 21, 19, 22, 23]), (5, [25, 26]), (6, [28, 29, 27, 30, 31]), (8, [34, 35, 33, 36, 37, 38]), (9, [39, 40, 41, 42, 43, 44, 45, 46, 47, 48, 49, 50, 51]), (10, [53, 54, 52, 55, 56]), (12, [58, 59, 60, 61]), (13, [62, 63, 64, 65, 66, 67, 68, 69, 70, 71, 72]), (14, [75, 76, 77, 74, 78, 79]), (15, [80, 81, 82, 83, 84, 85]), (16, [86, 87]), (17, [90, 91, 92]), (19, [98, 99, 100]), (20, [101, 102, 103, 104]), (18, [93, 94, 95, 96]), (21, [105, 106, 107, 108, 109]), (22, [110, 111, 112, 113])], Go.Proofs.Tryz.func139, by kernel_rfl, by kernel_rfl, by kernel_rfl, by kernel_rfl⟩
noncomputable def opn (s : ByteArray) : Bool := decide (s = by8 "*") || hasP s lt1 || hasP s ge2
noncomputable def accO (s l h : ByteArray) (ok : Bool) : Option (ByteArray × ByteArray) := if ok = true ∧ (opn s = true ∨ (l ≠ by8 "" ∧ h ≠ by8 "")) then some (l, h) else none
theorem spl_cons {a r : ByteArray} (h : free 46 a) : spl 46 (a ++ one 46 ++ r) = a :: spl 46 r := by
  have h1 : a.size < (a ++ one 46 ++ r).size := by rw [ByteArray.size_append, ByteArray.size_append, one_size]; omega
  have h2 : bt (a ++ one 46 ++ r) a.size = 46 := by
    have := bt_appR (a := a) (b := one 46 ++ r) (j := 0) (by rw [ByteArray.size_append, one_size]; omega)
    rw [Nat.add_zero] at this
    rw [ByteArray.append_assoc, this, bt_appL (by rw [one_size]; omega)]
    decide +kernel
  have h3 : ∀ j, j < a.size → bt (a ++ one 46 ++ r) j ≠ 46 := fun j hj => by
    rw [ByteArray.append_assoc, bt_appL hj]; exact h j hj
  have h4 := ext_appR (a ++ one 46) r _ rfl
  rw [ByteArray.size_append, one_size] at h4
  rw [spl_hit h1 h2 h3, h4, ByteArray.append_assoc, ext_appL]
theorem ver_short {s : ByteArray} {v : Ver} (h : readVer s = some v) : shortO s = none := by
  obtain ⟨h1, h2⟩ := ver_back h
  have hd := fun n => dec_free (c := 46) (by decide) n
  have e : s = decT v.maj.toNat ++ one 46 ++ (decT v.min.toNat ++ one 46 ++ (decT v.pat.toNat ++ preT v.pre)) := by
    rw [← h2, verT, if_pos h1, coreT, by46]
    simp only [ByteArray.append_assoc]
  refine short_more rfl ?_
  rw [e, spl_cons (hd _), spl_cons (hd _)]
  have := List.length_pos_iff.2 (spl_ne 46 (decT v.pat.toNat ++ preT v.pre))
  simp only [List.length_cons]; omega
theorem ver_first {s : ByteArray} (h : isVer s = true) : bt s 0 ≠ 94 ∧ bt s 0 ≠ 126 ∧ bt s 0 ≠ 62 ∧ bt s 0 ≠ 60 := by
  have h0 := ver_pos h
  exact ⟨ver_free (by decide) (by decide) (by decide) (by decide +kernel) h 0 h0, ver_free (by decide) (by decide) (by decide) (by decide +kernel) h 0 h0, ver_free (by decide) (by decide) (by decide) (by decide +kernel) h 0 h0, ver_free (by decide) (by decide) (by decide) (by decide +kernel) h 0 h0⟩
theorem ge_first {t : ByteArray} : bt (ge2 ++ t) 0 = 62 := by rw [bt_appL (by decide +kernel)]; decide +kernel
theorem lt_first {t : ByteArray} : bt (lt1 ++ t) 0 = 60 := by rw [bt_appL (by decide +kernel)]; decide +kernel
theorem opn_no {s : ByteArray} (h1 : ¬ s = by8 "*") (h2 : hasP s lt1 = false) (h3 : hasP s ge2 = false) : opn s = false := by simp [opn, h1, h2, h3]
theorem not_pre {s : ByteArray} (h : bt s 0 ≠ 62 ∧ bt s 0 ≠ 60) : hasP s lt1 = false ∧ hasP s ge2 = false := by
  constructor
  · cases h1 : hasP s lt1
    · rfl
    · obtain ⟨t, rfl⟩ := hasP_iff.1 h1; exact absurd lt_first h.2
  · cases h1 : hasP s ge2
    · rfl
    · obtain ⟨t, rfl⟩ := hasP_iff.1 h1; exact absurd ge_first h.1
theorem acc_ver {s : ByteArray} {v : Ver} (h : readVer s = some v) : accO s s (exHigh v) true = partO s := by
  have hv := isVer_of h
  obtain ⟨f1, f2, f3, f4⟩ := ver_first hv
  have h0 := ver_pos hv
  have hs : ¬ s = by8 "*" := by
    intro e
    have h6 := ver_free (c := 42) (by decide) (by decide) (by decide) (by decide +kernel) hv 0 h0
    rw [e] at h6
    exact h6 (by decide +kernel)
  obtain ⟨p1, p2⟩ := not_pre ⟨f3, f4⟩
  have hne : s ≠ by8 "" := fun e => by rw [e, by8_nil] at h0; omega
  rw [part_last hs (.inl fun h => h.2.elim f1 f2) (fun h => h.2.elim f3 f4), lastO, exactO, h, ver_short h, accO, opn_no hs p1 p2]
  by_cases hx : exHigh v = by8 ""
  · simp [hx]
  · simp [hx, hne]
theorem par_acc (s : ByteArray) : ∃ l h ok, parRes s = .tup [bndV l h, .lit (.bool ok)] ∧ (if ok = true ∧ (l ≠ by8 "" ∧ h ≠ by8 "") then some (l, h) else none) = shortO s := by
  unfold parRes shortO
  have hq : ∀ a b c : Int, (verT ⟨a, b, c, [by8 "0"]⟩ ≠ by8 "") ↔ verOk ⟨a, b, c, []⟩ = true := fun a b c => by
    rw [← verOk_pre0]
    constructor
    · intro h
      cases ho : verOk ⟨a, b, c, [by8 "0"]⟩
      · exact absurd (verT_nil.2 ho) h
      · rfl
    · exact verT_ne
  obtain ⟨w, hw⟩ : ∃ w, spl 46 s = w := ⟨_, rfl⟩
  rw [hw]
  rcases w with _ | ⟨a, _ | ⟨b, _ | ⟨c, r⟩⟩⟩
  · exact ⟨_, _, false, rfl, by simp⟩
  · simp only
    by_cases h : 0 ≤ readDec a
    · obtain ⟨n, hn, _, hd⟩ := dec_of h
      rw [if_pos h]
      refine ⟨_, _, true, rfl, ?_⟩
      have h1 : verT ⟨readDec a, 0, 0, []⟩ ≠ by8 "" := by rw [hd]; exact verT_ne (verOk_nums (b := 0) (c := 0) hn (by omega) (by omega))
      by_cases h2 : verOk ⟨readDec a + 1, 0, 0, []⟩ = true
      · rw [if_pos ⟨rfl, h1, (hq _ _ _).2 h2⟩, if_pos ⟨h, h2⟩]
      · rw [if_neg fun h3 => h2 ((hq _ _ _).1 h3.2.2), if_neg fun h3 => h2 h3.2]
    · rw [if_neg h, if_neg fun h3 => h h3.1]
      exact ⟨_, _, false, rfl, by simp⟩
  · simp only
    by_cases h : 0 ≤ readDec a ∧ 0 ≤ readDec b
    · obtain ⟨n, hn, _, hd⟩ := dec_of h.1
      obtain ⟨m, hm, _, hd2⟩ := dec_of h.2
      rw [if_pos h]
      refine ⟨_, _, true, rfl, ?_⟩
      have h1 : verT ⟨readDec a, readDec b, 0, []⟩ ≠ by8 "" := by rw [hd, hd2]; exact verT_ne (verOk_nums (c := 0) hn hm (by omega))
      by_cases h2 : verOk ⟨readDec a, readDec b + 1, 0, []⟩ = true
      · rw [if_pos ⟨rfl, h1, (hq _ _ _).2 h2⟩, if_pos ⟨h, h2⟩]
      · rw [if_neg fun h3 => h2 ((hq _ _ _).1 h3.2.2), if_neg fun h3 => h2 h3.2]
    · rw [if_neg h, if_neg fun h3 => h h3.1]
      exact ⟨_, _, false, rfl, by simp⟩
  · exact ⟨_, _, false, rfl, by simp⟩
section
variable {E : Env} (hE : E.P = Go.Proofs.Tryz.prog) (hZ : ∀ w, E.K w → KZ w)
include hE hZ
set_option maxHeartbeats 8000000 in
theorem readBound_ex (s : ByteArray) (hs : s.size ≤ 1073741823) : ∃ l h ok, Fx E 139 [] [.lit (.string s)] [] (.tup [bndV l h, .lit (.bool ok)]) ∧ accO s l h ok = partO s := by
  have go : ∀ {l h : ByteArray} {ok : Bool}, Xe E.pl v139 ⟨enum 0 [.lit (.string s)], []⟩ (Fin [.b 2 true 2, .t 3] (.tup [bndV l h, .lit (.bool ok)]) []) .mk → Fx E 139 [] [.lit (.string s)] [] (.tup [bndV l h, .lit (.bool ok)]) := fun hx => (is139.to hE).fx [] (by simp) rfl rfl hx
  by_cases c0 : s = by8 "*"
  · refine ⟨by8 "", by8 "", true, go ?_, by rw [partO, if_pos c0, accO, opn]; simp [c0]⟩
    simp [v139, c0, okC, putElem, upd, fill]
    exact Fin_ret2 rfl rfl
  cases hr : readVer s with
  | some v =>
    refine ⟨s, exHigh v, true, go ?_, acc_ver hr⟩
    obtain ⟨ho, ht⟩ := ver_back hr
    simp [v139, c0, okC]
    refine vcall_go (implReadVer_fx hE hZ s (by omega)) (by simp) (by simp) (by simp) (by simp) ?_
    unfold verRes
    rw [hr]
    rcases apS_cases s with h | h
    all_goals
      simp [verSome, okC, putElem, upd, fill, h]
      refine vcall_go (implAlone_fx hE hZ v ho) (by simp [Ver.av, ro]) (by simp) (by simp) (by simp) ?_
      rw [ht]
      simp [bndV, okC, putElem, upd, fill]
      exact Fin_ret2 rfl rfl
  | none =>
    by_cases c1 : hasP s ge2 = true
    · obtain ⟨t, rfl⟩ := hasP_iff.1 c1
      have ht : trimP (ge2 ++ t) ge2 = t := by rw [trimP, if_pos c1, ext_app]
      have hz : (ge2 ++ t).size = 2 + t.size := by rw [ByteArray.size_append, ge2_size]
      have hx := part_sgn c0 (by omega) (.inl (ge_first (t := t)))
      have ho : opn (ge2 ++ t) = true := by simp [opn, c1]
      rcases index_cases t sl2 with ⟨hi, hn⟩ | ⟨i, hi, hle, he, hmin⟩
      · have hsg := sgn_cut_none hn
        refine ⟨t, by8 "", isVer t, go ?_, ?_⟩
        · simp [v139, c0, okC]
          refine vcall_go (implReadVer_fx hE hZ (ge2 ++ t) (by omega)) (by simp) (by simp) (by simp) (by simp) ?_
          unfold verRes
          rw [hr]
          simp [verNone, okC, putElem, upd, fill]
          refine vcall_go (cutPrefix_fx hE (ge2 ++ t) ge2) (by simp [ge2]) (by simp) (by simp) (by simp) ?_
          rw [ht, c1]
          simp
          refine vcall_go (cutS_fx hE hZ sl2 t (by omega)) (by simp [sl2]) (by simp) (by simp) (by simp) ?_
          rw [cutS, hi, if_neg (by omega)]
          simp [fill, okC, upd]
          refine vcall_go (isVersion_fx hE hZ t (by omega)) (by simp) (by simp) (by simp) (by simp) ?_
          cases hv : isVer t
          · simp [okC, putElem, upd, fill]
            exact Fin_ret2 rfl rfl
          · simp [okC, putElem, upd, fill]
            exact Fin_ret2 rfl rfl
        · rw [hx, hsg, accO, ho]
          cases isVer t <;> simp
      · obtain ⟨v, hv⟩ : ∃ v, t.extract 0 i = v := ⟨_, rfl⟩
        obtain ⟨w, hw⟩ : ∃ w, t.extract (i + sl2.size) t.size = w := ⟨_, rfl⟩
        have hvz : v.size ≤ t.size := by rw [← hv, ext_size]; omega
        have hwz : w.size ≤ t.size := by rw [← hw, ext_size]; omega
        have hvi : v.size = i := by rw [← hv, ext_size]; omega
        rw [hv, hw] at he
        have hsg := sgn_cut_some (v := v) (w := w) (fun a b e => by rw [← he] at e; rw [hvi]; exact hmin a b e)
        rw [← he] at hsg
        refine ⟨v, w, isVer v && isVer w, go ?_, ?_⟩
        · simp [v139, c0, okC]
          refine vcall_go (implReadVer_fx hE hZ (ge2 ++ t) (by omega)) (by simp) (by simp) (by simp) (by simp) ?_
          unfold verRes
          rw [hr]
          simp [verNone, okC, putElem, upd, fill]
          refine vcall_go (cutPrefix_fx hE (ge2 ++ t) ge2) (by simp [ge2]) (by simp) (by simp) (by simp) ?_
          rw [ht, c1]
          simp
          refine vcall_go (cutS_fx hE hZ sl2 t (by omega)) (by simp [sl2]) (by simp) (by simp) (by simp) ?_
          rw [cutS, hi, if_pos (by omega), Int.toNat_natCast, hv, hw]
          simp [fill, okC, upd]
          refine vcall_go (isVersion_fx hE hZ v (by omega)) (by simp) (by simp) (by simp) (by simp) ?_
          cases hv1 : isVer v
          · simp [okC, putElem, upd, fill]
            exact Fin_ret2 rfl rfl
          · simp [okC, putElem, upd, fill]
            refine vcall_go (isVersion_fx hE hZ w (by omega)) (by simp) (by simp) (by simp) (by simp) ?_
            cases hw1 : isVer w
            · simp [okC, putElem, upd, fill]
              exact Fin_ret2 rfl rfl
            · simp [okC, putElem, upd, fill]
              exact Fin_ret2 rfl rfl
        · rw [hx, hsg, accO, ho]
          cases isVer v <;> cases isVer w <;> simp
    · have c1 : hasP s ge2 = false := by simpa using c1
      have ht : trimP s ge2 = s := by rw [trimP, c1]; rfl
      by_cases c2 : hasP s lt1 = true
      · obtain ⟨t, rfl⟩ := hasP_iff.1 c2
        have ht2 : trimP (lt1 ++ t) lt1 = t := by rw [trimP, if_pos c2, ext_app]
        have hz : (lt1 ++ t).size = 1 + t.size := by rw [ByteArray.size_append]; rfl
        have hx := part_sgn c0 (by omega) (.inr (lt_first (t := t)))
        have ho : opn (lt1 ++ t) = true := by simp [opn, c2]
        refine ⟨by8 "", t, isVer t, go ?_, ?_⟩
        · simp [v139, c0, okC]
          refine vcall_go (implReadVer_fx hE hZ (lt1 ++ t) (by omega)) (by simp) (by simp) (by simp) (by simp) ?_
          unfold verRes
          rw [hr]
          simp [verNone, okC, putElem, upd, fill]
          refine vcall_go (cutPrefix_fx hE (lt1 ++ t) ge2) (by simp [ge2]) (by simp) (by simp) (by simp) ?_
          rw [ht, c1]
          simp
          refine vcall_go (cutPrefix_fx hE (lt1 ++ t) lt1) (by simp [lt1]) (by simp) (by simp) (by simp) ?_
          rw [ht2, c2]
          simp
          simp [fill, okC, upd]
          refine vcall_go (isVersion_fx hE hZ t (by omega)) (by simp) (by simp) (by simp) (by simp) ?_
          cases hv : isVer t
          · simp [okC, putElem, upd, fill]
            exact Fin_ret2 rfl rfl
          · simp [okC, putElem, upd, fill]
            exact Fin_ret2 rfl rfl
        · rw [hx, sgn_lt, accO, ho]
          cases isVer t <;> simp
      · have c2 : hasP s lt1 = false := by simpa using c2
        have ht2 : trimP s lt1 = s := by rw [trimP, c2]; rfl
        have ho := opn_no c0 c2 c1
        by_cases d : 0 < s.size ∧ (bt s 0 = 94 ∨ bt s 0 = 126)
        · have d0 := d.1
          have hx := part_car c0 d0 d.2
          have z : ¬ s = by8 "" := fun e => by rw [e, by8_nil] at d0; omega
          have ze : (s.extract 1 s.size).size = s.size - 1 := by rw [ext_size]; omega
          cases hv : readVer (s.extract 1 s.size) with
          | none =>
            have hc : carO s = none := by rw [carO, hv]
            rcases d.2 with e | e
            · refine ⟨s.extract 1 s.size, verT ⟨0, 0, 1, [by8 "0"]⟩, false, go ?_, by rw [hx, hc, accO]; simp⟩
              simp [v139, c0, okC]
              refine vcall_go (implReadVer_fx hE hZ s (by omega)) (by simp) (by simp) (by simp) (by simp) ?_
              unfold verRes
              rw [hr]
              simp [verNone, okC, putElem, upd, fill]
              refine vcall_go (cutPrefix_fx hE s ge2) (by simp [ge2]) (by simp) (by simp) (by simp) ?_
              rw [ht, c1]
              simp
              refine vcall_go (cutPrefix_fx hE s lt1) (by simp [lt1]) (by simp) (by simp) (by simp) ?_
              rw [ht2, c2]
              simp [z, d0, e]
              refine wh_l (l := 1) (k := .i64) rfl (by omega) (by omega) ?_
              simp
              refine vcall_go (implReadVer_fx hE hZ (s.extract 1 s.size) (by omega)) (by simp) (by simp) (by simp) (by simp) ?_
              unfold verRes
              rw [hv]
              simp [verNone, okC, putElem, upd, fill]
              rw [w64_1]
              refine vcall_go (zeroPre_fx hE hZ 0 1 0) (by simp) (by simp) (by simp) (by simp) ?_
              simp [d0, e]
              rw [w64_1]
              refine vcall_go (zeroPre_fx hE hZ 0 0 1) (by simp) (by simp) (by simp) (by simp) ?_
              simp
              refine wh_l (l := 1) (k := .i64) rfl (by omega) (by omega) ?_
              simp [bndV, okC, putElem, upd, fill]
              exact Fin_ret2 rfl rfl
            · refine ⟨s.extract 1 s.size, verT ⟨0, 1, 0, [by8 "0"]⟩, false, go ?_, by rw [hx, hc, accO]; simp⟩
              simp [v139, c0, okC]
              refine vcall_go (implReadVer_fx hE hZ s (by omega)) (by simp) (by simp) (by simp) (by simp) ?_
              unfold verRes
              rw [hr]
              simp [verNone, okC, putElem, upd, fill]
              refine vcall_go (cutPrefix_fx hE s ge2) (by simp [ge2]) (by simp) (by simp) (by simp) ?_
              rw [ht, c1]
              simp
              refine vcall_go (cutPrefix_fx hE s lt1) (by simp [lt1]) (by simp) (by simp) (by simp) ?_
              rw [ht2, c2]
              simp [z, d0, e]
              refine wh_l (l := 1) (k := .i64) rfl (by omega) (by omega) ?_
              simp
              refine vcall_go (implReadVer_fx hE hZ (s.extract 1 s.size) (by omega)) (by simp) (by simp) (by simp) (by simp) ?_
              unfold verRes
              rw [hv]
              simp [verNone, okC, putElem, upd, fill]
              rw [w64_1]
              refine vcall_go (zeroPre_fx hE hZ 0 1 0) (by simp) (by simp) (by simp) (by simp) ?_
              simp [d0, e]
              refine wh_l (l := 1) (k := .i64) rfl (by omega) (by omega) ?_
              simp [bndV, okC, putElem, upd, fill]
              exact Fin_ret2 rfl rfl
          | some v =>
            have hvi := isVer_of hv
            obtain ⟨hvo, hvt⟩ := ver_back hv
            obtain ⟨⟨a, e1, k1⟩, ⟨b, e2, k2⟩, ⟨c, e3, k3⟩, _, _⟩ := verOk_b hvo
            obtain ⟨maj, min, pat, vp⟩ := v
            simp only at e1 e2 e3
            subst e1 e2 e3
            have key : ∀ x y w : Int, nextV ⟨a, b, c, vp⟩ (carP s ⟨a, b, c, vp⟩) = ⟨x, y, w, []⟩ → accO s (s.extract 1 s.size) (verT ⟨x, y, w, [by8 "0"]⟩) true = partO s := fun x y w hN => by
              have hne : s.extract 1 s.size ≠ by8 "" := fun e => by rw [e, isVer_nil] at hvi; cases hvi
              rw [hx, carO, hv]
              simp only [hN]
              rw [accO, ho]
              by_cases h2 : verOk ⟨x, y, w, []⟩ = true
              · have h3 : verT ⟨x, y, w, [by8 "0"]⟩ ≠ by8 "" := verT_ne (by rw [verOk_pre0]; exact h2)
                rw [if_pos h2, if_pos ⟨rfl, .inr ⟨hne, h3⟩⟩]
              · have h3 : verT ⟨x, y, w, [by8 "0"]⟩ = by8 "" := verT_nil.2 (by rw [verOk_pre0]; simpa using h2)
                rw [if_neg h2, h3]; simp
            rcases d.2 with e | e
            · have hp : carP s ⟨a, b, c, vp⟩ = careV ⟨a, b, c, vp⟩ := by rw [carP, if_neg (by rw [e]; decide)]
              by_cases m0 : 0 < a
              · have m0' : (0 : Int) < a := by omega
                refine ⟨s.extract 1 s.size, verT ⟨(a : Int) + 1, 0, 0, [by8 "0"]⟩, true, go ?_, key _ _ _ (by rw [hp, careV, if_pos m0']; rfl)⟩
                simp [v139, c0, okC]
                refine vcall_go (implReadVer_fx hE hZ s (by omega)) (by simp) (by simp) (by simp) (by simp) ?_
                unfold verRes
                rw [hr]
                simp [verNone, okC, putElem, upd, fill]
                refine vcall_go (cutPrefix_fx hE s ge2) (by simp [ge2]) (by simp) (by simp) (by simp) ?_
                rw [ht, c1]
                simp
                refine vcall_go (cutPrefix_fx hE s lt1) (by simp [lt1]) (by simp) (by simp) (by simp) ?_
                rw [ht2, c2]
                simp [z, d0, e]
                refine wh_l (l := 1) (k := .i64) rfl (by omega) (by omega) ?_
                simp
                refine vcall_go (implReadVer_fx hE hZ (s.extract 1 s.size) (by omega)) (by simp) (by simp) (by simp) (by simp) ?_
                unfold verRes
                rw [hv]
                rcases apS_cases (s.extract 1 s.size) with ha | ha
                all_goals
                  simp [verSome, okC, putElem, upd, fill, ha]
                  rw [wrap_i64 (i := (b : Int) + 1) (by omega) (by omega)]
                  refine vcall_go (zeroPre_fx hE hZ a (b + 1) 0) (by simp) (by simp) (by simp) (by simp) ?_
                  simp [d0, e, m0]
                  rw [wrap_i64 (i := (a : Int) + 1) (by omega) (by omega)]
                  refine vcall_go (zeroPre_fx hE hZ (a + 1) 0 0) (by simp) (by simp) (by simp) (by simp) ?_
                  simp
                  refine wh_l (l := 1) (k := .i64) rfl (by omega) (by omega) ?_
                  simp [bndV, okC, putElem, upd, fill]
                  exact Fin_ret2 rfl rfl
              · have m0' : ¬ (0 : Int) < a := by omega
                by_cases m1 : b = 0
                · refine ⟨s.extract 1 s.size, verT ⟨0, 0, (c : Int) + 1, [by8 "0"]⟩, true, go ?_, key _ _ _ (by rw [hp, careV, if_neg m0', if_neg (by simp [m1]), show a = 0 by omega, m1]; rfl)⟩
                  simp [v139, c0, okC]
                  refine vcall_go (implReadVer_fx hE hZ s (by omega)) (by simp) (by simp) (by simp) (by simp) ?_
                  unfold verRes
                  rw [hr]
                  simp [verNone, okC, putElem, upd, fill]
                  refine vcall_go (cutPrefix_fx hE s ge2) (by simp [ge2]) (by simp) (by simp) (by simp) ?_
                  rw [ht, c1]
                  simp
                  refine vcall_go (cutPrefix_fx hE s lt1) (by simp [lt1]) (by simp) (by simp) (by simp) ?_
                  rw [ht2, c2]
                  simp [z, d0, e]
                  refine wh_l (l := 1) (k := .i64) rfl (by omega) (by omega) ?_
                  simp
                  refine vcall_go (implReadVer_fx hE hZ (s.extract 1 s.size) (by omega)) (by simp) (by simp) (by simp) (by simp) ?_
                  unfold verRes
                  rw [hv]
                  rcases apS_cases (s.extract 1 s.size) with ha | ha
                  all_goals
                    simp [verSome, okC, putElem, upd, fill, ha]
                    rw [wrap_i64 (i := (b : Int) + 1) (by omega) (by omega)]
                    refine vcall_go (zeroPre_fx hE hZ a (b + 1) 0) (by simp) (by simp) (by simp) (by simp) ?_
                    simp [d0, e, m0, m1]
                    rw [wrap_i64 (i := (c : Int) + 1) (by omega) (by omega)]
                    refine vcall_go (zeroPre_fx hE hZ 0 0 (c + 1)) (by simp) (by simp) (by simp) (by simp) ?_
                    simp
                    refine wh_l (l := 1) (k := .i64) rfl (by omega) (by omega) ?_
                    simp [bndV, okC, putElem, upd, fill]
                    exact Fin_ret2 rfl rfl
                · have m1' : (0 : Int) < b := by omega
                  refine ⟨s.extract 1 s.size, verT ⟨a, (b : Int) + 1, 0, [by8 "0"]⟩, true, go ?_, key _ _ _ (by rw [hp, careV, if_neg m0', if_pos m1']; rfl)⟩
                  simp [v139, c0, okC]
                  refine vcall_go (implReadVer_fx hE hZ s (by omega)) (by simp) (by simp) (by simp) (by simp) ?_
                  unfold verRes
                  rw [hr]
                  simp [verNone, okC, putElem, upd, fill]
                  refine vcall_go (cutPrefix_fx hE s ge2) (by simp [ge2]) (by simp) (by simp) (by simp) ?_
                  rw [ht, c1]
                  simp
                  refine vcall_go (cutPrefix_fx hE s lt1) (by simp [lt1]) (by simp) (by simp) (by simp) ?_
                  rw [ht2, c2]
                  simp [z, d0, e]
                  refine wh_l (l := 1) (k := .i64) rfl (by omega) (by omega) ?_
                  simp
                  refine vcall_go (implReadVer_fx hE hZ (s.extract 1 s.size) (by omega)) (by simp) (by simp) (by simp) (by simp) ?_
                  unfold verRes
                  rw [hv]
                  rcases apS_cases (s.extract 1 s.size) with ha | ha
                  all_goals
                    simp [verSome, okC, putElem, upd, fill, ha]
                    rw [wrap_i64 (i := (b : Int) + 1) (by omega) (by omega)]
                    refine vcall_go (zeroPre_fx hE hZ a (b + 1) 0) (by simp) (by simp) (by simp) (by simp) ?_
                    simp [d0, e, m0, m1]
                    refine wh_l (l := 1) (k := .i64) rfl (by omega) (by omega) ?_
                    simp [bndV, okC, putElem, upd, fill]
                    exact Fin_ret2 rfl rfl
            · have hp : carP s ⟨a, b, c, vp⟩ = 1 := by rw [carP, if_pos e]
              refine ⟨s.extract 1 s.size, verT ⟨a, (b : Int) + 1, 0, [by8 "0"]⟩, true, go ?_, key _ _ _ (by rw [hp]; rfl)⟩
              simp [v139, c0, okC]
              refine vcall_go (implReadVer_fx hE hZ s (by omega)) (by simp) (by simp) (by simp) (by simp) ?_
              unfold verRes
              rw [hr]
              simp [verNone, okC, putElem, upd, fill]
              refine vcall_go (cutPrefix_fx hE s ge2) (by simp [ge2]) (by simp) (by simp) (by simp) ?_
              rw [ht, c1]
              simp
              refine vcall_go (cutPrefix_fx hE s lt1) (by simp [lt1]) (by simp) (by simp) (by simp) ?_
              rw [ht2, c2]
              simp [z, d0, e]
              refine wh_l (l := 1) (k := .i64) rfl (by omega) (by omega) ?_
              simp
              refine vcall_go (implReadVer_fx hE hZ (s.extract 1 s.size) (by omega)) (by simp) (by simp) (by simp) (by simp) ?_
              unfold verRes
              rw [hv]
              rcases apS_cases (s.extract 1 s.size) with ha | ha
              all_goals
                simp [verSome, okC, putElem, upd, fill, ha]
                rw [wrap_i64 (i := (b : Int) + 1) (by omega) (by omega)]
                refine vcall_go (zeroPre_fx hE hZ a (b + 1) 0) (by simp) (by simp) (by simp) (by simp) ?_
                simp [d0, e]
                refine wh_l (l := 1) (k := .i64) rfl (by omega) (by omega) ?_
                simp [bndV, okC, putElem, upd, fill]
                exact Fin_ret2 rfl rfl
        · obtain ⟨l, h, ok, hp, hacc⟩ := par_acc s
          have hpf := partial_fx hE hZ s (by omega)
          rw [hp] at hpf
          refine ⟨l, h, ok, go ?_, ?_⟩
          · simp [v139, c0, okC]
            refine vcall_go (implReadVer_fx hE hZ s (by omega)) (by simp) (by simp) (by simp) (by simp) ?_
            unfold verRes
            rw [hr]
            simp [verNone, okC, putElem, upd, fill]
            refine vcall_go (cutPrefix_fx hE s ge2) (by simp [ge2]) (by simp) (by simp) (by simp) ?_
            rw [ht, c1]
            simp
            refine vcall_go (cutPrefix_fx hE s lt1) (by simp [lt1]) (by simp) (by simp) (by simp) ?_
            rw [ht2, c2]
            simp
            by_cases z : s = by8 ""
            · rw [z] at hpf
              simp [z]
              refine vcall_go hpf (by simp) (by simp) (by simp) (by simp) ?_
              simp [bndV, okC, putElem, upd, fill]
              exact Fin_ret2 rfl rfl
            · have z0 : 0 < s.size := by
                rcases Nat.eq_zero_or_pos s.size with h0 | h0
                · exact absurd (size_nil h0) z
                · exact h0
              have d1 : ¬ ((bt s 0).toNat : Int) = 94 := fun e => d ⟨z0, .inl (u8_eq.1 (e.trans rfl))⟩
              have d2 : ¬ ((bt s 0).toNat : Int) = 126 := fun e => d ⟨z0, .inr (u8_eq.1 (e.trans rfl))⟩
              simp [z, z0, d1, d2]
              refine vcall_go hpf (by simp) (by simp) (by simp) (by simp) ?_
              simp [bndV, okC, putElem, upd, fill]
              exact Fin_ret2 rfl rfl
          · have h1 : accO s l h ok = shortO s := by rw [← hacc, accO, ho]; simp
            rw [h1]
            by_cases e : 0 < s.size ∧ (bt s 0 = 62 ∨ bt s 0 = 60)
            · have h2 : sgnO s = none := sgn_else c1 c2
              have h3 : shortO s = none := by
                rcases e.2 with e2 | e2
                · exact (first_no (c := 62) (by decide) (by decide) (by decide) (by decide +kernel) e.1 e2).2
                · exact (first_no (c := 60) (by decide) (by decide) (by decide) (by decide +kernel) e.1 e2).2
              rw [part_sgn c0 e.1 e.2, h2, h3]
            · rw [part_last c0 (.inl d) e, lastO, exact_no hr]
end
end Go.Proofs.YticockdhfglolaaGreatDoor.Vm
namespace Go.Proofs.YticockdhfglolaaGreatDoor.Vm
open Go Go.RowKit
set_option linter.unusedVariables false
set_option linter.unusedSimpArgs false
def v98 : VC := .seq (.reg false [⟨some 2, .as (.c (.lit (.string (by8 "")))), none⟩] [2]) (.seq (.reg false [⟨some 5, .bsl 1 [], none⟩, ⟨some 3, .as (.t 5), none⟩] [5]) (.seq (.seq (.reg false [⟨some 6, .mv (.t 0), none⟩, ⟨some 7, .len true (.t 6), none⟩, ⟨some 8, .mv (.c (.lit (.int .i64 0))), none⟩] [6]) (.block 0 (.loop (.seq (.reg false [⟨some 9, .bin .lss 0 (.t 8) (.t 7), none⟩] []) (.seq (.cond (.t 9) (.skip) (.exit 0)) (.seq (.block 1 (.seq (.reg false [⟨some 10, .mv (.t 8), none⟩, ⟨some 4, .as (.t 10), none⟩] [10]) (.reg true [⟨some 11, .mv (.t 3), none⟩, ⟨some 12, .mv (.t 0), none⟩, ⟨some 13, .mv (.t 4), none⟩, ⟨some 14, .idx (.t 12) (.t 13), none⟩, ⟨some 15, .bin .shr 0 (.t 14) (.c (.lit (.int .u64 4))), none⟩, ⟨some 16, .idx (.c (.lit (.string (by8 "0123456789abcdef")))) (.t 15), none⟩, ⟨some 17, .mv (.t 0), none⟩, ⟨some 18, .mv (.t 4), none⟩, ⟨some 19, .idx (.t 17) (.t 18), none⟩, ⟨some 20, .bin .and 0 (.t 19) (.c (.lit (.int .u8 15))), none⟩, ⟨some 21, .idx (.c (.lit (.string (by8 "0123456789abcdef")))) (.t 20), none⟩, ⟨some 22, .bsl 1 [(.t 16), (.t 21)], none⟩, ⟨some 23, .app 1 1 (.t 11) (.t 22), none⟩, ⟨some 3, .as (.t 23), none⟩] [11, 12, 13, 14, 15, 16, 17, 18, 19, 20, 21, 22, 23]))) (.reg false [⟨some 24, .bin .add 0 (.t 8) (.c (.lit (.int .i64 1))), none⟩, ⟨some 8, .mv (.t 24), none⟩] [24]))))))) (.seq (.reg false [⟨some 25, .mv (.t 3), none⟩, ⟨some 26, .b2s (.t 25), none⟩, ⟨some 2, .as (.t 26), none⟩] [25, 26]) (.ret))))
theorem is98 : Is Go.Proofs.Tryz.prog 98 27 v98 [.t 2] := ⟨Go.Proofs.Tryz.f98, dl [(0, [2]), (1, [5]), (2, [6]), (4, [10]), (5, [11, 12, 13, 14, 15, 16, 17, 18, 19, 20, 21, 22, 23]), (6, [24]), (7, [25, 26])], Go.Proofs.Tryz.func98, by kernel_rfl, by kernel_rfl, by kernel_rfl, by kernel_rfl⟩
def hexU (n : Nat) : UInt8 := bt (by8 "0123456789ABCDEF") n
def hexL (n : Nat) : UInt8 := bt (by8 "0123456789abcdef") n
def pctB (u : UInt8) : List UInt8 := if safeB u = true then [u] else [37, hexU (u.toNat / 16), hexU (u.toNat % 16)]
def pctL (l : List UInt8) : List UInt8 := (l.map pctB).flatten
def pct (s : ByteArray) : ByteArray := ⟨(pctL s.data.toList).toArray⟩
def hexLs (l : List UInt8) : List UInt8 := (l.map fun u => [hexL (u.toNat / 16), hexL (u.toNat % 16)]).flatten
def hexS (s : ByteArray) : ByteArray := ⟨(hexLs s.data.toList).toArray⟩
theorem hexLs_next {s : ByteArray} {i : Nat} (h : i < s.size) : hexLs (s.data.toList.take (i + 1)) = hexLs (s.data.toList.take i) ++ [hexL ((bt s i).toNat / 16), hexL ((bt s i).toNat % 16)] := by
  rw [List.take_add_one, bt_get h]
  simp [hexLs]
theorem hexLs_len (l : List UInt8) : (hexLs l).length = 2 * l.length := by
  induction l with
  | nil => rfl
  | cons u l ih =>
    simp only [hexLs, List.map_cons, List.flatten_cons, List.length_append, List.length_cons, List.length_nil] at ih ⊢
    omega
section
variable {E : Env} (hE : E.P = Go.Proofs.Tryz.prog) (hZ : ∀ w, E.K w → KZ w)
include hE
set_option maxHeartbeats 1000000 in
theorem implHex_fx (s : ByteArray) (hs : s.size ≤ 1099511627) : Fx E 98 [] [.lit (.string s)] [] (.lit (.string (hexS s))) := by
  refine (is98.to hE).fx [] (by simp) rfl rfl ?_
  simp [v98]
  refine X_loop (τ := Nat) (fun i => ⟨[(0, .lit (.string s)), (3, .sl ⟨.cl 320, true⟩ 1 ((hexLs (s.data.toList.take i)).map fun b : UInt8 => .lit (.int .u8 b.toNat))), (7, .lit (.int .i64 s.size)), (8, .lit (.int .i64 i))], []⟩) (fun i => i ≤ s.size) (fun i => s.size - i) 0 (by simp) (Wk.both (by simp [wkL, wkV.same, hexLs, frA.frL]) trivial) ?_
  rintro i hi
  simp
  have hl := hexLs_len (s.data.toList.take i)
  have hl2 : (s.data.toList.take i).length ≤ s.size := by simp; omega
  by_cases hlt : i < s.size
  · have hn := hexLs_next hlt
    have hu := (bt s i).toNat_lt
    obtain ⟨d, hd⟩ : ∃ d, (bt s i).toNat / 16 = d := ⟨_, rfl⟩
    obtain ⟨m, hm⟩ : ∃ m, (bt s i).toNat % 16 = m := ⟨_, rfl⟩
    have h16 : (by8 "0123456789abcdef").size = 16 := by decide +kernel
    rw [hd, hm] at hn
    have hd1 : (d : Int) < 16 := by omega
    have hm1 : (m : Int) < 16 := by omega
    have e1 : ((bt s i).toNat : Int).fdiv (2 ^ min 4 IntKind.u8.bits) = (d : Int) := by
      rw [show (2 : Int) ^ min 4 IntKind.u8.bits = 16 by decide, Int.fdiv_eq_ediv_of_nonneg _ (by omega)]; omega
    have e2 : IntKind.u8.wrap (((bt s i).toNat % 2 ^ IntKind.u8.bits &&& 15 % 2 ^ IntKind.u8.bits : Nat) : Int) = (m : Int) := by
      have : (bt s i).toNat % 2 ^ IntKind.u8.bits &&& 15 % 2 ^ IntKind.u8.bits = (bt s i).toNat % 16 := by
        show (bt s i).toNat % 256 &&& 15 = (bt s i).toNat % 16
        rw [Nat.mod_eq_of_lt (show (bt s i).toNat < 256 by omega)]
        exact Nat.and_two_pow_sub_one_eq_mod _ 4
      rw [this, IntKind.wrap_u8]; omega
    simp [hlt, h16, hd1, hm1, e1, e2, okC, frA, frA.frL, AS.dem, mapV, dem, dem.demL]
    refine ⟨by omega, i + 1, by omega, by omega, Wk.both (by rw [hn]; simp [wkL, wkV.same, hexL]; rw [wrapN (by omega)]; exact wkV.same _) trivial⟩
  · obtain rfl : i = s.size := by omega
    simp
    rw [show List.take s.size s.data.toList = s.data.toList from List.take_of_length_le (by simp)]
    refine Xa_b2s (l := hexLs s.data.toList) rfl ?_
    simp
    exact Fin_ret rfl rfl
omit hE in
theorem ext_one {s : ByteArray} {i : Nat} (h : i < s.size) : s.extract i (i + 1) = one (bt s i) := by
  refine ba_ext ?_
  have h1 := bt_get h
  rw [one_list]
  apply List.ext_getElem?
  intro j
  simp only [ByteArray.data_extract, Array.getElem?_toList, Array.getElem?_extract]
  cases j with
  | zero =>
    rw [if_pos (by have : s.data.size = s.size := rfl
                   omega)]
    rw [← Array.getElem?_toList]; simpa using h1
  | succ j => rw [if_neg (by omega)]; rfl
end
end Go.Proofs.YticockdhfglolaaGreatDoor.Vm
namespace Go.Proofs.YticockdhfglolaaGreatDoor.Vm
open Go Go.RowKit
set_option linter.unusedVariables false
set_option linter.unusedSimpArgs false
theorem hexU_inj : ∀ a b : _root_.Fin 16, hexU a.val = hexU b.val → a = b := by decide +kernel
theorem u8_parts {u v : UInt8} (h1 : u.toNat / 16 = v.toNat / 16) (h2 : u.toNat % 16 = v.toNat % 16) : u = v := by
  apply UInt8.toNat_inj.1
  omega
theorem safe_not37 {u : UInt8} (h : safeB u = true) : u ≠ 37 := by
  rintro rfl
  revert h
  decide +kernel
theorem pctL_cons (u : UInt8) (l : List UInt8) : pctL (u :: l) = pctB u ++ pctL l := rfl
theorem pctB_ne (u : UInt8) : pctB u ≠ [] := by unfold pctB; split <;> simp
theorem hexU_two {u v : UInt8} (h1 : hexU (u.toNat / 16) = hexU (v.toNat / 16)) (h2 : hexU (u.toNat % 16) = hexU (v.toNat % 16)) : u = v := by
  have hu := u.toNat_lt
  have hv := v.toNat_lt
  have k1 := hexU_inj ⟨u.toNat / 16, by omega⟩ ⟨v.toNat / 16, by omega⟩ h1
  have k2 := hexU_inj ⟨u.toNat % 16, by omega⟩ ⟨v.toNat % 16, by omega⟩ h2
  exact u8_parts (by simpa using k1) (by simpa using k2)
theorem pctL_inj : ∀ (a b : List UInt8), pctL a = pctL b → a = b
  | [], [], _ => rfl
  | [], v :: b, h => by
    rw [pctL_cons] at h
    exact absurd (List.append_eq_nil_iff.1 h.symm).1 (pctB_ne v)
  | u :: a, [], h => by
    rw [pctL_cons] at h
    exact absurd (List.append_eq_nil_iff.1 h).1 (pctB_ne u)
  | u :: a, v :: b, h => by
    rw [pctL_cons, pctL_cons] at h
    unfold pctB at h
    split at h
    · rename_i su
      split at h
      · simp only [List.cons_append, List.nil_append, List.cons.injEq] at h
        rw [h.1, pctL_inj a b h.2]
      · simp only [List.cons_append, List.nil_append, List.cons.injEq] at h
        exact absurd h.1 (safe_not37 su)
    · split at h
      · rename_i sv
        simp only [List.cons_append, List.nil_append, List.cons.injEq] at h
        exact absurd h.1.symm (safe_not37 sv)
      · simp only [List.cons_append, List.nil_append, List.cons.injEq] at h
        rw [hexU_two h.2.1 h.2.2.1, pctL_inj a b h.2.2.2]
theorem pct_list (s : ByteArray) : (pct s).data.toList = pctL s.data.toList := rfl
theorem pct_inj {a b : ByteArray} (h : pct a = pct b) : a = b := ba_ext (pctL_inj _ _ (by rw [← pct_list, ← pct_list, h]))
/-- the text behind it -/
noncomputable def unPct (s : ByteArray) : Option ByteArray := @dite _ (∃ t, pct t = s) (Classical.propDecidable _) (fun h => some h.choose) (fun _ => none)
theorem unPct_pct (t : ByteArray) : unPct (pct t) = some t := by
  unfold unPct
  rw [dif_pos ⟨t, rfl⟩]
  have : ∃ x, pct x = pct t := ⟨t, rfl⟩
  exact congrArg some (pct_inj this.choose_spec)
theorem unPct_none {s : ByteArray} (h : ∀ t, pct t ≠ s) : unPct s = none := by
  unfold unPct
  rw [dif_neg]
  rintro ⟨t, ht⟩
  exact h t ht
/-- where a reader stands: what it has read, and what is to come -/
def PctAt (s : ByteArray) (i : Nat) (out : List UInt8) : Prop := ∀ t : ByteArray, pct t = s → ∃ b, t.data.toList = out ++ b ∧ s.data.toList.drop i = pctL b
theorem PctAt.zero (s : ByteArray) : PctAt s 0 [] := fun t ht => ⟨t.data.toList, rfl, by rw [← ht]; rfl⟩
theorem PctAt.plain {s : ByteArray} {i : Nat} {out : List UInt8} (h : PctAt s i out) (hi : i < s.size) (hc : bt s i ≠ 37) : PctAt s (i + 1) (out ++ [bt s i]) := fun t ht => by
  obtain ⟨b, h1, h2⟩ := h t ht
  rw [drop_bt hi] at h2
  cases b with
  | nil => simp [pctL] at h2
  | cons u b =>
    rw [pctL_cons] at h2
    unfold pctB at h2
    split at h2
    · simp only [List.cons_append, List.nil_append, List.cons.injEq] at h2
      exact ⟨b, by rw [h1, h2.1]; simp, h2.2⟩
    · simp only [List.cons_append, List.nil_append, List.cons.injEq] at h2
      exact absurd h2.1 hc
theorem PctAt.done {s out : ByteArray} (h : PctAt s s.size out.data.toList) : (pct out = s → unPct s = some out) ∧ (pct out ≠ s → unPct s = none) := by
  refine ⟨fun e => by rw [← e, unPct_pct], fun e => unPct_none fun t ht => ?_⟩
  obtain ⟨b, h1, h2⟩ := h t ht
  rw [List.drop_of_length_le (by simp)] at h2
  cases b with
  | nil =>
    refine e ?_
    rw [← ht, ba_ext (a := t) (b := out) (by simpa using h1)]
  | cons u b =>
    rw [pctL_cons] at h2
    exact absurd (List.append_eq_nil_iff.1 h2.symm).1 (pctB_ne u)
end Go.Proofs.YticockdhfglolaaGreatDoor.Vm
namespace Go.Proofs.YticockdhfglolaaGreatDoor.Vm
open Go Go.RowKit
set_option linter.unusedVariables false
set_option linter.unusedSimpArgs false
section
variable {E : Env} (hE : E.P = Go.Proofs.Tryz.prog) (hZ : ∀ w, E.K w → KZ w)
include hE
theorem idxByte_fx (s : ByteArray) (u : UInt8) : Fx E 198 [] [.lit (.string s), .lit (.int .u8 u.toNat)] [] (.lit (.int .i64 (Lib.indexByte s.data.toList u))) :=
  Fx_lit (args := [.string s, .int .u8 u.toNat]) rfl fun w hw => by
    rw [hE]
    refine (Go.Proofs.Tryz.strings_IndexByte s u.toNat w).mono ?_
    rintro e w' ⟨rfl, rfl⟩
    rw [Int.toNat_natCast, Nat.toUInt8_eq, UInt8.ofNat_toNat]
    exact ⟨rfl, Below.refl _ _⟩
end
end Go.Proofs.YticockdhfglolaaGreatDoor.Vm
