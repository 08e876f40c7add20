/- Versions compared; the next version; a version alone as a range: both sides. -/
import Derived.Test.YtgegcfhifojjiaaDoorVx
namespace Go.Proofs.YtgegcfhifojjiaaDoor.Vm
open Go Go.RowKit
set_option linter.unusedVariables false
set_option linter.unusedSimpArgs false
def v65 : VC := .seq (.reg false [⟨some 2, .as (.c (.sl ⟨.nl, true⟩ 1 [])), none⟩] [2]) (.seq (.reg false [⟨some 6, .mv (.t 0), none⟩, ⟨some 7, .call false 89 [(.t 6)], none⟩, ⟨some 5, .mv (.t 7), none⟩, ⟨some 8, .ext (.t 5) 0, none⟩, ⟨some 9, .ext (.t 5) 1, none⟩, ⟨some 3, .alloc (.agg [(.lit (.string (by8 ""))), (.lit (.string (by8 "")))]), none⟩, ⟨none, .st 2 (.t 3) (.t 8), none⟩, ⟨some 4, .as (.t 9), none⟩] [6, 7, 5, 8, 9]) (.seq (.seq (.reg false [⟨some 10, .mv (.t 4), none⟩, ⟨some 11, .un .not (.t 10), none⟩] [10]) (.cond (.t 11) (.seq (.reg false [⟨some 12, .bsl 2 [], none⟩, ⟨some 2, .as (.t 12), none⟩] [12]) (.ret)) (.skip))) (.seq (.reg false [⟨some 13, .ld true 2 (.t 3), none⟩, ⟨some 14, .bsl 2 [(.t 13)], none⟩, ⟨some 2, .as (.t 14), none⟩] [13, 14]) (.ret))))
theorem is65 : Is Go.Proofs.Tryd.prog 65 15 v65 [.t 2] := ⟨Go.Proofs.Tryd.f65, dl [(0, [2]), (1, [6, 7, 5, 8, 9]), (2, [10]), (3, [12]), (4, [13, 14])], Go.Proofs.Tryd.func65, by kernel_rfl, by kernel_rfl, by kernel_rfl, by kernel_rfl⟩
def v89 : VC := .seq (.reg false [⟨some 2, .alloc (.agg [(.lit (.string (by8 ""))), (.lit (.string (by8 "")))]), none⟩, ⟨some 3, .as (.c (.lit (.bool false))), none⟩] [3]) (.seq (.reg false [⟨some 9, .mv (.t 0), none⟩, ⟨some 10, .call false 113 [(.t 9)], none⟩, ⟨some 8, .mv (.t 10), none⟩, ⟨some 11, .ext (.t 8) 0, none⟩, ⟨some 12, .ext (.t 8) 1, none⟩, ⟨some 4, .alloc (.agg [(.lit (.int .i64 0)), (.lit (.int .i64 0)), (.lit (.int .i64 0)), (.sl ⟨.nl, true⟩ 1 [])]), none⟩, ⟨none, .st 4 (.t 4) (.t 11), none⟩, ⟨some 5, .as (.t 12), none⟩] [9, 10, 8, 11, 12]) (.seq (.seq (.reg false [⟨some 13, .mv (.t 5), none⟩, ⟨some 14, .un .not (.t 13), none⟩] [13]) (.cond (.t 14) (.seq (.reg false [⟨some 15, .bld [(.lit (.string (by8 ""))), (.lit (.string (by8 "")))] [], none⟩, ⟨none, .st 2 (.t 2) (.t 15), none⟩, ⟨some 3, .as (.c (.lit (.bool false))), none⟩] [15]) (.ret)) (.skip))) (.seq (.reg false [⟨some 6, .as (.c (.lit (.string (by8 "")))), none⟩, ⟨some 7, .as (.c (.lit (.bool false))), none⟩] [6, 7]) (.seq (.seq (.reg false [⟨some 16, .fa 3 (.t 4), none⟩, ⟨some 17, .ld false 1 (.t 16), none⟩, ⟨some 18, .len false (.t 17), none⟩, ⟨some 19, .bin .gtr 0 (.t 18) (.c (.lit (.int .i64 0))), none⟩] [16, 17, 18]) (.cond (.t 19) (.seq (.reg false [⟨some 20, .mv (.t 0), none⟩, ⟨some 21, .bin .add 0 (.t 20) (.c (.lit (.string (by8 ".0")))), none⟩, ⟨some 6, .as (.t 21), none⟩] [20, 21]) (.reg false [⟨some 23, .mv (.t 6), none⟩, ⟨some 24, .call false 113 [(.t 23)], none⟩, ⟨some 22, .mv (.t 24), none⟩, ⟨some 25, .ext (.t 22) 0, none⟩, ⟨some 26, .ext (.t 22) 1, none⟩, ⟨some 7, .as (.t 26), none⟩] [23, 24, 22, 25, 26])) (.reg false [⟨some 28, .ld true 4 (.t 4), none⟩, ⟨some 29, .call false 114 [(.t 28), (.c (.lit (.int .i64 2)))], none⟩, ⟨some 27, .mv (.t 29), none⟩, ⟨some 30, .ext (.t 27) 0, none⟩, ⟨some 31, .ext (.t 27) 1, none⟩, ⟨some 6, .as (.t 30), none⟩, ⟨some 7, .as (.t 31), none⟩] [28, 29, 27, 30, 31]))) (.seq (.seq (.reg false [⟨some 32, .mv (.t 7), none⟩, ⟨some 33, .un .not (.t 32), none⟩] [32]) (.cond (.t 33) (.seq (.reg false [⟨some 34, .bld [(.lit (.string (by8 ""))), (.lit (.string (by8 "")))] [], none⟩, ⟨none, .st 2 (.t 2) (.t 34), none⟩, ⟨some 3, .as (.c (.lit (.bool false))), none⟩] [34]) (.ret)) (.skip))) (.seq (.reg false [⟨some 35, .mv (.t 0), none⟩, ⟨some 36, .mv (.t 6), none⟩, ⟨some 37, .bld [(.lit (.string (by8 ""))), (.lit (.string (by8 "")))] [(0, 1, (.t 35)), (1, 1, (.t 36))], none⟩, ⟨none, .st 2 (.t 2) (.t 37), none⟩, ⟨some 3, .as (.c (.lit (.bool true))), none⟩] [35, 36, 37]) (.ret)))))))
theorem is89 : Is Go.Proofs.Tryd.prog 89 38 v89 [.b 2 true 2, .t 3] := ⟨Go.Proofs.Tryd.f89, dl [(0, [3]), (1, [9, 10, 8, 11, 12]), (2, [13]), (3, [15]), (4, [6, 7]), (5, [16, 17, 18]), (8, [28, 29, 27, 30, 31]), (6, [20, 21]), (7, [23, 24, 22, 25, 26]), (9, [32]), (10, [34]), (11, [35, 36, 37])], Go.Proofs.Tryd.func89, by kernel_rfl, by kernel_rfl, by kernel_rfl, by kernel_rfl⟩
def v114 : VC := .seq (.reg false [⟨some 2, .box 4 (.t 0), none⟩, ⟨some 4, .as (.c (.lit (.string (by8 "")))), none⟩, ⟨some 5, .as (.c (.lit (.bool false))), none⟩] [4, 5]) (.seq (.reg false [⟨some 7, .bsl 1 [], none⟩, ⟨some 8, .fa 3 (.t 2), none⟩, ⟨none, .st 1 (.t 8) (.t 7), none⟩] [7, 8]) (.seq (.reg false [⟨some 9, .ld true 4 (.t 2), none⟩, ⟨some 10, .mv (.t 1), none⟩, ⟨some 11, .call false 134 [(.t 9), (.t 10)], none⟩, ⟨some 6, .alloc (.agg [(.lit (.int .i64 0)), (.lit (.int .i64 0)), (.lit (.int .i64 0)), (.sl ⟨.nl, true⟩ 1 [])]), none⟩, ⟨none, .st 4 (.t 6) (.t 11), none⟩] [9, 10, 11]) (.seq (.seq (.reg false [⟨some 12, .ld true 4 (.t 6), none⟩, ⟨some 13, .ld true 4 (.t 2), none⟩, ⟨some 14, .call false 135 [(.t 12), (.t 13)], none⟩, ⟨some 15, .bin .eql 0 (.t 14) (.c (.lit (.int .i64 0))), none⟩] [12, 13, 14]) (.cond (.t 15) (.seq (.reg false [⟨some 4, .as (.c (.lit (.string (by8 "")))), none⟩, ⟨some 5, .as (.c (.lit (.bool false))), none⟩] []) (.ret)) (.skip))) (.seq (.reg false [⟨some 16, .bsl 1 [(.c (.lit (.string (by8 "0"))))], none⟩, ⟨some 17, .fa 3 (.t 6), none⟩, ⟨none, .st 1 (.t 17) (.t 16), none⟩] [16, 17]) (.seq (.reg false [⟨some 18, .ld true 4 (.t 6), none⟩, ⟨some 19, .call false 133 [(.t 18)], none⟩, ⟨some 4, .as (.t 19), none⟩, ⟨some 5, .as (.c (.lit (.bool true))), none⟩] [18, 19]) (.ret))))))
theorem is114 : Is Go.Proofs.Tryd.prog 114 20 v114 [.t 4, .t 5] := ⟨Go.Proofs.Tryd.f114, dl [(0, [4, 5]), (1, [7, 8]), (2, [9, 10, 11]), (3, [12, 13, 14]), (5, [16, 17]), (6, [18, 19])], Go.Proofs.Tryd.func114, by kernel_rfl, by kernel_rfl, by kernel_rfl, by kernel_rfl⟩
def v134 : VC := .seq (.reg false [⟨some 2, .box 4 (.t 0), none⟩, ⟨some 4, .alloc (.agg [(.lit (.int .i64 0)), (.lit (.int .i64 0)), (.lit (.int .i64 0)), (.sl ⟨.nl, true⟩ 1 [])]), none⟩] []) (.seq (.reg false [⟨some 7, .ld true 4 (.t 2), none⟩, ⟨some 5, .alloc (.agg [(.lit (.int .i64 0)), (.lit (.int .i64 0)), (.lit (.int .i64 0)), (.sl ⟨.nl, true⟩ 1 [])]), none⟩, ⟨none, .st 4 (.t 5) (.t 7), none⟩] [7]) (.seq (.reg false [⟨some 8, .bsl 1 [], none⟩, ⟨some 9, .fa 3 (.t 2), none⟩, ⟨some 10, .ld false 1 (.t 9), none⟩, ⟨some 11, .app 1 16 (.t 8) (.t 10), none⟩, ⟨some 12, .fa 3 (.t 5), none⟩, ⟨none, .st 1 (.t 12) (.t 11), none⟩] [8, 9, 10, 11, 12]) (.seq (.reg false [⟨some 13, .fa 0 (.t 2), none⟩, ⟨some 14, .ld false 1 (.t 13), none⟩, ⟨some 15, .bld [(.lit (.int .i64 0)), (.lit (.int .i64 0)), (.lit (.int .i64 0)), (.sl ⟨.nl, true⟩ 1 [])] [(0, 1, (.t 14))], none⟩, ⟨some 6, .alloc (.agg [(.lit (.int .i64 0)), (.lit (.int .i64 0)), (.lit (.int .i64 0)), (.sl ⟨.nl, true⟩ 1 [])]), none⟩, ⟨none, .st 4 (.t 6) (.t 15), none⟩] [13, 14, 15]) (.seq (.block 0 (.seq (.reg false [⟨some 31, .ld true 4 (.t 2), none⟩, ⟨some 32, .call false 143 [(.t 31)], none⟩, ⟨some 33, .un .not (.t 32), none⟩, ⟨some 34, .mv (.t 33), none⟩, ⟨some 35, .mv (.t 1), (some (34, false))⟩, ⟨some 36, .call false 79 [(.t 35), (.c (.lit (.int .i64 0))), (.c (.lit (.int .i64 2)))], (some (34, false))⟩, ⟨some 37, .un .not (.t 36), (some (34, false))⟩, ⟨some 38, .pick (.t 34) (.c (.lit (.bool true))) (.t 37), none⟩, ⟨some 30, .as (.t 38), none⟩] [31, 32, 33, 34, 35, 36, 37, 38]) (.cond (.t 30) (.seq (.reg false [⟨some 39, .ld true 4 (.t 5), none⟩, ⟨none, .st 4 (.t 4) (.t 39), none⟩] [39]) (.ret)) (.seq (.reg false [⟨some 41, .mv (.t 1), none⟩, ⟨some 42, .bin .eql 0 (.t 41) (.c (.lit (.int .i64 0))), none⟩, ⟨some 40, .as (.t 42), none⟩] [41, 42]) (.cond (.t 40) (.reg false [⟨some 43, .fa 0 (.t 2), none⟩, ⟨some 44, .ld false 1 (.t 43), none⟩, ⟨some 45, .bin .add 0 (.t 44) (.c (.lit (.int .i64 1))), none⟩, ⟨some 46, .fa 0 (.t 6), none⟩, ⟨none, .st 1 (.t 46) (.t 45), none⟩] [43, 44, 45, 46]) (.seq (.reg false [⟨some 48, .mv (.t 1), none⟩, ⟨some 49, .bin .eql 0 (.t 48) (.c (.lit (.int .i64 1))), none⟩, ⟨some 47, .as (.t 49), none⟩] [48, 49]) (.cond (.t 47) (.reg false [⟨some 50, .fa 1 (.t 2), none⟩, ⟨some 51, .ld false 1 (.t 50), none⟩, ⟨some 52, .bin .add 0 (.t 51) (.c (.lit (.int .i64 1))), none⟩, ⟨some 53, .fa 1 (.t 6), none⟩, ⟨none, .st 1 (.t 53) (.t 52), none⟩] [50, 51, 52, 53]) (.seq (.reg false [⟨some 16, .fa 1 (.t 2), none⟩, ⟨some 17, .ld false 1 (.t 16), none⟩, ⟨some 18, .fa 1 (.t 6), none⟩, ⟨none, .st 1 (.t 18) (.t 17), none⟩] [16, 17, 18]) (.seq (.reg false [⟨some 19, .fa 2 (.t 2), none⟩, ⟨some 20, .ld false 1 (.t 19), none⟩, ⟨some 21, .fa 2 (.t 6), none⟩, ⟨none, .st 1 (.t 21) (.t 20), none⟩] [19, 20, 21]) (.seq (.reg false [⟨some 22, .fa 3 (.t 2), none⟩, ⟨some 23, .ld false 1 (.t 22), none⟩, ⟨some 24, .len false (.t 23), none⟩, ⟨some 25, .bin .eql 0 (.t 24) (.c (.lit (.int .i64 0))), none⟩] [22, 23, 24]) (.cond (.t 25) (.reg false [⟨some 26, .fa 2 (.t 2), none⟩, ⟨some 27, .ld false 1 (.t 26), none⟩, ⟨some 28, .bin .add 0 (.t 27) (.c (.lit (.int .i64 1))), none⟩, ⟨some 29, .fa 2 (.t 6), none⟩, ⟨none, .st 1 (.t 29) (.t 28), none⟩] [26, 27, 28, 29]) (.skip)))))))))))) (.seq (.seq (.reg false [⟨some 54, .ld true 4 (.t 6), none⟩, ⟨some 55, .call false 143 [(.t 54)], none⟩, ⟨some 56, .un .not (.t 55), none⟩] [54, 55]) (.cond (.t 56) (.seq (.reg false [⟨some 57, .ld true 4 (.t 5), none⟩, ⟨none, .st 4 (.t 4) (.t 57), none⟩] [57]) (.ret)) (.skip))) (.seq (.reg false [⟨some 58, .ld true 4 (.t 6), none⟩, ⟨none, .st 4 (.t 4) (.t 58), none⟩] [58]) (.ret)))))))
theorem is134 : Is Go.Proofs.Tryd.prog 134 59 v134 [.b 4 true 4] := ⟨Go.Proofs.Tryd.f134, dl [(1, [7]), (2, [8, 9, 10, 11, 12]), (3, [13, 14, 15]), (8, [31, 32, 33, 34, 35, 36, 37, 38]), (10, [41, 42]), (12, [48, 49]), (4, [16, 17, 18]), (5, [19, 20, 21]), (6, [22, 23, 24]), (7, [26, 27, 28, 29]), (13, [50, 51, 52, 53]), (11, [43, 44, 45, 46]), (9, [39]), (14, [54, 55]), (15, [57]), (16, [58])], Go.Proofs.Tryd.func134, by kernel_rfl, by kernel_rfl, by kernel_rfl, by kernel_rfl⟩
def v135 : VC := .seq (.reg false [⟨some 2, .box 4 (.t 0), none⟩, ⟨some 3, .box 4 (.t 1), none⟩, ⟨some 4, .as (.c (.lit (.int .i64 0))), none⟩] [4]) (.seq (.reg true [⟨some 9, .fa 0 (.t 2), none⟩, ⟨some 10, .ld false 1 (.t 9), none⟩, ⟨some 11, .fa 0 (.t 3), none⟩, ⟨some 12, .ld false 1 (.t 11), none⟩, ⟨some 13, .call true 144 [(.t 10), (.t 12)], none⟩, ⟨some 14, .fa 1 (.t 2), none⟩, ⟨some 15, .ld false 1 (.t 14), none⟩, ⟨some 16, .fa 1 (.t 3), none⟩, ⟨some 17, .ld false 1 (.t 16), none⟩, ⟨some 18, .call true 144 [(.t 15), (.t 17)], none⟩, ⟨some 19, .fa 2 (.t 2), none⟩, ⟨some 20, .ld false 1 (.t 19), none⟩, ⟨some 21, .fa 2 (.t 3), none⟩, ⟨some 22, .ld false 1 (.t 21), none⟩, ⟨some 23, .call true 144 [(.t 20), (.t 22)], none⟩, ⟨some 24, .bsl 1 [(.t 13), (.t 18), (.t 23)], none⟩, ⟨some 5, .as (.t 24), none⟩] [9, 10, 11, 12, 13, 14, 15, 16, 17, 18, 19, 20, 21, 22, 23, 24]) (.seq (.seq (.reg false [⟨some 6, .as (.c (.lit (.int .i64 0))), none⟩] []) (.block 0 (.loop (.seq (.seq (.reg false [⟨some 25, .mv (.t 6), none⟩, ⟨some 26, .bin .lss 0 (.t 25) (.c (.lit (.int .i64 3))), none⟩] [25]) (.cond (.t 26) (.skip) (.exit 0))) (.seq (.block 1 (.seq (.reg false [⟨some 29, .mv (.t 5), none⟩, ⟨some 30, .mv (.t 6), none⟩, ⟨some 31, .ia 1 (.t 29) (.t 30), none⟩, ⟨some 32, .ld false 1 (.t 31), none⟩, ⟨some 33, .bin .neq 0 (.t 32) (.c (.lit (.int .i64 0))), none⟩] [29, 30, 31, 32]) (.cond (.t 33) (.seq (.reg false [⟨some 34, .mv (.t 5), none⟩, ⟨some 35, .mv (.t 6), none⟩, ⟨some 36, .ia 1 (.t 34) (.t 35), none⟩, ⟨some 37, .ld false 1 (.t 36), none⟩, ⟨some 4, .as (.t 37), none⟩] [34, 35, 36, 37]) (.ret)) (.skip)))) (.reg false [⟨some 27, .mv (.t 6), none⟩, ⟨some 28, .bin .add 0 (.t 27) (.c (.lit (.int .i64 1))), none⟩, ⟨some 6, .as (.t 28), none⟩] [27, 28])))))) (.seq (.seq (.reg false [⟨some 38, .fa 3 (.t 2), none⟩, ⟨some 39, .ld false 1 (.t 38), none⟩, ⟨some 40, .len false (.t 39), none⟩, ⟨some 41, .bin .eql 0 (.t 40) (.c (.lit (.int .i64 0))), none⟩, ⟨some 42, .mv (.t 41), none⟩, ⟨some 43, .fa 3 (.t 3), (some (42, false))⟩, ⟨some 44, .ld false 1 (.t 43), (some (42, false))⟩, ⟨some 45, .len false (.t 44), (some (42, false))⟩, ⟨some 46, .bin .eql 0 (.t 45) (.c (.lit (.int .i64 0))), (some (42, false))⟩, ⟨some 47, .pick (.t 42) (.c (.lit (.bool true))) (.t 46), none⟩] [38, 39, 40, 41, 42, 43, 44, 45, 46]) (.cond (.t 47) (.seq (.reg false [⟨some 48, .fa 3 (.t 3), none⟩, ⟨some 49, .ld false 1 (.t 48), none⟩, ⟨some 50, .len false (.t 49), none⟩, ⟨some 51, .fa 3 (.t 2), none⟩, ⟨some 52, .ld false 1 (.t 51), none⟩, ⟨some 53, .len false (.t 52), none⟩, ⟨some 54, .call false 144 [(.t 50), (.t 53)], none⟩, ⟨some 4, .as (.t 54), none⟩] [48, 49, 50, 51, 52, 53, 54]) (.ret)) (.skip))) (.seq (.seq (.reg false [⟨some 7, .as (.c (.lit (.int .i64 0))), none⟩] []) (.block 2 (.loop (.seq (.seq (.reg false [⟨some 55, .mv (.t 7), none⟩, ⟨some 56, .fa 3 (.t 2), none⟩, ⟨some 57, .ld false 1 (.t 56), none⟩, ⟨some 58, .len false (.t 57), none⟩, ⟨some 59, .bin .lss 0 (.t 55) (.t 58), none⟩, ⟨some 60, .mv (.t 59), none⟩, ⟨some 61, .mv (.t 7), (some (60, true))⟩, ⟨some 62, .fa 3 (.t 3), (some (60, true))⟩, ⟨some 63, .ld false 1 (.t 62), (some (60, true))⟩, ⟨some 64, .len false (.t 63), (some (60, true))⟩, ⟨some 65, .bin .lss 0 (.t 61) (.t 64), (some (60, true))⟩, ⟨some 66, .pick (.t 60) (.t 65) (.c (.lit (.bool false))), none⟩] [55, 56, 57, 58, 59, 60, 61, 62, 63, 64, 65]) (.cond (.t 66) (.skip) (.exit 2))) (.seq (.block 3 (.seq (.reg true [⟨some 69, .fa 3 (.t 2), none⟩, ⟨some 70, .ld false 1 (.t 69), none⟩, ⟨some 71, .mv (.t 7), none⟩, ⟨some 72, .ia 1 (.t 70) (.t 71), none⟩, ⟨some 73, .ld false 1 (.t 72), none⟩, ⟨some 74, .fa 3 (.t 3), none⟩, ⟨some 75, .ld false 1 (.t 74), none⟩, ⟨some 76, .mv (.t 7), none⟩, ⟨some 77, .ia 1 (.t 75) (.t 76), none⟩, ⟨some 78, .ld false 1 (.t 77), none⟩, ⟨some 79, .call true 145 [(.t 73), (.t 78)], none⟩, ⟨some 8, .as (.t 79), none⟩] [69, 70, 71, 72, 73, 74, 75, 76, 77, 78, 79]) (.seq (.reg false [⟨some 80, .mv (.t 8), none⟩, ⟨some 81, .bin .neq 0 (.t 80) (.c (.lit (.int .i64 0))), none⟩] [80]) (.cond (.t 81) (.seq (.reg false [⟨some 82, .mv (.t 8), none⟩, ⟨some 4, .as (.t 82), none⟩] [82]) (.ret)) (.skip))))) (.reg false [⟨some 67, .mv (.t 7), none⟩, ⟨some 68, .bin .add 0 (.t 67) (.c (.lit (.int .i64 1))), none⟩, ⟨some 7, .as (.t 68), none⟩] [67, 68])))))) (.seq (.reg false [⟨some 83, .fa 3 (.t 2), none⟩, ⟨some 84, .ld false 1 (.t 83), none⟩, ⟨some 85, .len false (.t 84), none⟩, ⟨some 86, .fa 3 (.t 3), none⟩, ⟨some 87, .ld false 1 (.t 86), none⟩, ⟨some 88, .len false (.t 87), none⟩, ⟨some 89, .call false 144 [(.t 85), (.t 88)], none⟩, ⟨some 4, .as (.t 89), none⟩] [83, 84, 85, 86, 87, 88, 89]) (.ret))))))
theorem is135 : Is Go.Proofs.Tryd.prog 135 90 v135 [.t 4] := ⟨Go.Proofs.Tryd.f135, dl [(0, [4]), (1, [9, 10, 11, 12, 13, 14, 15, 16, 17, 18, 19, 20, 21, 22, 23, 24]), (3, [25]), (5, [29, 30, 31, 32]), (6, [34, 35, 36, 37]), (4, [27, 28]), (7, [38, 39, 40, 41, 42, 43, 44, 45, 46]), (8, [48, 49, 50, 51, 52, 53, 54]), (10, [55, 56, 57, 58, 59, 60, 61, 62, 63, 64, 65]), (12, [69, 70, 71, 72, 73, 74, 75, 76, 77, 78, 79]), (13, [80]), (14, [82]), (11, [67, 68]), (15, [83, 84, 85, 86, 87, 88, 89])], Go.Proofs.Tryd.func135, by kernel_rfl, by kernel_rfl, by kernel_rfl, by kernel_rfl⟩
def v144 : VC := .seq (.reg false [⟨some 4, .as (.c (.lit (.int .i64 0))), none⟩] [4]) (.seq (.block 0 (.seq (.reg false [⟨some 6, .mv (.t 0), none⟩, ⟨some 7, .mv (.t 1), none⟩, ⟨some 8, .bin .lss 0 (.t 6) (.t 7), none⟩, ⟨some 5, .as (.t 8), none⟩] [6, 7, 8]) (.cond (.t 5) (.seq (.reg false [⟨some 4, .as (.c (.lit (.int .i64 (-1)))), none⟩] []) (.ret)) (.seq (.reg false [⟨some 10, .mv (.t 0), none⟩, ⟨some 11, .mv (.t 1), none⟩, ⟨some 12, .bin .gtr 0 (.t 10) (.t 11), none⟩, ⟨some 9, .as (.t 12), none⟩] [10, 11, 12]) (.cond (.t 9) (.seq (.reg false [⟨some 4, .as (.c (.lit (.int .i64 1))), none⟩] []) (.ret)) (.skip)))))) (.seq (.reg false [⟨some 4, .as (.c (.lit (.int .i64 0))), none⟩] []) (.ret)))
theorem is144 : Is Go.Proofs.Tryd.prog 144 13 v144 [.t 4] := ⟨Go.Proofs.Tryd.f144, dl [(0, [4]), (1, [6, 7, 8]), (3, [10, 11, 12])], Go.Proofs.Tryd.func144, by kernel_rfl, by kernel_rfl, by kernel_rfl, by kernel_rfl⟩
def v153 : VC := .seq (.reg false [⟨some 4, .as (.c (.lit (.int .i64 0))), none⟩] [4]) (.seq (.block 0 (.seq (.reg false [⟨some 6, .mv (.t 0), none⟩, ⟨some 7, .mv (.t 1), none⟩, ⟨some 8, .bin .lss 0 (.t 6) (.t 7), none⟩, ⟨some 5, .as (.t 8), none⟩] [6, 7, 8]) (.cond (.t 5) (.seq (.reg false [⟨some 4, .as (.c (.lit (.int .i64 (-1)))), none⟩] []) (.ret)) (.seq (.reg false [⟨some 10, .mv (.t 0), none⟩, ⟨some 11, .mv (.t 1), none⟩, ⟨some 12, .bin .gtr 0 (.t 10) (.t 11), none⟩, ⟨some 9, .as (.t 12), none⟩] [10, 11, 12]) (.cond (.t 9) (.seq (.reg false [⟨some 4, .as (.c (.lit (.int .i64 1))), none⟩] []) (.ret)) (.skip)))))) (.seq (.reg false [⟨some 4, .as (.c (.lit (.int .i64 0))), none⟩] []) (.ret)))
theorem is153 : Is Go.Proofs.Tryd.prog 153 13 v153 [.t 4] := ⟨Go.Proofs.Tryd.f153, dl [(0, [4]), (1, [6, 7, 8]), (3, [10, 11, 12])], Go.Proofs.Tryd.func153, by kernel_rfl, by kernel_rfl, by kernel_rfl, by kernel_rfl⟩
def v145 : VC := .seq (.reg false [⟨some 4, .as (.c (.lit (.int .i64 0))), none⟩] [4]) (.seq (.reg false [⟨some 7, .mv (.t 0), none⟩, ⟨some 8, .call false 80 [(.t 7)], none⟩, ⟨some 9, .mv (.t 1), none⟩, ⟨some 10, .call false 80 [(.t 9)], none⟩, ⟨some 5, .as (.t 8), none⟩, ⟨some 6, .as (.t 10), none⟩] [7, 8, 9, 10]) (.seq (.block 0 (.seq (.reg false [⟨some 12, .mv (.t 5), none⟩, ⟨some 13, .bin .geq 0 (.t 12) (.c (.lit (.int .i64 0))), none⟩, ⟨some 14, .mv (.t 13), none⟩, ⟨some 15, .mv (.t 6), (some (14, true))⟩, ⟨some 16, .bin .geq 0 (.t 15) (.c (.lit (.int .i64 0))), (some (14, true))⟩, ⟨some 17, .pick (.t 14) (.t 16) (.c (.lit (.bool false))), none⟩, ⟨some 11, .as (.t 17), none⟩] [12, 13, 14, 15, 16, 17]) (.cond (.t 11) (.seq (.reg false [⟨some 18, .mv (.t 5), none⟩, ⟨some 19, .mv (.t 6), none⟩, ⟨some 20, .call false 144 [(.t 18), (.t 19)], none⟩, ⟨some 4, .as (.t 20), none⟩] [18, 19, 20]) (.ret)) (.seq (.reg false [⟨some 22, .mv (.t 5), none⟩, ⟨some 23, .bin .geq 0 (.t 22) (.c (.lit (.int .i64 0))), none⟩, ⟨some 21, .as (.t 23), none⟩] [22, 23]) (.cond (.t 21) (.seq (.reg false [⟨some 4, .as (.c (.lit (.int .i64 (-1)))), none⟩] []) (.ret)) (.seq (.reg false [⟨some 25, .mv (.t 6), none⟩, ⟨some 26, .bin .geq 0 (.t 25) (.c (.lit (.int .i64 0))), none⟩, ⟨some 24, .as (.t 26), none⟩] [25, 26]) (.cond (.t 24) (.seq (.reg false [⟨some 4, .as (.c (.lit (.int .i64 1))), none⟩] []) (.ret)) (.skip)))))))) (.seq (.reg false [⟨some 27, .mv (.t 0), none⟩, ⟨some 28, .mv (.t 1), none⟩, ⟨some 29, .call false 153 [(.t 27), (.t 28)], none⟩, ⟨some 4, .as (.t 29), none⟩] [27, 28, 29]) (.ret))))
theorem is145 : Is Go.Proofs.Tryd.prog 145 30 v145 [.t 4] := ⟨Go.Proofs.Tryd.f145, dl [(0, [4]), (1, [7, 8, 9, 10]), (2, [12, 13, 14, 15, 16, 17]), (4, [22, 23]), (6, [25, 26]), (3, [18, 19, 20]), (8, [27, 28, 29])], Go.Proofs.Tryd.func145, by kernel_rfl, by kernel_rfl, by kernel_rfl, by kernel_rfl⟩
def cmpI (a b : Int) : Int := if a < b then -1 else if b < a then 1 else 0
def cmpS (a b : ByteArray) : Int := if slt a b = true then -1 else if a = b then 0 else 1
noncomputable def cmpP (a b : ByteArray) : Int := if 0 ≤ readDec a then (if 0 ≤ readDec b then cmpI (readDec a) (readDec b) else -1) else if 0 ≤ readDec b then 1 else cmpS a b
noncomputable def cmpL : List ByteArray → List ByteArray → Int
  | a :: r, b :: t => if cmpP a b ≠ 0 then cmpP a b else cmpL r t
  | l, m => cmpI l.length m.length
noncomputable def cmpV (a b : Ver) : Int := if cmpI a.maj b.maj ≠ 0 then cmpI a.maj b.maj else if cmpI a.min b.min ≠ 0 then cmpI a.min b.min else if cmpI a.pat b.pat ≠ 0 then cmpI a.pat b.pat else if a.pre = [] ∨ b.pre = [] then cmpI b.pre.length a.pre.length else cmpL a.pre b.pre
theorem cmpI_self (a : Int) : cmpI a a = 0 := by unfold cmpI; rw [if_neg (by omega), if_neg (by omega)]
theorem cmpI_succ (a : Int) : cmpI (a + 1) a = 1 := by unfold cmpI; rw [if_neg (by omega), if_pos (by omega)]
theorem cmpI_shift (a b c : Int) : cmpI (a + c) (b + c) = cmpI a b := by
  unfold cmpI
  by_cases h1 : a < b
  · rw [if_pos h1, if_pos (by omega)]
  · rw [if_neg h1, if_neg (by omega)]
    by_cases h2 : b < a
    · rw [if_pos h2, if_pos (by omega)]
    · rw [if_neg h2, if_neg (by omega)]
theorem cmpL_end {l m : List ByteArray} (h : l = [] ∨ m = []) : cmpL l m = cmpI l.length m.length := by
  rcases h with rfl | rfl
  · cases m <;> rfl
  · cases l <;> rfl
/-- the next version of a part, without texts behind -/
def nextV (v : Ver) (p : Int) : Ver := if p = 0 then ⟨v.maj + 1, 0, 0, []⟩ else if p = 1 then ⟨v.maj, v.min + 1, 0, []⟩ else ⟨v.maj, v.min, v.pat + 1, []⟩
noncomputable def nextRes (v : Ver) (p : Int) : AV := if verOk (nextV v p) = true then .agg [.lit (.int .i64 (nextV v p).maj), .lit (.int .i64 (nextV v p).min), .lit (.int .i64 (nextV v p).pat), .sl ⟨.nl, true⟩ 1 []] else .agg [.lit (.int .i64 v.maj), .lit (.int .i64 v.min), .lit (.int .i64 v.pat), .sl ⟨.no, false⟩ 1 []]
noncomputable def belowRes (v : Ver) (p : Int) : AV := if verOk (nextV v p) = true then .tup [.lit (.string (verT ⟨(nextV v p).maj, (nextV v p).min, (nextV v p).pat, [by8 "0"]⟩)), .lit (.bool true)] else .tup [.lit (.string (by8 "")), .lit (.bool false)]
noncomputable def aloneRes (s : ByteArray) : AV := match exactO s with
  | some p => .tup [bndV p.1 p.2, .lit (.bool true)]
  | none => .tup [bndV (by8 "") (by8 ""), .lit (.bool false)]
theorem next_greater {v : Ver} {p : Int} (hp : p = 0 ∨ p = 1 ∨ p = 2) : cmpV (nextV v p) ⟨v.maj, v.min, v.pat, []⟩ = 1 := by
  rcases hp with rfl | rfl | rfl
  · simp [nextV, cmpV, cmpI_succ]
  · simp [nextV, cmpV, cmpI_succ, cmpI_self]
  · simp [nextV, cmpV, cmpI_succ, cmpI_self]
structure CmpI (x y z : Int) (i : Nat) : Prop where
  le : i ≤ 3
  g1 : 0 < i → x = 0
  g2 : 1 < i → y = 0
  g3 : 2 < i → z = 0
theorem cmpV_self (v : Ver) : cmpV ⟨v.maj, v.min, v.pat, []⟩ ⟨v.maj, v.min, v.pat, []⟩ = 0 := by simp [cmpV, cmpI_self]
section
variable {E : Env} (hE : E.P = Go.Proofs.Tryd.prog) (hZ : ∀ w, E.K w → KZ w)
include hE
theorem l02Less_fx (a b : Int) : Fx E 144 [] [.lit (.int .i64 a), .lit (.int .i64 b)] [] (.lit (.int .i64 (cmpI a b))) := by
  refine (is144.to hE).fx [] (by simp) rfl rfl ?_
  simp [v144]
  by_cases c1 : a < b
  · simp [c1]
    exact Fin_ret rfl (by rw [cmpI, if_pos c1]; rfl)
  · simp [c1]
    by_cases c2 : b < a
    · simp [c2]
      exact Fin_ret rfl (by rw [cmpI, if_neg c1, if_pos c2]; rfl)
    · simp [c2]
      exact Fin_ret rfl (by rw [cmpI, if_neg c1, if_neg c2]; rfl)
theorem l02Texts_fx (a b : ByteArray) : Fx E 153 [] [.lit (.string a), .lit (.string b)] [] (.lit (.int .i64 (cmpS a b))) := by
  refine (is153.to hE).fx [] (by simp) rfl rfl ?_
  simp [v153]
  cases c1 : slt a b
  · simp
    by_cases c2 : a = b
    · have hc : cmpS a b = 0 := by rw [cmpS, c1, if_neg (by simp), if_pos c2]
      rw [hc]
      subst c2
      simp [c1]
      exact Fin_ret rfl rfl
    · have hc : cmpS a b = 1 := by rw [cmpS, c1, if_neg (by simp), if_neg c2]
      rw [hc]
      simp [c1, c2]
      exact Fin_ret rfl rfl
  · simp
    exact Fin_ret rfl (by rw [cmpS, if_pos c1]; rfl)
theorem l02Part_fx (a b : ByteArray) (ha : a.size ≤ 9223372036854775806) (hb : b.size ≤ 9223372036854775806) : Fx E 145 [] [.lit (.string a), .lit (.string b)] [] (.lit (.int .i64 (cmpP a b))) := by
  refine (is145.to hE).fx [] (by simp) rfl rfl ?_
  simp [v145]
  refine vcall_go (specReadDec_fx hE a ha) (by simp) (by simp) (by simp) (by simp) ?_
  simp
  refine vcall_go (specReadDec_fx hE b hb) (by simp) (by simp) (by simp) (by simp) ?_
  have hc : cmpP a b = if 0 ≤ readDec a then (if 0 ≤ readDec b then cmpI (readDec a) (readDec b) else -1) else if 0 ≤ readDec b then 1 else cmpS a b := rfl
  obtain ⟨x, hx⟩ : ∃ x, readDec a = x := ⟨_, rfl⟩
  obtain ⟨y, hy⟩ : ∃ y, readDec b = y := ⟨_, rfl⟩
  rw [hx, hy] at hc
  rw [hx, hy]
  simp
  by_cases c1 : 0 ≤ x
  · simp [c1]
    by_cases c2 : 0 ≤ y
    · simp [c2]
      refine vcall_go (l02Less_fx hE x y) (by simp) (by simp) (by simp) (by simp) ?_
      simp
      exact Fin_ret rfl (by rw [hc, if_pos c1, if_pos c2]; rfl)
    · simp [c1, c2]
      exact Fin_ret rfl (by rw [hc, if_pos c1, if_neg c2]; rfl)
  · simp [c1]
    by_cases c2 : 0 ≤ y
    · simp [c1, c2]
      exact Fin_ret rfl (by rw [hc, if_neg c1, if_pos c2]; rfl)
    · simp [c1, c2]
      refine vcall_go (l02Texts_fx hE a b) (by simp) (by simp) (by simp) (by simp) ?_
      simp
      exact Fin_ret rfl (by rw [hc, if_neg c1, if_neg c2]; rfl)
set_option maxHeartbeats 2000000 in
theorem specCmp_fx (a b : Ver) (la : a.pre.length ≤ 4294967296) (lb : b.pre.length ≤ 4294967296) (ha : ∀ p ∈ a.pre, p.size ≤ 4294967296) (hb : ∀ p ∈ b.pre, p.size ≤ 4294967296) : Fx E 135 [] [.agg a.av, .agg b.av] [] (.lit (.int .i64 (cmpV a b))) := by
  have hav : a.av = [.lit (.int .i64 a.maj), .lit (.int .i64 a.min), .lit (.int .i64 a.pat), .sl ro 1 (a.pre.map fun x => .lit (.string x))] := rfl
  have hbv : b.av = [.lit (.int .i64 b.maj), .lit (.int .i64 b.min), .lit (.int .i64 b.pat), .sl ro 1 (b.pre.map fun x => .lit (.string x))] := rfl
  have hcv : cmpV a b = if cmpI a.maj b.maj ≠ 0 then cmpI a.maj b.maj else if cmpI a.min b.min ≠ 0 then cmpI a.min b.min else if cmpI a.pat b.pat ≠ 0 then cmpI a.pat b.pat else if a.pre = [] ∨ b.pre = [] then cmpI b.pre.length a.pre.length else cmpL a.pre b.pre := rfl
  refine (is135.to hE).fx [] (by simp) rfl rfl ?_
  simp [v135, hav, hbv, okC]
  refine vcall_go (l02Less_fx hE a.maj b.maj) (by simp) (by simp) (by simp) (by simp) ?_
  simp
  refine vcall_go (l02Less_fx hE a.min b.min) (by simp) (by simp) (by simp) (by simp) ?_
  simp
  refine vcall_go (l02Less_fx hE a.pat b.pat) (by simp) (by simp) (by simp) (by simp) ?_
  obtain ⟨x, hx⟩ : ∃ x, cmpI a.maj b.maj = x := ⟨_, rfl⟩
  obtain ⟨y, hy⟩ : ∃ y, cmpI a.min b.min = y := ⟨_, rfl⟩
  obtain ⟨z, hz⟩ : ∃ z, cmpI a.pat b.pat = z := ⟨_, rfl⟩
  rw [hx, hy, hz] at hcv
  rw [hx, hy, hz]
  simp [okC, frA, frA.frL]
  refine X_loop (τ := Nat) (fun i => ⟨[(2, .ptr 1002 0 0), (3, .ptr 1003 0 0), (5, .sl ⟨.no, true⟩ 1 [.lit (.int .i64 x), .lit (.int .i64 y), .lit (.int .i64 z)]), (6, .lit (.int .i64 i))], [(1002, [.agg a.av]), (1003, [.agg b.av])]⟩) (CmpI x y z) (fun i => 3 - i) 0 ⟨by omega, fun h => by omega, fun h => by omega, fun h => by omega⟩ (Wk.both (by simp [wkL, wkV.same]; exact wkV_no _ _ _ _) (by simp [wkB, hav, hbv])) ?_
  rintro i ⟨hi, g1, g2, g3⟩
  simp [hav, hbv]
  match i, hi with
  | 0, _ =>
    simp [mkF]
    by_cases c : x = 0
    · have hn : CmpI x y z 1 := ⟨by omega, fun _ => c, fun h => by omega, fun h => by omega⟩
      rw [c] at hn
      simp [c]
      exact ⟨1, hn, by omega, Wk.both (by simp [wkL, wkV.same, c]; rw [wrap_i64 (by omega) (by omega)]; exact wkV.same _) (by simp [wkB, hav, hbv])⟩
    · simp [c]
      exact Fin_ret rfl (by rw [hcv, if_pos c]; rfl)
  | 1, _ =>
    have k1 := g1 (by omega)
    simp [mkF]
    by_cases c : y = 0
    · have hn : CmpI x y z 2 := ⟨by omega, fun _ => k1, fun _ => c, fun h => by omega⟩
      rw [c] at hn
      simp [c]
      exact ⟨2, hn, by omega, Wk.both (by simp [wkL, wkV.same, c]; rw [wrap_i64 (by omega) (by omega)]; exact wkV.same _) (by simp [wkB, hav, hbv])⟩
    · simp [c]
      exact Fin_ret rfl (by rw [hcv, if_neg (by simp [k1]), if_pos c]; rfl)
  | 2, _ =>
    have k1 := g1 (by omega)
    have k2 := g2 (by omega)
    simp [mkF]
    by_cases c : z = 0
    · have hn : CmpI x y z 3 := ⟨by omega, fun _ => k1, fun _ => k2, fun _ => c⟩
      rw [c] at hn
      simp [c]
      exact ⟨3, hn, by omega, Wk.both (by simp [wkL, wkV.same, c]; rw [wrap_i64 (by omega) (by omega)]; exact wkV.same _) (by simp [wkB, hav, hbv])⟩
    · simp [c]
      exact Fin_ret rfl (by rw [hcv, if_neg (by simp [k1]), if_neg (by simp [k2]), if_pos c]; rfl)
  | 3, _ =>
    have k1 := g1 (by omega)
    have k2 := g2 (by omega)
    have k3 := g3 (by omega)
    rw [if_neg (by simp [k1]), if_neg (by simp [k2]), if_neg (by simp [k3])] at hcv
    simp
    have tail : ∀ {Q : Ex → AS → Prop} {l : Lk Q}, True := fun {_ _} => trivial
    by_cases c1 : a.pre = []
    · rw [if_pos (.inl c1)] at hcv
      simp [c1]
      refine vcall_go (l02Less_fx hE b.pre.length 0) (by simp) (by simp) (by simp) (by simp) ?_
      simp
      exact Fin_ret rfl (by rw [hcv, c1]; rfl)
    · have c1' : ¬ (a.pre.length : Int) = 0 := fun h => c1 (List.eq_nil_of_length_eq_zero (by omega))
      simp [c1]
      by_cases c2 : b.pre = []
      · rw [if_pos (.inr c2)] at hcv
        simp [c2]
        refine vcall_go (l02Less_fx hE 0 a.pre.length) (by simp) (by simp) (by simp) (by simp) ?_
        simp
        exact Fin_ret rfl (by rw [hcv, c2]; rfl)
      · rw [if_neg (by rintro (h | h); exact c1 h; exact c2 h)] at hcv
        simp [c2]
        refine X_loop (τ := Nat) (fun i => ⟨[(2, .ptr 1002 0 0), (3, .ptr 1003 0 0), (7, .lit (.int .i64 i))], [(1002, [.agg a.av]), (1003, [.agg b.av])]⟩) (fun i => i ≤ a.pre.length ∧ i ≤ b.pre.length ∧ cmpL a.pre b.pre = cmpL (a.pre.drop i) (b.pre.drop i)) (fun i => a.pre.length - i) 0 (by simp) (Wk.both (by simp [wkL, wkV.same]) (by simp [wkB, hav, hbv])) ?_
        rintro i ⟨hi, hj, hcl⟩
        simp [hav, hbv]
        by_cases l1 : i < a.pre.length
        · simp [l1]
          by_cases l2 : i < b.pre.length
          · rw [List.drop_eq_getElem_cons l1, List.drop_eq_getElem_cons l2] at hcl
            simp only [cmpL] at hcl
            have za := ha _ (List.getElem_mem l1)
            have zb := hb _ (List.getElem_mem l2)
            simp [l1, l2, mkF]
            refine vcall_go (l02Part_fx hE a.pre[i] b.pre[i] (by omega) (by omega)) (by simp) (by simp) (by simp) (by simp) ?_
            simp
            by_cases c3 : cmpP a.pre[i] b.pre[i] = 0
            · rw [if_neg (by simp [c3])] at hcl
              simp [c3]
              exact ⟨i + 1, ⟨by omega, by omega, hcl⟩, by omega, Wk.both (by simp [wkL, wkV.same]; rw [wrapN (by omega)]; exact wkV.same _) (by simp [wkB, hav, hbv])⟩
            · rw [if_pos c3] at hcl
              simp [c3]
              exact Fin_ret rfl (by rw [hcv, hcl]; rfl)
          · obtain rfl : i = b.pre.length := by omega
            rw [cmpL_end (.inr (List.drop_of_length_le (Nat.le_refl _))), List.length_drop, List.length_drop] at hcl
            simp
            refine vcall_go (l02Less_fx hE a.pre.length b.pre.length) (by simp) (by simp) (by simp) (by simp) ?_
            simp
            refine Fin_ret rfl ?_
            have := cmpI_shift ((a.pre.length - b.pre.length : Nat) : Int) ((b.pre.length - b.pre.length : Nat) : Int) b.pre.length
            rw [hcv, hcl, ← this, show ((a.pre.length - b.pre.length : Nat) : Int) + b.pre.length = a.pre.length by omega, show ((b.pre.length - b.pre.length : Nat) : Int) + b.pre.length = b.pre.length by omega]
            rfl
        · obtain rfl : i = a.pre.length := by omega
          rw [cmpL_end (.inl (List.drop_of_length_le (Nat.le_refl _))), List.length_drop, List.length_drop] at hcl
          simp
          refine vcall_go (l02Less_fx hE a.pre.length b.pre.length) (by simp) (by simp) (by simp) (by simp) ?_
          simp
          refine Fin_ret rfl ?_
          have := cmpI_shift ((a.pre.length - a.pre.length : Nat) : Int) ((b.pre.length - a.pre.length : Nat) : Int) a.pre.length
          rw [hcv, hcl, ← this, show ((a.pre.length - a.pre.length : Nat) : Int) + a.pre.length = a.pre.length by omega, show ((b.pre.length - a.pre.length : Nat) : Int) + a.pre.length = b.pre.length by omega]
          rfl
set_option maxHeartbeats 2000000 in
theorem specNext_fx (a b c : Nat) (h1 : a ≤ 999999999) (h2 : b ≤ 999999999) (h3 : c ≤ 999999999) (p : Int) (hp : p = 0 ∨ p = 1 ∨ p = 2) : Fx E 134 [] [.agg (Ver.av ⟨a, b, c, []⟩), .lit (.int .i64 p)] [] (nextRes ⟨a, b, c, []⟩ p) := by
  have hok : verOk ⟨a, b, c, []⟩ = true := by simp [verOk, inR]; omega
  have hres : resOk (nextRes ⟨a, b, c, []⟩ p) = true := by unfold nextRes; split <;> rfl
  refine (is134.to hE).fx [] (by simp) rfl hres ?_
  simp [v134, Ver.av, okC, putElem, upd, fill, ro, frA, frA.frL, mkF, AS.dem, mapV, dem, dem.demL]
  refine vcall_go (specVerOk_fx hE ⟨a, b, c, []⟩ (by simp) (by simp)) (by simp [Ver.av, ro]) (by simp) (by simp) (by simp) ?_
  rw [hok]
  simp
  refine vcall_go (l01In_fx hE p 0 2) (by simp) (by simp) (by simp) (by simp) ?_
  have hin : inR p 0 2 = true := by simp [inR]; omega
  rw [hin]
  simp
  rcases hp with rfl | rfl | rfl
  · have hn : nextV ⟨a, b, c, []⟩ 0 = ⟨(a : Int) + 1, 0, 0, []⟩ := rfl
    simp [okC, putElem, upd]
    rw [wrap_i64 (i := (a : Int) + 1) (by omega) (by omega)]
    refine vcall_go (specVerOk_fx hE ⟨(a : Int) + 1, 0, 0, []⟩ (by simp) (by simp)) (by simp [Ver.av, ro]) (by simp) (by simp) (by simp) ?_
    simp
    cases ho : verOk ⟨(a : Int) + 1, 0, 0, []⟩
    · simp [okC, putElem, upd]
      exact Fin_ret rfl (by rw [nextRes, hn, if_neg (by simp [ho])]; rfl)
    · simp [okC, putElem, upd]
      exact Fin_ret rfl (by rw [nextRes, hn, if_pos ho]; rfl)
  · have hn : nextV ⟨a, b, c, []⟩ 1 = ⟨(a : Int), (b : Int) + 1, 0, []⟩ := rfl
    simp [okC, putElem, upd]
    rw [wrap_i64 (i := (b : Int) + 1) (by omega) (by omega)]
    refine vcall_go (specVerOk_fx hE ⟨(a : Int), (b : Int) + 1, 0, []⟩ (by simp) (by simp)) (by simp [Ver.av, ro]) (by simp) (by simp) (by simp) ?_
    simp
    cases ho : verOk ⟨(a : Int), (b : Int) + 1, 0, []⟩
    · simp [okC, putElem, upd]
      exact Fin_ret rfl (by rw [nextRes, hn, if_neg (by simp [ho])]; rfl)
    · simp [okC, putElem, upd]
      exact Fin_ret rfl (by rw [nextRes, hn, if_pos ho]; rfl)
  · have hn : nextV ⟨a, b, c, []⟩ 2 = ⟨(a : Int), (b : Int), (c : Int) + 1, []⟩ := rfl
    simp [okC, putElem, upd]
    rw [wrap_i64 (i := (c : Int) + 1) (by omega) (by omega)]
    refine vcall_go (specVerOk_fx hE ⟨(a : Int), (b : Int), (c : Int) + 1, []⟩ (by simp) (by simp)) (by simp [Ver.av, ro]) (by simp) (by simp) (by simp) ?_
    simp
    cases ho : verOk ⟨(a : Int), (b : Int), (c : Int) + 1, []⟩
    · simp [okC, putElem, upd]
      exact Fin_ret rfl (by rw [nextRes, hn, if_neg (by simp [ho])]; rfl)
    · simp [okC, putElem, upd]
      exact Fin_ret rfl (by rw [nextRes, hn, if_pos ho]; rfl)
set_option maxHeartbeats 2000000 in
theorem specBelow_fx (v : Ver) (hv : verOk v = true) (p : Int) (hp : p = 0 ∨ p = 1 ∨ p = 2) : Fx E 114 [] [.agg v.av, .lit (.int .i64 p)] [] (belowRes v p) := by
  obtain ⟨⟨a, e1, h1⟩, ⟨b, e2, h2⟩, ⟨c, e3, h3⟩, h4, h5⟩ := verOk_b hv
  obtain ⟨maj, min, pat, pre⟩ := v
  simp only at e1 e2 e3 h4 h5
  subst e1 e2 e3
  have hres : resOk (belowRes ⟨a, b, c, pre⟩ p) = true := by unfold belowRes; split <;> rfl
  have hg := next_greater (v := ⟨a, b, c, pre⟩) hp
  have hs := cmpV_self ⟨a, b, c, pre⟩
  have hb : belowRes ⟨a, b, c, pre⟩ p = if verOk (nextV ⟨a, b, c, pre⟩ p) = true then .tup [.lit (.string (verT ⟨(nextV ⟨a, b, c, pre⟩ p).maj, (nextV ⟨a, b, c, pre⟩ p).min, (nextV ⟨a, b, c, pre⟩ p).pat, [by8 "0"]⟩)), .lit (.bool true)] else .tup [.lit (.string (by8 "")), .lit (.bool false)] := rfl
  have hnx := specNext_fx hE a b c h1 h2 h3 p hp
  have hpre : (nextV ⟨a, b, c, pre⟩ p).pre = [] := by
    rcases hp with rfl | rfl | rfl <;> rfl
  have hnr : nextRes ⟨a, b, c, []⟩ p = if verOk (nextV ⟨a, b, c, pre⟩ p) = true then .agg [.lit (.int .i64 (nextV ⟨a, b, c, pre⟩ p).maj), .lit (.int .i64 (nextV ⟨a, b, c, pre⟩ p).min), .lit (.int .i64 (nextV ⟨a, b, c, pre⟩ p).pat), .sl ⟨.nl, true⟩ 1 []] else .agg [.lit (.int .i64 a), .lit (.int .i64 b), .lit (.int .i64 c), .sl ⟨.no, false⟩ 1 []] := rfl
  rw [hnr] at hnx
  obtain ⟨n, hn⟩ : ∃ n, nextV ⟨a, b, c, pre⟩ p = n := ⟨_, rfl⟩
  rw [hn] at hg hb hnx hpre
  obtain ⟨n1, n2, n3, n4⟩ := n
  simp only at hpre
  subst hpre
  refine (is114.to hE).fx [] (by simp) rfl hres ?_
  simp [v114, Ver.av, okC, putElem, upd, frA, frA.frL]
  cases ho : verOk ⟨n1, n2, n3, []⟩
  · rw [ho, if_neg (by simp)] at hb hnx
    refine vcall_go hnx (by simp [Ver.av, ro]) (by simp) (by simp) (by simp) ?_
    simp [okC, putElem, upd]
    refine vcall_go (specCmp_fx hE ⟨a, b, c, []⟩ ⟨a, b, c, []⟩ (by simp) (by simp) (by simp) (by simp)) (by simp [Ver.av, ro]) (by simp) (by simp) (by simp) ?_
    rw [hs]
    simp
    exact Fin_ret2 rfl (by rw [hb]; rfl)
  · rw [ho, if_pos rfl] at hb hnx
    refine vcall_go hnx (by simp [Ver.av, ro]) (by simp) (by simp) (by simp) ?_
    simp [okC, putElem, upd]
    refine vcall_go (specCmp_fx hE ⟨n1, n2, n3, []⟩ ⟨a, b, c, []⟩ (by simp) (by simp) (by simp) (by simp)) (by simp [Ver.av, ro]) (by simp) (by simp) (by simp) ?_
    rw [hg]
    simp [okC, putElem, upd, frA, frA.frL]
    have es : (by8 "0").size = 1 := by decide +kernel
    refine vcall_go (specVerT_fx hE ⟨n1, n2, n3, [by8 "0"]⟩ (by simp) (by simp [es])) (by simp [Ver.av, ro]) (by simp) (by simp) (by simp) ?_
    simp
    exact Fin_ret2 rfl (by rw [hb]; rfl)
set_option maxHeartbeats 2000000 in
theorem specAlone_fx (s : ByteArray) (hs : s.size ≤ 1073741824) : Fx E 89 [] [.lit (.string s)] [] (aloneRes s) := by
  have hres : resOk (aloneRes s) = true := by unfold aloneRes; cases exactO s <;> rfl
  refine (is89.to hE).fx [] (by simp) rfl hres ?_
  simp [v89, okC]
  refine vcall_go (specReadVer_fx hE s (by omega)) (by simp) (by simp) (by simp) (by simp) ?_
  unfold verRes
  cases hr : readVer s with
  | none =>
    have hx : exactO s = none := by rw [exactO, hr]
    simp [verNone, okC, putElem, upd, fill]
    exact Fin_ret2 rfl (by rw [aloneRes, hx]; rfl)
  | some v =>
    obtain ⟨ho, ht⟩ := ver_back hr
    have hx : exactO s = if exHigh v = by8 "" then none else some (s, exHigh v) := by rw [exactO, hr]
    have hlen := (verOk_b ho).len
    rcases apS_cases s with h | h
    all_goals
      by_cases hp : v.pre = []
      · have hh : exHigh v = verT ⟨v.maj, v.min, v.pat + 1, [by8 "0"]⟩ := by rw [exHigh, if_pos hp]
        have hbl := specBelow_fx hE v ho 2 (by simp)
        have hn : nextV v 2 = ⟨v.maj, v.min, v.pat + 1, []⟩ := rfl
        rw [belowRes, hn] at hbl
        simp [verSome, okC, putElem, upd, h, hp]
        cases hk : verOk ⟨v.maj, v.min, v.pat + 1, []⟩
        · rw [hk, if_neg (by simp)] at hbl
          have hnl : exHigh v = by8 "" := by rw [hh, verT_nil, verOk_pre0, hk]
          rw [if_pos hnl] at hx
          refine vcall_go hbl (by simp [Ver.av, ro, hp]) (by simp) (by simp) (by simp) ?_
          simp [okC, putElem, upd, fill]
          exact Fin_ret2 rfl (by rw [aloneRes, hx]; rfl)
        · rw [hk, if_pos rfl] at hbl
          have hnl : ¬ exHigh v = by8 "" := by rw [hh, verT_nil, verOk_pre0, hk]; simp
          rw [if_neg hnl] at hx
          refine vcall_go hbl (by simp [Ver.av, ro, hp]) (by simp) (by simp) (by simp) ?_
          simp [okC, putElem, upd, fill]
          exact Fin_ret2 rfl (by rw [aloneRes, hx, hh]; rfl)
      · have hh : exHigh v = verT v.app0 := by rw [exHigh, if_neg hp]
        have hd := ver_dot hr hp
        have e2 : (by8 ".0").size = 2 := by decide +kernel
        have hp0 : 0 < v.pre.length := List.length_pos_iff.2 hp
        simp [verSome, okC, putElem, upd, h, hp, hp0]
        refine ⟨by omega, ?_⟩
        refine vcall_go (specReadVer_fx hE (s ++ by8 ".0") (by rw [ByteArray.size_append]; omega)) (by simp) (by simp) (by simp) (by simp) ?_
        unfold verRes
        cases hk : verOk v.app0
        · rw [hk, if_neg (by simp)] at hd
          have hnl : exHigh v = by8 "" := by rw [hh, verT_nil, hk]
          rw [if_pos hnl] at hx
          rw [hd]
          simp [verNone, okC, putElem, upd, fill]
          exact Fin_ret2 rfl (by rw [aloneRes, hx]; rfl)
        · rw [hk, if_pos rfl] at hd
          have hnl : ¬ exHigh v = by8 "" := by rw [hh, verT_nil, hk]; simp
          rw [if_neg hnl] at hx
          have ht2 := (ver_back hd).2
          rw [hd]
          rcases apS_cases (s ++ by8 ".0") with h2 | h2
          all_goals
            simp [verSome, okC, putElem, upd, fill, h2]
            exact Fin_ret2 rfl (by rw [aloneRes, hx, hh, ht2]; rfl)
theorem specExact_fx (s : ByteArray) (hs : s.size ≤ 1073741824) : Fx E 65 [] [.lit (.string s)] [] (exactRes s) := by
  have hres : resOk (exactRes s) = true := by unfold exactRes; cases exactO s <;> rfl
  refine (is65.to hE).fx [] (by simp) rfl hres ?_
  simp [v65, okC]
  refine vcall_go (specAlone_fx hE s hs) (by simp) (by simp) (by simp) (by simp) ?_
  unfold aloneRes exactRes
  cases exactO s with
  | none =>
    simp [bndV, okC, putElem, upd, fill]
    exact Fin_ret rfl rfl
  | some p =>
    simp [bndV, okC, putElem, upd, fill, frA, frA.frL]
    exact Fin_ret rfl rfl
include hZ
end
end Go.Proofs.YtgegcfhifojjiaaDoor.Vm
