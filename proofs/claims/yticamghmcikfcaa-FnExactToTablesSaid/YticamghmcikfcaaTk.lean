/- Keys split, sums in digits, short names: both sides. -/
import Derived.Test.YticamghmcikfcaaGmt
import Derived.Test.YticamghmcikfcaaSf
namespace Go.Proofs.Yticamghmcikfcaa.Vm
open Go Go.RowKit
set_option linter.unusedVariables false
set_option linter.unusedSimpArgs false
def v52 : VC := .seq (.reg false [⟨some 4, .as (.c (.lit (.int .i64 0))), none⟩] [4]) (.seq (.reg false [⟨some 6, .mv (.t 1), none⟩, ⟨some 7, .len true (.t 6), none⟩, ⟨some 5, .as (.t 7), none⟩] [6, 7]) (.seq (.block 0 (.seq (.reg false [⟨some 9, .mv (.t 5), none⟩, ⟨some 10, .bin .eql 0 (.t 9) (.c (.lit (.int .i64 0))), none⟩, ⟨some 8, .as (.t 10), none⟩] [9, 10]) (.cond (.t 8) (.seq (.reg false [⟨some 11, .mv (.t 0), none⟩, ⟨some 12, .len true (.t 11), none⟩, ⟨some 4, .as (.t 12), none⟩] [11, 12]) (.ret)) (.seq (.reg false [⟨some 14, .mv (.t 5), none⟩, ⟨some 15, .bin .eql 0 (.t 14) (.c (.lit (.int .i64 1))), none⟩, ⟨some 13, .as (.t 15), none⟩] [14, 15]) (.cond (.t 13) (.seq (.reg false [⟨some 16, .mv (.t 0), none⟩, ⟨some 17, .mv (.t 1), none⟩, ⟨some 18, .idx (.t 17) (.c (.lit (.int .i64 0))), none⟩, ⟨some 19, .call false 54 [(.t 16), (.t 18)], none⟩, ⟨some 4, .as (.t 19), none⟩] [16, 17, 18, 19]) (.ret)) (.seq (.reg false [⟨some 21, .mv (.t 5), none⟩, ⟨some 22, .mv (.t 0), none⟩, ⟨some 23, .len true (.t 22), none⟩, ⟨some 24, .bin .eql 0 (.t 21) (.t 23), none⟩, ⟨some 20, .as (.t 24), none⟩] [21, 22, 23, 24]) (.cond (.t 20) (.seq (.seq (.reg false [⟨some 25, .mv (.t 1), none⟩, ⟨some 26, .mv (.t 0), none⟩, ⟨some 27, .bin .eql 0 (.t 25) (.t 26), none⟩] [25, 26]) (.cond (.t 27) (.seq (.reg false [⟨some 4, .as (.c (.lit (.int .i64 0))), none⟩] []) (.ret)) (.skip))) (.seq (.reg false [⟨some 4, .as (.c (.lit (.int .i64 (-1)))), none⟩] []) (.ret))) (.seq (.reg false [⟨some 29, .mv (.t 5), none⟩, ⟨some 30, .mv (.t 0), none⟩, ⟨some 31, .len true (.t 30), none⟩, ⟨some 32, .bin .gtr 0 (.t 29) (.t 31), none⟩, ⟨some 28, .as (.t 32), none⟩] [29, 30, 31, 32]) (.cond (.t 28) (.seq (.reg false [⟨some 4, .as (.c (.lit (.int .i64 (-1)))), none⟩] []) (.ret)) (.skip)))))))))) (.seq (.reg false [⟨some 33, .mv (.t 0), none⟩, ⟨some 34, .mv (.t 1), none⟩, ⟨some 35, .call false 55 [(.t 33), (.t 34)], none⟩, ⟨some 4, .as (.t 35), none⟩] [33, 34, 35]) (.ret))))
theorem is52 : Is Go.Proofs.Try.prog 52 36 v52 [.t 4] := ⟨Go.Proofs.Try.f52, dl [(0, [4]), (1, [6, 7]), (2, [9, 10]), (4, [14, 15]), (6, [21, 22, 23, 24]), (10, [29, 30, 31, 32]), (7, [25, 26]), (5, [16, 17, 18, 19]), (3, [11, 12]), (12, [33, 34, 35])], Go.Proofs.Try.func52, by kernel_rfl, by kernel_rfl, by kernel_rfl, by kernel_rfl⟩
def v54 : VC := .seq (.reg false [⟨some 4, .as (.c (.lit (.int .i64 0))), none⟩] [4]) (.seq (.seq (.reg false [⟨some 6, .mv (.t 0), none⟩, ⟨some 7, .len true (.t 6), none⟩, ⟨some 8, .bin .sub 0 (.t 7) (.c (.lit (.int .i64 1))), none⟩, ⟨some 5, .as (.t 8), none⟩] [6, 7, 8]) (.block 0 (.loop (.seq (.seq (.reg false [⟨some 9, .mv (.t 5), none⟩, ⟨some 10, .bin .geq 0 (.t 9) (.c (.lit (.int .i64 0))), none⟩] [9]) (.cond (.t 10) (.skip) (.exit 0))) (.seq (.block 1 (.seq (.reg false [⟨some 13, .mv (.t 0), none⟩, ⟨some 14, .mv (.t 5), none⟩, ⟨some 15, .idx (.t 13) (.t 14), none⟩, ⟨some 16, .mv (.t 1), none⟩, ⟨some 17, .bin .eql 0 (.t 15) (.t 16), none⟩] [13, 14, 15, 16]) (.cond (.t 17) (.seq (.reg false [⟨some 18, .mv (.t 5), none⟩, ⟨some 4, .as (.t 18), none⟩] [18]) (.ret)) (.skip)))) (.reg false [⟨some 11, .mv (.t 5), none⟩, ⟨some 12, .bin .sub 0 (.t 11) (.c (.lit (.int .i64 1))), none⟩, ⟨some 5, .as (.t 12), none⟩] [11, 12])))))) (.seq (.reg false [⟨some 4, .as (.c (.lit (.int .i64 (-1)))), none⟩] []) (.ret)))
theorem is54 : Is Go.Proofs.Try.prog 54 19 v54 [.t 4] := ⟨Go.Proofs.Try.f54, dl [(0, [4]), (1, [6, 7, 8]), (2, [9]), (4, [13, 14, 15, 16]), (5, [18]), (3, [11, 12])], Go.Proofs.Try.func54, by kernel_rfl, by kernel_rfl, by kernel_rfl, by kernel_rfl⟩
def v50 : VC := .seq (.reg false [⟨some 2, .as (.c (.lit (.string (by8 "")))), none⟩, ⟨some 3, .as (.c (.lit (.string (by8 "")))), none⟩] [2, 3]) (.seq (.seq (.reg false [⟨some 5, .mv (.t 0), none⟩, ⟨some 6, .len true (.t 5), none⟩, ⟨some 7, .bin .sub 0 (.t 6) (.c (.lit (.int .i64 1))), none⟩, ⟨some 4, .as (.t 7), none⟩] [5, 6, 7]) (.block 0 (.loop (.seq (.seq (.reg false [⟨some 8, .mv (.t 4), none⟩, ⟨some 9, .bin .geq 0 (.t 8) (.c (.lit (.int .i64 0))), none⟩] [8]) (.cond (.t 9) (.skip) (.exit 0))) (.seq (.block 1 (.seq (.reg false [⟨some 12, .mv (.t 0), none⟩, ⟨some 13, .mv (.t 4), none⟩, ⟨some 14, .idx (.t 12) (.t 13), none⟩, ⟨some 15, .bin .eql 0 (.t 14) (.c (.lit (.int .u8 64))), none⟩] [12, 13, 14]) (.cond (.t 15) (.seq (.reg true [⟨some 16, .mv (.t 0), none⟩, ⟨some 17, .mv (.t 4), none⟩, ⟨some 18, .slS (.t 16) none (some (.t 17)), none⟩, ⟨some 19, .mv (.t 0), none⟩, ⟨some 20, .mv (.t 4), none⟩, ⟨some 21, .bin .add 0 (.t 20) (.c (.lit (.int .i64 1))), none⟩, ⟨some 22, .slS (.t 19) (some (.t 21)) none, none⟩, ⟨some 2, .as (.t 18), none⟩, ⟨some 3, .as (.t 22), none⟩] [16, 17, 18, 19, 20, 21, 22]) (.ret)) (.skip)))) (.reg false [⟨some 10, .mv (.t 4), none⟩, ⟨some 11, .bin .sub 0 (.t 10) (.c (.lit (.int .i64 1))), none⟩, ⟨some 4, .as (.t 11), none⟩] [10, 11])))))) (.seq (.reg false [⟨some 2, .as (.c (.lit (.string (by8 "")))), none⟩, ⟨some 3, .as (.c (.lit (.string (by8 "")))), none⟩] []) (.ret)))
theorem is50 : Is Go.Proofs.Try.prog 50 23 v50 [.t 2, .t 3] := ⟨Go.Proofs.Try.f50, dl [(0, [2, 3]), (1, [5, 6, 7]), (2, [8]), (4, [12, 13, 14]), (5, [16, 17, 18, 19, 20, 21, 22]), (3, [10, 11])], Go.Proofs.Try.func50, by kernel_rfl, by kernel_rfl, by kernel_rfl, by kernel_rfl⟩
def v46 : VC := .seq (.reg false [⟨some 2, .as (.c (.lit (.string (by8 "")))), none⟩, ⟨some 3, .as (.c (.lit (.string (by8 "")))), none⟩] [2, 3]) (.seq (.reg false [⟨some 5, .mv (.t 0), none⟩, ⟨some 6, .call false 52 [(.t 5), (.c (.lit (.string (by8 "@"))))], none⟩, ⟨some 4, .as (.t 6), none⟩] [5, 6]) (.seq (.seq (.reg false [⟨some 7, .mv (.t 4), none⟩, ⟨some 8, .bin .lss 0 (.t 7) (.c (.lit (.int .i64 0))), none⟩] [7]) (.cond (.t 8) (.seq (.reg false [⟨some 2, .as (.c (.lit (.string (by8 "")))), none⟩, ⟨some 3, .as (.c (.lit (.string (by8 "")))), none⟩] []) (.ret)) (.skip))) (.seq (.reg true [⟨some 9, .mv (.t 0), none⟩, ⟨some 10, .mv (.t 4), none⟩, ⟨some 11, .slS (.t 9) none (some (.t 10)), none⟩, ⟨some 12, .mv (.t 0), none⟩, ⟨some 13, .mv (.t 4), none⟩, ⟨some 14, .bin .add 0 (.t 13) (.c (.lit (.int .i64 1))), none⟩, ⟨some 15, .slS (.t 12) (some (.t 14)) none, none⟩, ⟨some 2, .as (.t 11), none⟩, ⟨some 3, .as (.t 15), none⟩] [9, 10, 11, 12, 13, 14, 15]) (.ret))))
theorem is46 : Is Go.Proofs.Try.prog 46 16 v46 [.t 2, .t 3] := ⟨Go.Proofs.Try.f46, dl [(0, [2, 3]), (1, [5, 6]), (2, [7]), (4, [9, 10, 11, 12, 13, 14, 15])], Go.Proofs.Try.func46, by kernel_rfl, by kernel_rfl, by kernel_rfl, by kernel_rfl⟩
def v43 : VC := .seq (.reg false [⟨some 2, .as (.c (.lit (.string (by8 "")))), none⟩] [2]) (.seq (.reg false [⟨some 5, .bsl 1 [], none⟩, ⟨some 3, .as (.t 5), none⟩] [5]) (.seq (.seq (.reg false [⟨some 4, .as (.c (.lit (.int .i64 0))), none⟩] []) (.block 0 (.loop (.seq (.seq (.reg false [⟨some 6, .mv (.t 4), none⟩, ⟨some 7, .mv (.t 0), none⟩, ⟨some 8, .len true (.t 7), none⟩, ⟨some 9, .bin .lss 0 (.t 6) (.t 8), none⟩] [6, 7, 8]) (.cond (.t 9) (.skip) (.exit 0))) (.seq (.block 1 (.reg true [⟨some 12, .mv (.t 3), none⟩, ⟨some 13, .mv (.t 0), none⟩, ⟨some 14, .mv (.t 4), none⟩, ⟨some 15, .idx (.t 13) (.t 14), none⟩, ⟨some 16, .bin .quo 0 (.t 15) (.c (.lit (.int .u8 16))), none⟩, ⟨some 17, .idx (.c (.lit (.string (by8 "0123456789abcdef")))) (.t 16), none⟩, ⟨some 18, .mv (.t 0), none⟩, ⟨some 19, .mv (.t 4), none⟩, ⟨some 20, .idx (.t 18) (.t 19), none⟩, ⟨some 21, .bin .rem 0 (.t 20) (.c (.lit (.int .u8 16))), none⟩, ⟨some 22, .idx (.c (.lit (.string (by8 "0123456789abcdef")))) (.t 21), none⟩, ⟨some 23, .bsl 1 [(.t 17), (.t 22)], none⟩, ⟨some 24, .app 1 1 (.t 12) (.t 23), none⟩, ⟨some 3, .as (.t 24), none⟩] [12, 13, 14, 15, 16, 17, 18, 19, 20, 21, 22, 23, 24])) (.reg false [⟨some 10, .mv (.t 4), none⟩, ⟨some 11, .bin .add 0 (.t 10) (.c (.lit (.int .i64 1))), none⟩, ⟨some 4, .as (.t 11), none⟩] [10, 11])))))) (.seq (.reg false [⟨some 25, .mv (.t 3), none⟩, ⟨some 26, .b2s (.t 25), none⟩, ⟨some 2, .as (.t 26), none⟩] [25, 26]) (.ret))))
theorem is43 : Is Go.Proofs.Try.prog 43 27 v43 [.t 2] := ⟨Go.Proofs.Try.f43, dl [(0, [2]), (1, [5]), (3, [6, 7, 8]), (5, [12, 13, 14, 15, 16, 17, 18, 19, 20, 21, 22, 23, 24]), (4, [10, 11]), (6, [25, 26])], Go.Proofs.Try.func43, by kernel_rfl, by kernel_rfl, by kernel_rfl, by kernel_rfl⟩
def v22 : VC := .seq (.reg false [⟨some 2, .as (.c (.lit (.string (by8 "")))), none⟩] [2]) (.seq (.reg false [⟨some 5, .bsl 1 [], none⟩, ⟨some 3, .as (.t 5), none⟩] [5]) (.seq (.seq (.reg false [⟨some 6, .mv (.t 0), none⟩, ⟨some 7, .len true (.t 6), none⟩, ⟨some 8, .mv (.c (.lit (.int .i64 0))), none⟩] [6]) (.block 0 (.loop (.seq (.reg false [⟨some 9, .bin .lss 0 (.t 8) (.t 7), none⟩] []) (.seq (.cond (.t 9) (.skip) (.exit 0)) (.seq (.block 1 (.seq (.reg false [⟨some 10, .mv (.t 8), none⟩, ⟨some 4, .as (.t 10), none⟩] [10]) (.reg true [⟨some 11, .mv (.t 3), none⟩, ⟨some 12, .mv (.t 0), none⟩, ⟨some 13, .mv (.t 4), none⟩, ⟨some 14, .idx (.t 12) (.t 13), none⟩, ⟨some 15, .bin .shr 0 (.t 14) (.c (.lit (.int .u64 4))), none⟩, ⟨some 16, .idx (.c (.lit (.string (by8 "0123456789abcdef")))) (.t 15), none⟩, ⟨some 17, .mv (.t 0), none⟩, ⟨some 18, .mv (.t 4), none⟩, ⟨some 19, .idx (.t 17) (.t 18), none⟩, ⟨some 20, .bin .and 0 (.t 19) (.c (.lit (.int .u8 15))), none⟩, ⟨some 21, .idx (.c (.lit (.string (by8 "0123456789abcdef")))) (.t 20), none⟩, ⟨some 22, .bsl 1 [(.t 16), (.t 21)], none⟩, ⟨some 23, .app 1 1 (.t 11) (.t 22), none⟩, ⟨some 3, .as (.t 23), none⟩] [11, 12, 13, 14, 15, 16, 17, 18, 19, 20, 21, 22, 23]))) (.reg false [⟨some 24, .bin .add 0 (.t 8) (.c (.lit (.int .i64 1))), none⟩, ⟨some 8, .mv (.t 24), none⟩] [24]))))))) (.seq (.reg false [⟨some 25, .mv (.t 3), none⟩, ⟨some 26, .b2s (.t 25), none⟩, ⟨some 2, .as (.t 26), none⟩] [25, 26]) (.ret))))
theorem is22 : Is Go.Proofs.Try.prog 22 27 v22 [.t 2] := ⟨Go.Proofs.Try.f22, dl [(0, [2]), (1, [5]), (2, [6]), (4, [10]), (5, [11, 12, 13, 14, 15, 16, 17, 18, 19, 20, 21, 22, 23]), (6, [24]), (7, [25, 26])], Go.Proofs.Try.func22, by kernel_rfl, by kernel_rfl, by kernel_rfl, by kernel_rfl⟩
def v44 : VC := .seq (.reg false [⟨some 2, .box 2 (.t 0), none⟩, ⟨some 4, .as (.c (.lit (.string (by8 "")))), none⟩] [4]) (.seq (.reg false [⟨some 10, .mv (.t 1), none⟩, ⟨some 11, .call false 50 [(.t 10)], none⟩, ⟨some 9, .mv (.t 11), none⟩, ⟨some 12, .ext (.t 9) 0, none⟩, ⟨some 13, .ext (.t 9) 1, none⟩, ⟨some 5, .as (.t 12), none⟩, ⟨some 6, .as (.t 13), none⟩] [10, 11, 9, 12, 13]) (.seq (.reg false [⟨some 7, .as (.c (.lit (.int .i64 0))), none⟩] []) (.seq (.seq (.reg false [⟨some 8, .as (.c (.lit (.int .i64 0))), none⟩] []) (.block 0 (.loop (.seq (.seq (.reg false [⟨some 14, .mv (.t 8), none⟩, ⟨some 15, .fa 1 (.t 2), none⟩, ⟨some 16, .ld false 1 (.t 15), none⟩, ⟨some 17, .len false (.t 16), none⟩, ⟨some 18, .bin .lss 0 (.t 14) (.t 17), none⟩] [14, 15, 16, 17]) (.cond (.t 18) (.skip) (.exit 0))) (.seq (.block 1 (.seq (.reg false [⟨some 21, .fa 1 (.t 2), none⟩, ⟨some 22, .ld false 1 (.t 21), none⟩, ⟨some 23, .mv (.t 8), none⟩, ⟨some 24, .ia 6 (.t 22) (.t 23), none⟩, ⟨some 25, .fa 0 (.t 24), none⟩, ⟨some 26, .ld false 1 (.t 25), none⟩, ⟨some 27, .mv (.t 5), none⟩, ⟨some 28, .bin .eql 0 (.t 26) (.t 27), none⟩] [21, 22, 23, 24, 25, 26, 27]) (.cond (.t 28) (.reg false [⟨some 29, .mv (.t 7), none⟩, ⟨some 30, .bin .add 0 (.t 29) (.c (.lit (.int .i64 1))), none⟩, ⟨some 7, .as (.t 30), none⟩] [29, 30]) (.skip)))) (.reg false [⟨some 19, .mv (.t 8), none⟩, ⟨some 20, .bin .add 0 (.t 19) (.c (.lit (.int .i64 1))), none⟩, ⟨some 8, .as (.t 20), none⟩] [19, 20])))))) (.seq (.seq (.reg false [⟨some 31, .mv (.t 7), none⟩, ⟨some 32, .bin .eql 0 (.t 31) (.c (.lit (.int .i64 1))), none⟩] [31]) (.cond (.t 32) (.seq (.reg false [⟨some 33, .mv (.t 5), none⟩, ⟨some 4, .as (.t 33), none⟩] [33]) (.ret)) (.skip))) (.seq (.reg false [⟨some 34, .mv (.t 5), none⟩, ⟨some 35, .bin .add 0 (.t 34) (.c (.lit (.string (by8 " ")))), none⟩, ⟨some 36, .mv (.t 6), none⟩, ⟨some 37, .bin .add 0 (.t 35) (.t 36), none⟩, ⟨some 4, .as (.t 37), none⟩] [34, 35, 36, 37]) (.ret))))))
theorem is44 : Is Go.Proofs.Try.prog 44 38 v44 [.t 4] := ⟨Go.Proofs.Try.f44, dl [(0, [4]), (1, [10, 11, 9, 12, 13]), (4, [14, 15, 16, 17]), (6, [21, 22, 23, 24, 25, 26, 27]), (7, [29, 30]), (5, [19, 20]), (8, [31]), (9, [33]), (10, [34, 35, 36, 37])], Go.Proofs.Try.func44, by kernel_rfl, by kernel_rfl, by kernel_rfl, by kernel_rfl⟩
def v36 : VC := .seq (.reg false [⟨some 2, .box 2 (.t 0), none⟩, ⟨some 4, .as (.c (.lit (.string (by8 "")))), none⟩] [4]) (.seq (.reg false [⟨some 11, .mv (.t 1), none⟩, ⟨some 12, .call false 46 [(.t 11)], none⟩, ⟨some 10, .mv (.t 12), none⟩, ⟨some 13, .ext (.t 10) 0, none⟩, ⟨some 14, .ext (.t 10) 1, none⟩, ⟨some 5, .as (.t 13), none⟩, ⟨some 6, .as (.t 14), none⟩] [11, 12, 10, 13, 14]) (.seq (.reg false [⟨some 7, .as (.c (.lit (.int .i64 0))), none⟩] []) (.seq (.seq (.reg false [⟨some 15, .fa 1 (.t 2), none⟩, ⟨some 16, .ld false 1 (.t 15), none⟩, ⟨some 17, .len false (.t 16), none⟩, ⟨some 18, .mv (.c (.lit (.int .i64 0))), none⟩] [15]) (.block 0 (.loop (.seq (.reg false [⟨some 19, .bin .lss 0 (.t 18) (.t 17), none⟩] []) (.seq (.cond (.t 19) (.skip) (.exit 0)) (.seq (.block 1 (.seq (.reg false [⟨some 20, .ia 6 (.t 16) (.t 18), none⟩, ⟨some 21, .ld true 6 (.t 20), none⟩, ⟨some 9, .alloc (.agg [(.lit (.string (by8 ""))), (.lit (.string (by8 ""))), (.lit (.string (by8 ""))), (.sl ⟨.nl, true⟩ 1 []), (.lit (.bool false)), (.sl ⟨.nl, true⟩ 1 [])]), none⟩, ⟨none, .st 6 (.t 9) (.t 21), none⟩] [20, 21]) (.seq (.reg false [⟨some 22, .fa 0 (.t 9), none⟩, ⟨some 23, .ld false 1 (.t 22), none⟩, ⟨some 24, .mv (.t 5), none⟩, ⟨some 25, .bin .eql 0 (.t 23) (.t 24), none⟩] [22, 23, 24]) (.cond (.t 25) (.reg false [⟨some 26, .mv (.t 7), none⟩, ⟨some 27, .bin .add 0 (.t 26) (.c (.lit (.int .i64 1))), none⟩, ⟨some 7, .as (.t 27), none⟩] [26, 27]) (.skip))))) (.reg false [⟨some 28, .bin .add 0 (.t 18) (.c (.lit (.int .i64 1))), none⟩, ⟨some 18, .mv (.t 28), none⟩] [28]))))))) (.seq (.seq (.reg false [⟨some 29, .mv (.t 7), none⟩, ⟨some 30, .bin .eql 0 (.t 29) (.c (.lit (.int .i64 1))), none⟩] [29]) (.cond (.t 30) (.seq (.reg false [⟨some 31, .mv (.t 5), none⟩, ⟨some 4, .as (.t 31), none⟩] [31]) (.ret)) (.skip))) (.seq (.reg false [⟨some 32, .mv (.t 5), none⟩, ⟨some 33, .bin .add 0 (.t 32) (.c (.lit (.string (by8 " ")))), none⟩, ⟨some 34, .mv (.t 6), none⟩, ⟨some 35, .bin .add 0 (.t 33) (.t 34), none⟩, ⟨some 4, .as (.t 35), none⟩] [32, 33, 34, 35]) (.ret))))))
theorem is36 : Is Go.Proofs.Try.prog 36 36 v36 [.t 4] := ⟨Go.Proofs.Try.f36, dl [(0, [4]), (1, [11, 12, 10, 13, 14]), (3, [15]), (5, [20, 21]), (6, [22, 23, 24]), (7, [26, 27]), (8, [28]), (9, [29]), (10, [31]), (11, [32, 33, 34, 35])], Go.Proofs.Try.func36, by kernel_rfl, by kernel_rfl, by kernel_rfl, by kernel_rfl⟩
def v33 : VC := .seq (.reg false [⟨some 1, .box 6 (.t 0), none⟩, ⟨some 2, .as (.c (.lit (.string (by8 "")))), none⟩] [2]) (.seq (.seq (.reg false [⟨some 3, .as (.c (.lit (.int .i64 0))), none⟩] []) (.block 0 (.loop (.seq (.seq (.reg false [⟨some 4, .mv (.t 3), none⟩, ⟨some 5, .fa 3 (.t 1), none⟩, ⟨some 6, .ld false 1 (.t 5), none⟩, ⟨some 7, .len false (.t 6), none⟩, ⟨some 8, .bin .lss 0 (.t 4) (.t 7), none⟩] [4, 5, 6, 7]) (.cond (.t 8) (.skip) (.exit 0))) (.seq (.block 1 (.seq (.reg false [⟨some 11, .fa 3 (.t 1), none⟩, ⟨some 12, .ld false 1 (.t 11), none⟩, ⟨some 13, .mv (.t 3), none⟩, ⟨some 14, .ia 2 (.t 12) (.t 13), none⟩, ⟨some 15, .fa 0 (.t 14), none⟩, ⟨some 16, .ld false 1 (.t 15), none⟩, ⟨some 17, .bin .eql 0 (.t 16) (.c (.lit (.string (by8 "sha256")))), none⟩] [11, 12, 13, 14, 15, 16]) (.cond (.t 17) (.seq (.reg false [⟨some 18, .fa 3 (.t 1), none⟩, ⟨some 19, .ld false 1 (.t 18), none⟩, ⟨some 20, .mv (.t 3), none⟩, ⟨some 21, .ia 2 (.t 19) (.t 20), none⟩, ⟨some 22, .fa 1 (.t 21), none⟩, ⟨some 23, .ld false 1 (.t 22), none⟩, ⟨some 24, .call false 43 [(.t 23)], none⟩, ⟨some 2, .as (.t 24), none⟩] [18, 19, 20, 21, 22, 23, 24]) (.ret)) (.skip)))) (.reg false [⟨some 9, .mv (.t 3), none⟩, ⟨some 10, .bin .add 0 (.t 9) (.c (.lit (.int .i64 1))), none⟩, ⟨some 3, .as (.t 10), none⟩] [9, 10])))))) (.seq (.reg false [⟨some 2, .as (.c (.lit (.string (by8 "")))), none⟩] []) (.ret)))
theorem is33 : Is Go.Proofs.Try.prog 33 25 v33 [.t 2] := ⟨Go.Proofs.Try.f33, dl [(0, [2]), (2, [4, 5, 6, 7]), (4, [11, 12, 13, 14, 15, 16]), (5, [18, 19, 20, 21, 22, 23, 24]), (3, [9, 10])], Go.Proofs.Try.func33, by kernel_rfl, by kernel_rfl, by kernel_rfl, by kernel_rfl⟩
def v21 : VC := .seq (.reg false [⟨some 2, .box 6 (.t 0), none⟩, ⟨some 4, .as (.c (.lit (.string (by8 "")))), none⟩] [4]) (.seq (.seq (.reg false [⟨some 7, .fa 3 (.t 2), none⟩, ⟨some 8, .ld false 1 (.t 7), none⟩, ⟨some 9, .len false (.t 8), none⟩, ⟨some 10, .mv (.c (.lit (.int .i64 0))), none⟩] [7]) (.block 0 (.loop (.seq (.reg false [⟨some 11, .bin .lss 0 (.t 10) (.t 9), none⟩] []) (.seq (.cond (.t 11) (.skip) (.exit 0)) (.seq (.block 1 (.seq (.reg false [⟨some 12, .ia 2 (.t 8) (.t 10), none⟩, ⟨some 13, .ld true 2 (.t 12), none⟩, ⟨some 6, .alloc (.agg [(.lit (.string (by8 ""))), (.lit (.string (by8 "")))]), none⟩, ⟨none, .st 2 (.t 6) (.t 13), none⟩] [12, 13]) (.seq (.reg false [⟨some 14, .fa 0 (.t 6), none⟩, ⟨some 15, .ld false 1 (.t 14), none⟩, ⟨some 16, .mv (.t 1), none⟩, ⟨some 17, .bin .eql 0 (.t 15) (.t 16), none⟩] [14, 15, 16]) (.cond (.t 17) (.seq (.reg false [⟨some 18, .fa 1 (.t 6), none⟩, ⟨some 19, .ld false 1 (.t 18), none⟩, ⟨some 4, .as (.t 19), none⟩] [18, 19]) (.ret)) (.skip))))) (.reg false [⟨some 20, .bin .add 0 (.t 10) (.c (.lit (.int .i64 1))), none⟩, ⟨some 10, .mv (.t 20), none⟩] [20]))))))) (.seq (.reg false [⟨some 4, .as (.c (.lit (.string (by8 "")))), none⟩] []) (.ret)))
theorem is21 : Is Go.Proofs.Try.prog 21 21 v21 [.t 4] := ⟨Go.Proofs.Try.f21, dl [(0, [4]), (1, [7]), (3, [12, 13]), (4, [14, 15, 16]), (5, [18, 19]), (6, [20])], Go.Proofs.Try.func21, by kernel_rfl, by kernel_rfl, by kernel_rfl, by kernel_rfl⟩
theorem Fin_ret2 {K : Nat → Prop} {rs : List VR} {r r1 r2 : AV} {ks : List Nat} {s : AS} (h : resVs s rs = some [r1, r2]) (h2 : r = reC ks (.tup [r1, r2])) : FinK K rs r ks .ret s := ⟨.inr rfl, s, .refl _, _, h, h2⟩
theorem Xa_b2s {E : EnvK} {s : AS} {d : Option Nat} {x : Od} {Q : AS → Prop} {lk : Lk Q} {m : Mk} {l : List UInt8} (h : s.val x = .sl m 1 (l.map fun b : UInt8 => .lit (.int .u8 b.toNat))) (hQ : Q (s.putO d (.lit (.string ⟨l.toArray⟩)))) : Xa E s d (.b2s x) Q lk := ⟨m, 1, _, l, h, .inl rfl, rfl, hQ⟩
theorem wh_l {s : AS} {n : Nat} {lo : Od} {k : IntKind} {l : Int} {K : Nat × Nat → Prop} {lk : Lk K} (h1 : s.val lo = .lit (.int k l)) (c1 : 0 ≤ l) (c2 : l ≤ n) (hK : K (l.toNat, n)) : wh (cutB s n (some lo) none) K lk := by
  refine ⟨(l.toNat, n), ?_, hK⟩
  simp only [cutB]
  rw [h1]
  exact if_pos ⟨c1, c2⟩
theorem wh_h {s : AS} {n : Nat} {hi : Od} {k : IntKind} {h : Int} {K : Nat × Nat → Prop} {lk : Lk K} (h1 : s.val hi = .lit (.int k h)) (c1 : 0 ≤ h) (c2 : h ≤ n) (hK : K (0, h.toNat)) : wh (cutB s n none (some hi)) K lk := by
  refine ⟨(0, h.toNat), ?_, hK⟩
  simp only [cutB]
  rw [h1]
  simp only
  rw [if_pos ⟨c1, c2⟩]
theorem u8_eq {a b : UInt8} : ((a.toNat : Int) = b.toNat) ↔ a = b := by
  constructor
  · intro h; exact UInt8.toNat_inj.1 (by omega)
  · rintro rfl; rfl
theorem bt_get {s : ByteArray} {i : Nat} (h : i < s.size) : s.data.toList[i]? = some (bt s i) := by
  unfold bt
  have : i < s.data.toList.length := by simpa using h
  simp [List.getElem?_eq_getElem this]
theorem tmodN (m k : Nat) : (m : Int).tmod k = ((m % k : Nat) : Int) := by rw [Int.tmod_eq_emod_of_nonneg (by omega)]; rfl
/-- the last '@' ahead of a place -/
def lastN (s : ByteArray) : Nat → Option Nat
  | 0 => none
  | i + 1 => if bt s i = 64 then some i else lastN s i
theorem lastN_lt {s : ByteArray} : ∀ {k i : Nat}, lastN s k = some i → i < k
  | k + 1, i, h => by
    simp only [lastN] at h
    split at h
    · obtain rfl := Option.some.inj h; omega
    · have := lastN_lt h; omega
def keyA (s : ByteArray) : ByteArray := match lastN s s.size with
  | some i => s.extract 0 i
  | none => by8 ""
def keyB (s : ByteArray) : ByteArray := match lastN s s.size with
  | some i => s.extract (i + 1) s.size
  | none => by8 ""
theorem keyA_size (s : ByteArray) : (keyA s).size ≤ s.size := by
  unfold keyA
  split
  · rw [ByteArray.size_extract]; omega
  · have : (by8 "").size = 0 := by decide +kernel
    omega
theorem keyB_size (s : ByteArray) : (keyB s).size ≤ s.size := by
  unfold keyB
  split
  · rw [ByteArray.size_extract]; omega
  · have : (by8 "").size = 0 := by decide +kernel
    omega
def keyRes (s : ByteArray) : AV := .tup [.lit (.string (keyA s)), .lit (.string (keyB s))]
def hexL (n : Nat) : UInt8 := bt (by8 "0123456789abcdef") n
def hexLs (l : List UInt8) : List UInt8 := (l.map fun u => [hexL (u.toNat / 16), hexL (u.toNat % 16)]).flatten
def hexS (s : ByteArray) : ByteArray := ⟨(hexLs s.data.toList).toArray⟩
theorem hexLs_next {s : ByteArray} {i : Nat} (h : i < s.size) : hexLs (s.data.toList.take (i + 1)) = hexLs (s.data.toList.take i) ++ [hexL ((bt s i).toNat / 16), hexL ((bt s i).toNat % 16)] := by
  rw [List.take_add_one, bt_get h]
  simp [hexLs]
theorem hexLs_len (l : List UInt8) : (hexLs l).length = 2 * l.length := by
  induction l with
  | nil => rfl
  | cons u l ih =>
    simp only [hexLs, List.map_cons, List.flatten_cons, List.length_append, List.length_cons, List.length_nil] at ih ⊢
    omega
theorem cnt_next {α : Type} {l : List α} {f : α → Bool} {i : Nat} (h : i < l.length) : (l.take (i + 1)).countP f = (l.take i).countP f + if f l[i] then 1 else 0 := by
  rw [List.take_add_one, List.getElem?_eq_getElem h, List.countP_append]
  simp
/-- a key's short name in a graph -/
def shortN (g : Gr) (key : ByteArray) : ByteArray := if (g.packs.countP fun p => decide (p.name = keyA key)) = 1 then keyA key else keyA key ++ by8 " " ++ keyB key
/-- the first sum's bytes, in digits -/
def sumB (l : List Sm) : ByteArray := match l.find? (fun s => decide (s.alg = by8 "sha256")) with
  | some s => s.bytes
  | none => by8 ""
section
variable {E : Env} (hE : E.P = Go.Proofs.Try.prog)
include hE
theorem lastByte_fx (s : ByteArray) (hs : s.size ≤ 9223372036854775806) : Fx E 54 [] [.lit (.string s), .lit (.int .u8 64)] [] (.lit (.int .i64 (match lastN s s.size with | some i => (i : Int) | none => -1))) := by
  refine (is54.to hE).fx [] (by simp) rfl rfl ?_
  simp [v54]
  rw [wrap_i64 (by omega) (by omega)]
  refine X_loop (τ := Nat) (fun k => ⟨[(0, .lit (.string s)), (1, .lit (.int .u8 64)), (5, .lit (.int .i64 ((k : Int) - 1)))], []⟩) (fun k => k ≤ s.size ∧ lastN s s.size = lastN s k) (fun k => k) s.size ⟨Nat.le_refl _, rfl⟩ (Wk.both (by simp [wkL, wkV.same]) trivial) ?_
  rintro k ⟨hk, hl⟩
  simp
  by_cases h0 : k = 0
  · subst h0
    rw [hl]
    simp
    exact Fin_ret rfl rfl
  · obtain ⟨i, rfl⟩ : ∃ i, k = i + 1 := ⟨k - 1, by omega⟩
    have e1 : ((i + 1 : Nat) : Int) - 1 = (i : Int) := by omega
    have hlt : i < s.size := by omega
    have h0' : (0 : Int) ≤ i := by omega
    rw [e1]
    have h1' : (1 : Int) ≤ (i : Int) + 1 := by omega
    simp [hlt, h0', h1']
    by_cases c1 : ((bt s i).toNat : Int) = 64
    · have hb : bt s i = 64 := u8_eq.1 (c1.trans rfl)
      simp [c1]
      exact Fin_ret rfl (by rw [hl]; simp [lastN, hb, reC])
    · have hb : bt s i ≠ 64 := fun e => c1 (by rw [e]; rfl)
      simp [c1]
      refine ⟨i, ⟨by omega, by rw [hl]; simp [lastN, hb]⟩, by omega, Wk.both (by simp [wkL, wkV.same]; rw [wrap_i64 (by omega) (by omega)]; exact wkV.same _) trivial⟩
theorem lastIndex_fx (s : ByteArray) (hs : s.size ≤ 9223372036854775806) : Fx E 52 [] [.lit (.string s), .lit (.string (by8 "@"))] [] (.lit (.int .i64 (match lastN s s.size with | some i => (i : Int) | none => -1))) := by
  refine (is52.to hE).fx [] (by simp) rfl rfl ?_
  have h1 : (by8 "@").size = 1 := by decide +kernel
  have h2 : (bt (by8 "@") 0).toNat = 64 := by decide +kernel
  simp [v52, h1, h2]
  refine vcall_go (lastByte_fx hE s hs) (by simp) (by simp) (by simp) (by simp) ?_
  simp
  exact Fin_ret rfl rfl
theorem specSplit_fx (s : ByteArray) (hs : s.size ≤ 9223372036854775806) : Fx E 50 [] [.lit (.string s)] [] (keyRes s) := by
  refine (is50.to hE).fx [] (by simp) rfl rfl ?_
  simp [v50]
  rw [wrap_i64 (by omega) (by omega)]
  refine X_loop (τ := Nat) (fun k => ⟨[(0, .lit (.string s)), (4, .lit (.int .i64 ((k : Int) - 1)))], []⟩) (fun k => k ≤ s.size ∧ lastN s s.size = lastN s k) (fun k => k) s.size ⟨Nat.le_refl _, rfl⟩ (Wk.both (by simp [wkL, wkV.same]) trivial) ?_
  rintro k ⟨hk, hl⟩
  simp
  by_cases h0 : k = 0
  · subst h0
    simp
    exact Fin_ret2 rfl (by rw [keyRes, keyA, keyB, hl]; rfl)
  · obtain ⟨i, rfl⟩ : ∃ i, k = i + 1 := ⟨k - 1, by omega⟩
    have e1 : ((i + 1 : Nat) : Int) - 1 = (i : Int) := by omega
    have hlt : i < s.size := by omega
    have h0' : (0 : Int) ≤ i := by omega
    rw [e1]
    have h1' : (1 : Int) ≤ (i : Int) + 1 := by omega
    simp [hlt, h0', h1']
    by_cases c1 : ((bt s i).toNat : Int) = 64
    · have hb : bt s i = 64 := u8_eq.1 (c1.trans rfl)
      have hm : lastN s s.size = some i := by rw [hl]; simp [lastN, hb]
      simp [c1]
      refine wh_h (h := i) rfl (by omega) (by omega) ?_
      simp
      rw [wrapN (by omega)]
      refine wh_l (l := (i + 1 : Nat)) rfl (by omega) (by omega) ?_
      simp
      exact Fin_ret2 rfl (by rw [keyRes, keyA, keyB, hm]; rfl)
    · have hb : bt s i ≠ 64 := fun e => c1 (by rw [e]; rfl)
      simp [c1]
      refine ⟨i, ⟨by omega, by rw [hl]; simp [lastN, hb]⟩, by omega, Wk.both (by simp [wkL, wkV.same]; rw [wrap_i64 (by omega) (by omega)]; exact wkV.same _) trivial⟩
theorem implSplit_fx (s : ByteArray) (hs : s.size ≤ 9223372036854775806) : Fx E 46 [] [.lit (.string s)] [] (keyRes s) := by
  refine (is46.to hE).fx [] (by simp) rfl rfl ?_
  simp [v46]
  refine vcall_go (lastIndex_fx hE s hs) (by simp) (by simp) (by simp) (by simp) ?_
  simp
  cases h : lastN s s.size with
  | none =>
    simp
    exact Fin_ret2 rfl (by rw [keyRes, keyA, keyB, h]; rfl)
  | some i =>
    have hi := lastN_lt h
    have hni : ¬ (i : Int) < 0 := by omega
    simp [hni]
    refine wh_h (h := i) rfl (by omega) (by omega) ?_
    simp
    rw [wrapN (by omega)]
    refine wh_l (l := (i + 1 : Nat)) rfl (by omega) (by omega) ?_
    simp
    exact Fin_ret2 rfl (by rw [keyRes, keyA, keyB, h]; rfl)
set_option maxHeartbeats 1000000 in
theorem implHex_fx (s : ByteArray) (hs : s.size ≤ 1099511627) : Fx E 22 [] [.lit (.string s)] [] (.lit (.string (hexS s))) := by
  refine (is22.to hE).fx [] (by simp) rfl rfl ?_
  simp [v22]
  refine X_loop (τ := Nat) (fun i => ⟨[(0, .lit (.string s)), (3, .sl ⟨.cl 320, true⟩ 1 ((hexLs (s.data.toList.take i)).map fun b : UInt8 => .lit (.int .u8 b.toNat))), (7, .lit (.int .i64 s.size)), (8, .lit (.int .i64 i))], []⟩) (fun i => i ≤ s.size) (fun i => s.size - i) 0 (by simp) (Wk.both (by simp [wkL, wkV.same, hexLs, frA.frL]) trivial) ?_
  rintro i hi
  simp
  have hl := hexLs_len (s.data.toList.take i)
  have hl2 : (s.data.toList.take i).length ≤ s.size := by simp; omega
  by_cases hlt : i < s.size
  · have hn := hexLs_next hlt
    have hu := (bt s i).toNat_lt
    obtain ⟨d, hd⟩ : ∃ d, (bt s i).toNat / 16 = d := ⟨_, rfl⟩
    obtain ⟨m, hm⟩ : ∃ m, (bt s i).toNat % 16 = m := ⟨_, rfl⟩
    have h16 : (by8 "0123456789abcdef").size = 16 := by decide +kernel
    rw [hd, hm] at hn
    have hd1 : (d : Int) < 16 := by omega
    have hm1 : (m : Int) < 16 := by omega
    have e1 : ((bt s i).toNat : Int).fdiv (2 ^ min 4 IntKind.u8.bits) = (d : Int) := by
      rw [show (2 : Int) ^ min 4 IntKind.u8.bits = 16 by decide, Int.fdiv_eq_ediv_of_nonneg _ (by omega)]; omega
    have e2 : IntKind.u8.wrap (((bt s i).toNat % 2 ^ IntKind.u8.bits &&& 15 % 2 ^ IntKind.u8.bits : Nat) : Int) = (m : Int) := by
      have : (bt s i).toNat % 2 ^ IntKind.u8.bits &&& 15 % 2 ^ IntKind.u8.bits = (bt s i).toNat % 16 := by
        show (bt s i).toNat % 256 &&& 15 = (bt s i).toNat % 16
        rw [Nat.mod_eq_of_lt (show (bt s i).toNat < 256 by omega)]
        exact Nat.and_two_pow_sub_one_eq_mod _ 4
      rw [this, IntKind.wrap_u8]; omega
    simp [hlt, h16, hd1, hm1, e1, e2, okC, frA, frA.frL, AS.dem, mapV, dem, dem.demL]
    refine ⟨by omega, i + 1, by omega, by omega, Wk.both (by rw [hn]; simp [wkL, wkV.same, hexL]; rw [wrapN (by omega)]; exact wkV.same _) trivial⟩
  · obtain rfl : i = s.size := by omega
    simp
    rw [show List.take s.size s.data.toList = s.data.toList from List.take_of_length_le (by simp)]
    refine Xa_b2s (l := hexLs s.data.toList) rfl ?_
    simp
    exact Fin_ret rfl rfl
set_option maxHeartbeats 1000000 in
theorem specHex_fx (s : ByteArray) (hs : s.size ≤ 1099511627) : Fx E 43 [] [.lit (.string s)] [] (.lit (.string (hexS s))) := by
  refine (is43.to hE).fx [] (by simp) rfl rfl ?_
  simp [v43]
  refine X_loop (τ := Nat) (fun i => ⟨[(0, .lit (.string s)), (3, .sl ⟨.cl 320, true⟩ 1 ((hexLs (s.data.toList.take i)).map fun b : UInt8 => .lit (.int .u8 b.toNat))), (4, .lit (.int .i64 i))], []⟩) (fun i => i ≤ s.size) (fun i => s.size - i) 0 (by simp) (Wk.both (by simp [wkL, wkV.same, hexLs, frA.frL]) trivial) ?_
  rintro i hi
  simp
  have hl := hexLs_len (s.data.toList.take i)
  have hl2 : (s.data.toList.take i).length ≤ s.size := by simp; omega
  by_cases hlt : i < s.size
  · have hn := hexLs_next hlt
    have hu := (bt s i).toNat_lt
    obtain ⟨d, hd⟩ : ∃ d, (bt s i).toNat / 16 = d := ⟨_, rfl⟩
    obtain ⟨m, hm⟩ : ∃ m, (bt s i).toNat % 16 = m := ⟨_, rfl⟩
    have h16 : (by8 "0123456789abcdef").size = 16 := by decide +kernel
    have e1 : IntKind.u8.wrap (((bt s i).toNat : Int) / 16) = (d : Int) := by rw [← hd, IntKind.wrap_u8]; omega
    have e2 : ((bt s i).toNat : Int).tmod 16 = (m : Int) := by rw [← hm]; exact tmodN _ 16
    rw [hd, hm] at hn
    have hd1 : (d : Int) < 16 := by omega
    have hm1 : (m : Int) < 16 := by omega
    simp [hlt, h16, hd1, hm1, e1, e2, okC, frA, frA.frL, AS.dem, mapV, dem, dem.demL]
    refine ⟨by omega, i + 1, by omega, by omega, Wk.both (by rw [hn]; simp [wkL, wkV.same, hexL]; rw [wrapN (by omega)]; exact wkV.same _) trivial⟩
  · obtain rfl : i = s.size := by omega
    simp
    rw [show List.take s.size s.data.toList = s.data.toList from List.take_of_length_le (by simp)]
    refine Xa_b2s (l := hexLs s.data.toList) rfl ?_
    simp
    exact Fin_ret rfl rfl
theorem specShort_fx (g : Gr) (key : ByteArray) (hg : g.packs.length ≤ 1048576) (hs : key.size ≤ 1099511627776) : Fx E 44 [] [.agg g.av, .lit (.string key)] [] (.lit (.string (shortN g key))) := by
  have hga : g.av = [.sl ro 1 (g.top.map fun x => .lit (.string x)), .sl ro 6 (g.packs.map fun x => .agg x.av)] := rfl
  have z1 := keyA_size key
  have z2 := keyB_size key
  have z3 : (by8 " ").size = 1 := by decide +kernel
  refine (is44.to hE).fx [] (by simp) rfl rfl ?_
  simp [v44, hga, okC]
  refine vcall_go (specSplit_fx hE key (by omega)) (by simp) (by simp) (by simp) (by simp) ?_
  simp [keyRes]
  refine X_loop (τ := Nat) (fun i => ⟨[(2, .ptr 1000000000002 0 0), (5, .lit (.string (keyA key))), (6, .lit (.string (keyB key))), (7, .lit (.int .i64 ((g.packs.take i).countP fun p => decide (p.name = keyA key) : Nat))), (8, .lit (.int .i64 i))], [(1000000000002, [.agg [.sl ro 1 (g.top.map fun x => .lit (.string x)), .sl ro 6 (g.packs.map fun x => .agg x.av)]])]⟩) (fun i => i ≤ g.packs.length) (fun i => g.packs.length - i) 0 (by simp) (Wk.both (by simp [wkL, wkV.same]) (by simp [wkB])) ?_
  rintro i hi
  simp
  by_cases hlt : i < g.packs.length
  · have hav : g.packs[i].av = [.lit (.string g.packs[i].name), .lit (.string g.packs[i].version), .lit (.string g.packs[i].source), .sl ro 2 (g.packs[i].sums.map fun x => .agg x.av), .lit (.bool g.packs[i].dev), .sl ro 1 (g.packs[i].needs.map fun x => .lit (.string x))] := rfl
    have hn := cnt_next (f := fun p : Pk => decide (p.name = keyA key)) hlt
    have hc := List.countP_le_length (p := fun p : Pk => decide (p.name = keyA key)) (l := g.packs.take i)
    rw [List.length_take] at hc
    simp [hlt, hav, mkF]
    by_cases c1 : g.packs[i].name = keyA key
    · simp [c1] at hn
      simp [c1]
      exact ⟨i + 1, by omega, by omega, Wk.both (by rw [hn]; simp [wkL, wkV.same]; rw [wrapN (by omega), wrapN (by omega)]; exact ⟨.inl (by simp), .inl (by simp)⟩) (by simp [wkB])⟩
    · simp [c1] at hn
      simp [c1]
      exact ⟨i + 1, by omega, by omega, Wk.both (by rw [hn]; simp [wkL, wkV.same]; rw [wrapN (by omega)]; exact wkV.same _) (by simp [wkB])⟩
  · obtain rfl : i = g.packs.length := by omega
    simp
    by_cases c1 : (g.packs.countP fun p => decide (p.name = keyA key)) = 1
    · have c1' : ((g.packs.countP fun p => decide (p.name = keyA key) : Nat) : Int) = 1 := by omega
      simp [c1']
      exact Fin_ret rfl (by rw [shortN, if_pos c1]; rfl)
    · have c1' : ¬ ((g.packs.countP fun p => decide (p.name = keyA key) : Nat) : Int) = 1 := by omega
      simp [c1']
      exact ⟨by omega, by omega, Fin_ret rfl (by rw [shortN, if_neg c1]; rfl)⟩
theorem implShort_fx (g : Gr) (key : ByteArray) (hg : g.packs.length ≤ 1048576) (hs : key.size ≤ 1099511627776) : Fx E 36 [] [.agg g.av, .lit (.string key)] [] (.lit (.string (shortN g key))) := by
  have hga : g.av = [.sl ro 1 (g.top.map fun x => .lit (.string x)), .sl ro 6 (g.packs.map fun x => .agg x.av)] := rfl
  have z1 := keyA_size key
  have z2 := keyB_size key
  have z3 : (by8 " ").size = 1 := by decide +kernel
  refine (is36.to hE).fx [] (by simp) rfl rfl ?_
  simp [v36, hga, okC]
  refine vcall_go (implSplit_fx hE key (by omega)) (by simp) (by simp) (by simp) (by simp) ?_
  simp [keyRes]
  refine X_loop (τ := Nat) (fun i => ⟨[(5, .lit (.string (keyA key))), (6, .lit (.string (keyB key))), (7, .lit (.int .i64 ((g.packs.take i).countP fun p => decide (p.name = keyA key) : Nat))), (16, .sl ro 6 (g.packs.map fun x => .agg x.av)), (17, .lit (.int .i64 g.packs.length)), (18, .lit (.int .i64 i))], []⟩) (fun i => i ≤ g.packs.length) (fun i => g.packs.length - i) 0 (by simp) (Wk.both (by simp [wkL, wkV.same]) (by simp [wkB])) ?_
  rintro i hi
  simp
  by_cases hlt : i < g.packs.length
  · have hav : g.packs[i].av = [.lit (.string g.packs[i].name), .lit (.string g.packs[i].version), .lit (.string g.packs[i].source), .sl ro 2 (g.packs[i].sums.map fun x => .agg x.av), .lit (.bool g.packs[i].dev), .sl ro 1 (g.packs[i].needs.map fun x => .lit (.string x))] := rfl
    have hn := cnt_next (f := fun p : Pk => decide (p.name = keyA key)) hlt
    have hc := List.countP_le_length (p := fun p : Pk => decide (p.name = keyA key)) (l := g.packs.take i)
    rw [List.length_take] at hc
    simp [hlt, hav, mkF, mkF.mkL, okC, putElem, upd]
    by_cases c1 : g.packs[i].name = keyA key
    · simp [c1] at hn
      simp [c1]
      exact ⟨i + 1, by omega, by omega, Wk.both (by rw [hn]; simp [wkL, wkV.same]; rw [wrapN (by omega), wrapN (by omega)]; exact ⟨.inl (by simp), .inl (by simp)⟩) (by simp [wkB])⟩
    · simp [c1] at hn
      simp [c1]
      exact ⟨i + 1, by omega, by omega, Wk.both (by rw [hn]; simp [wkL, wkV.same]; rw [wrapN (by omega)]; exact wkV.same _) (by simp [wkB])⟩
  · obtain rfl : i = g.packs.length := by omega
    simp
    by_cases c1 : (g.packs.countP fun p => decide (p.name = keyA key)) = 1
    · have c1' : ((g.packs.countP fun p => decide (p.name = keyA key) : Nat) : Int) = 1 := by omega
      simp [c1']
      exact Fin_ret rfl (by rw [shortN, if_pos c1]; rfl)
    · have c1' : ¬ ((g.packs.countP fun p => decide (p.name = keyA key) : Nat) : Int) = 1 := by omega
      simp [c1']
      exact ⟨by omega, by omega, Fin_ret rfl (by rw [shortN, if_neg c1]; rfl)⟩
omit hE in
theorem find_at {α : Type} {l : List α} {f : α → Bool} {i : Nat} (hi : i < l.length) (hn : ∀ j (h : j < l.length), j < i → f l[j] = false) (hf : f l[i] = true) : l.find? f = some l[i] := by
  rw [List.find?_eq_some_iff_getElem]
  exact ⟨hf, i, hi, rfl, fun j hj => by simpa using hn j (by omega) hj⟩
theorem specSum_fx (p : Pk) (h1 : p.sums.length ≤ 1048576) (h2 : ∀ s ∈ p.sums, s.bytes.size ≤ 1099511627) : Fx E 33 [] [.agg p.av] [] (.lit (.string (hexS (sumB p.sums)))) := by
  have hav : p.av = [.lit (.string p.name), .lit (.string p.version), .lit (.string p.source), .sl ro 2 (p.sums.map fun x => .agg x.av), .lit (.bool p.dev), .sl ro 1 (p.needs.map fun x => .lit (.string x))] := rfl
  refine (is33.to hE).fx [] (by simp) rfl rfl ?_
  simp [v33, hav, okC]
  refine X_loop (τ := Nat) (fun i => ⟨[(1, .ptr 1000000000001 0 0), (3, .lit (.int .i64 i))], [(1000000000001, [.agg [.lit (.string p.name), .lit (.string p.version), .lit (.string p.source), .sl ro 2 (p.sums.map fun x => .agg x.av), .lit (.bool p.dev), .sl ro 1 (p.needs.map fun x => .lit (.string x))]])]⟩) (fun i => i ≤ p.sums.length ∧ ∀ j (h : j < p.sums.length), j < i → p.sums[j].alg ≠ by8 "sha256") (fun i => p.sums.length - i) 0 ⟨by omega, fun j _ h => by omega⟩ (Wk.both (by simp [wkL, wkV.same]) (by simp [wkB])) ?_
  rintro i ⟨hi, hall⟩
  simp
  by_cases hlt : i < p.sums.length
  · have hsv : p.sums[i].av = [.lit (.string p.sums[i].alg), .lit (.string p.sums[i].bytes)] := rfl
    simp [hlt, hsv, mkF]
    by_cases c1 : p.sums[i].alg = by8 "sha256"
    · have hf := find_at (f := fun s : Sm => decide (s.alg = by8 "sha256")) hlt (fun j h hj => by simpa using hall j h hj) (by simpa using c1)
      simp [c1, hlt, hsv, mkF]
      refine vcall_go (specHex_fx hE p.sums[i].bytes (h2 _ (List.getElem_mem hlt))) (by simp) (by simp) (by simp) (by simp) ?_
      simp
      exact Fin_ret rfl (by rw [sumB, hf]; rfl)
    · simp [c1]
      refine ⟨i + 1, ⟨by omega, fun j h hj => ?_⟩, by omega, Wk.both (by simp [wkL, wkV.same]; rw [wrapN (by omega)]; exact wkV.same _) (by simp [wkB])⟩
      rcases Nat.lt_or_ge j i with h3 | h3
      · exact hall j h h3
      · obtain rfl : j = i := by omega
        exact c1
  · obtain rfl : i = p.sums.length := by omega
    have hf : p.sums.find? (fun s => decide (s.alg = by8 "sha256")) = none := by
      rw [List.find?_eq_none]
      intro x hx
      obtain ⟨j, hj, rfl⟩ := List.getElem_of_mem hx
      simpa using hall j hj hj
    have he : hexS (by8 "") = by8 "" := by decide +kernel
    simp
    exact Fin_ret rfl (by rw [sumB, hf]; simp only; rw [he]; rfl)
theorem implSum_fx (p : Pk) (h1 : p.sums.length ≤ 1048576) : Fx E 21 [] [.agg p.av, .lit (.string (by8 "sha256"))] [] (.lit (.string (sumB p.sums))) := by
  have hav : p.av = [.lit (.string p.name), .lit (.string p.version), .lit (.string p.source), .sl ro 2 (p.sums.map fun x => .agg x.av), .lit (.bool p.dev), .sl ro 1 (p.needs.map fun x => .lit (.string x))] := rfl
  refine (is21.to hE).fx [] (by simp) rfl rfl ?_
  simp [v21, hav, okC]
  refine X_loop (τ := Nat) (fun i => ⟨[(1, .lit (.string (by8 "sha256"))), (8, .sl ro 2 (p.sums.map fun x => .agg x.av)), (9, .lit (.int .i64 p.sums.length)), (10, .lit (.int .i64 i))], []⟩) (fun i => i ≤ p.sums.length ∧ ∀ j (h : j < p.sums.length), j < i → p.sums[j].alg ≠ by8 "sha256") (fun i => p.sums.length - i) 0 ⟨by omega, fun j _ h => by omega⟩ (Wk.both (by simp [wkL, wkV.same]) (by simp [wkB])) ?_
  rintro i ⟨hi, hall⟩
  simp
  by_cases hlt : i < p.sums.length
  · have hsv : p.sums[i].av = [.lit (.string p.sums[i].alg), .lit (.string p.sums[i].bytes)] := rfl
    simp [hlt, hsv, mkF, mkF.mkL, okC, putElem, upd]
    by_cases c1 : p.sums[i].alg = by8 "sha256"
    · have hf := find_at (f := fun s : Sm => decide (s.alg = by8 "sha256")) hlt (fun j h hj => by simpa using hall j h hj) (by simpa using c1)
      simp [c1]
      exact Fin_ret rfl (by rw [sumB, hf]; rfl)
    · simp [c1]
      refine ⟨i + 1, ⟨by omega, fun j h hj => ?_⟩, by omega, Wk.both (by simp [wkL, wkV.same]; rw [wrapN (by omega)]; exact wkV.same _) (by simp [wkB])⟩
      rcases Nat.lt_or_ge j i with h3 | h3
      · exact hall j h h3
      · obtain rfl : j = i := by omega
        exact c1
  · obtain rfl : i = p.sums.length := by omega
    have hf : p.sums.find? (fun s => decide (s.alg = by8 "sha256")) = none := by
      rw [List.find?_eq_none]
      intro x hx
      obtain ⟨j, hj, rfl⟩ := List.getElem_of_mem hx
      simpa using hall j hj hj
    simp
    exact Fin_ret rfl (by rw [sumB, hf]; rfl)
end
end Go.Proofs.Yticamghmcikfcaa.Vm
