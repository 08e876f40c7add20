/- Ranges: the reference, more. -/
import Derived.Test.YtgegcfhifojjiaaGreatDoorRs
namespace Go.Proofs.YtgegcfhifojjiaaGreatDoor.Vm
open Go Go.RowKit
set_option linter.unusedVariables false
set_option linter.unusedSimpArgs false
def v208 : VC := .seq (.reg false [⟨some 2, .alloc (.agg [(.lit (.string (by8 ""))), (.lit (.string (by8 "")))]), none⟩, ⟨some 3, .as (.c (.lit (.bool false))), none⟩] [3]) (.seq (.reg false [⟨some 10, .mv (.t 0), none⟩, ⟨some 11, .call false 42 [(.t 10), (.c (.lit (.int .u8 46)))], none⟩, ⟨some 4, .as (.t 11), none⟩] [10, 11]) (.seq (.reg false [⟨some 12, .mv (.t 0), none⟩, ⟨some 13, .bin .add 0 (.t 12) (.c (.lit (.string (by8 ".0")))), none⟩, ⟨some 5, .as (.t 13), none⟩] [12, 13]) (.seq (.seq (.reg false [⟨some 14, .mv (.t 4), none⟩, ⟨some 15, .len false (.t 14), none⟩, ⟨some 16, .bin .eql 0 (.t 15) (.c (.lit (.int .i64 1))), none⟩] [14, 15]) (.cond (.t 16) (.reg false [⟨some 17, .mv (.t 0), none⟩, ⟨some 18, .bin .add 0 (.t 17) (.c (.lit (.string (by8 ".0.0")))), none⟩, ⟨some 5, .as (.t 18), none⟩] [17, 18]) (.skip))) (.seq (.reg false [⟨some 20, .mv (.t 5), none⟩, ⟨some 21, .call false 39 [(.t 20)], none⟩, ⟨some 19, .mv (.t 21), none⟩, ⟨some 22, .ext (.t 19) 0, none⟩, ⟨some 23, .ext (.t 19) 1, none⟩, ⟨some 6, .alloc (.agg [(.lit (.int .i64 0)), (.lit (.int .i64 0)), (.lit (.int .i64 0)), (.sl ⟨.nl, true⟩ 1 [])]), none⟩, ⟨none, .st 4 (.t 6) (.t 22), none⟩, ⟨some 7, .as (.t 23), none⟩] [20, 21, 19, 22, 23]) (.seq (.seq (.reg false [⟨some 24, .mv (.t 7), none⟩, ⟨some 25, .un .not (.t 24), none⟩, ⟨some 26, .mv (.t 25), none⟩, ⟨some 27, .mv (.t 4), (some (26, false))⟩, ⟨some 28, .len false (.t 27), (some (26, false))⟩, ⟨some 29, .call false 105 [(.t 28), (.c (.lit (.int .i64 1))), (.c (.lit (.int .i64 2)))], (some (26, false))⟩, ⟨some 30, .un .not (.t 29), (some (26, false))⟩, ⟨some 31, .pick (.t 26) (.c (.lit (.bool true))) (.t 30), none⟩, ⟨some 32, .mv (.t 31), none⟩, ⟨some 33, .fa 3 (.t 6), (some (32, false))⟩, ⟨some 34, .ld false 1 (.t 33), (some (32, false))⟩, ⟨some 35, .len false (.t 34), (some (32, false))⟩, ⟨some 36, .bin .gtr 0 (.t 35) (.c (.lit (.int .i64 0))), (some (32, false))⟩, ⟨some 37, .pick (.t 32) (.c (.lit (.bool true))) (.t 36), none⟩] [24, 25, 26, 27, 28, 29, 30, 31, 32, 33, 34, 35, 36]) (.cond (.t 37) (.seq (.reg false [⟨some 38, .bld [(.lit (.string (by8 ""))), (.lit (.string (by8 "")))] [], none⟩, ⟨none, .st 2 (.t 2) (.t 38), none⟩, ⟨some 3, .as (.c (.lit (.bool false))), none⟩] [38]) (.ret)) (.skip))) (.seq (.reg false [⟨some 40, .ld true 4 (.t 6), none⟩, ⟨some 41, .mv (.t 4), none⟩, ⟨some 42, .len false (.t 41), none⟩, ⟨some 43, .bin .sub 0 (.t 42) (.c (.lit (.int .i64 1))), none⟩, ⟨some 44, .call false 233 [(.t 40), (.t 43)], none⟩, ⟨some 39, .mv (.t 44), none⟩, ⟨some 45, .ext (.t 39) 0, none⟩, ⟨some 46, .ext (.t 39) 1, none⟩, ⟨some 8, .as (.t 45), none⟩, ⟨some 9, .as (.t 46), none⟩] [40, 41, 42, 43, 44, 39, 45, 46]) (.seq (.seq (.reg false [⟨some 47, .mv (.t 9), none⟩, ⟨some 48, .un .not (.t 47), none⟩] [47]) (.cond (.t 48) (.seq (.reg false [⟨some 49, .bld [(.lit (.string (by8 ""))), (.lit (.string (by8 "")))] [], none⟩, ⟨none, .st 2 (.t 2) (.t 49), none⟩, ⟨some 3, .as (.c (.lit (.bool false))), none⟩] [49]) (.ret)) (.skip))) (.seq (.reg false [⟨some 50, .mv (.t 5), none⟩, ⟨some 51, .mv (.t 8), none⟩, ⟨some 52, .bld [(.lit (.string (by8 ""))), (.lit (.string (by8 "")))] [(0, 1, (.t 50)), (1, 1, (.t 51))], none⟩, ⟨none, .st 2 (.t 2) (.t 52), none⟩, ⟨some 3, .as (.c (.lit (.bool true))), none⟩] [50, 51, 52]) (.ret)))))))))
theorem is208 : Is Go.Proofs.Tryz.prog 208 53 v208 [.b 2 true 2, .t 3] := ⟨Go.Proofs.Tryz.f208, dl [(0, [3]), (1, [10, 11]), (2, [12, 13]), (3, [14, 15]), (4, [17, 18]), (5, [20, 21, 19, 22, 23]), (6, [24, 25, 26, 27, 28, 29, 30, 31, 32, 33, 34, 35, 36]), (7, [38]), (8, [40, 41, 42, 43, 44, 39, 45, 46]), (9, [47]), (10, [49]), (11, [50, 51, 52])], Go.Proofs.Tryz.func208, by kernel_rfl, by kernel_rfl, by kernel_rfl, by kernel_rfl⟩
def v168 : VC := .seq (.reg false [⟨some 2, .alloc (.agg [(.lit (.string (by8 ""))), (.lit (.string (by8 "")))]), none⟩, ⟨some 3, .as (.c (.lit (.bool false))), none⟩] [3]) (.seq (.seq (.reg false [⟨some 8, .mv (.t 0), none⟩, ⟨some 9, .bin .eql 0 (.t 8) (.c (.lit (.string (by8 "*")))), none⟩] [8]) (.cond (.t 9) (.seq (.reg false [⟨some 10, .bld [(.lit (.string (by8 ""))), (.lit (.string (by8 "")))] [], none⟩, ⟨none, .st 2 (.t 2) (.t 10), none⟩, ⟨some 3, .as (.c (.lit (.bool true))), none⟩] [10]) (.ret)) (.skip))) (.seq (.seq (.reg false [⟨some 11, .mv (.t 0), none⟩, ⟨some 12, .len true (.t 11), none⟩, ⟨some 13, .bin .gtr 0 (.t 12) (.c (.lit (.int .i64 1))), none⟩, ⟨some 14, .mv (.t 13), none⟩, ⟨some 15, .mv (.t 0), (some (14, true))⟩, ⟨some 16, .idx (.t 15) (.c (.lit (.int .i64 0))), (some (14, true))⟩, ⟨some 17, .bin .eql 0 (.t 16) (.c (.lit (.int .u8 94))), (some (14, true))⟩, ⟨some 18, .mv (.t 17), (some (14, true))⟩, ⟨some 19, .mv (.t 0), (some (18, false))⟩, ⟨some 20, .idx (.t 19) (.c (.lit (.int .i64 0))), (some (18, false))⟩, ⟨some 21, .bin .eql 0 (.t 20) (.c (.lit (.int .u8 126))), (some (18, false))⟩, ⟨some 22, .pick (.t 18) (.c (.lit (.bool true))) (.t 21), (some (14, true))⟩, ⟨some 23, .pick (.t 14) (.t 22) (.c (.lit (.bool false))), none⟩] [11, 12, 13, 14, 15, 16, 17, 18, 19, 20, 21, 22]) (.cond (.t 23) (.seq (.reg false [⟨some 25, .mv (.t 0), none⟩, ⟨some 26, .slS (.t 25) (some (.c (.lit (.int .i64 1)))) none, none⟩, ⟨some 27, .call false 39 [(.t 26)], none⟩, ⟨some 24, .mv (.t 27), none⟩, ⟨some 28, .ext (.t 24) 0, none⟩, ⟨some 29, .ext (.t 24) 1, none⟩, ⟨some 4, .alloc (.agg [(.lit (.int .i64 0)), (.lit (.int .i64 0)), (.lit (.int .i64 0)), (.sl ⟨.nl, true⟩ 1 [])]), none⟩, ⟨none, .st 4 (.t 4) (.t 28), none⟩, ⟨some 5, .as (.t 29), none⟩] [25, 26, 27, 24, 28, 29]) (.seq (.seq (.reg false [⟨some 30, .mv (.t 5), none⟩, ⟨some 31, .un .not (.t 30), none⟩] [30]) (.cond (.t 31) (.seq (.reg false [⟨some 32, .bld [(.lit (.string (by8 ""))), (.lit (.string (by8 "")))] [], none⟩, ⟨none, .st 2 (.t 2) (.t 32), none⟩, ⟨some 3, .as (.c (.lit (.bool false))), none⟩] [32]) (.ret)) (.skip))) (.seq (.seq (.reg false [⟨some 33, .mv (.t 0), none⟩, ⟨some 34, .idx (.t 33) (.c (.lit (.int .i64 0))), none⟩, ⟨some 35, .bin .eql 0 (.t 34) (.c (.lit (.int .u8 126))), none⟩] [33, 34]) (.cond (.t 35) (.seq (.reg true [⟨some 36, .mv (.t 0), none⟩, ⟨some 37, .slS (.t 36) (some (.c (.lit (.int .i64 1)))) none, none⟩, ⟨some 38, .ld true 4 (.t 4), none⟩, ⟨some 39, .call true 204 [(.t 37), (.t 38), (.c (.lit (.int .i64 1)))], none⟩, ⟨some 40, .ext (.t 39) 0, none⟩, ⟨some 41, .ext (.t 39) 1, none⟩, ⟨none, .st 2 (.t 2) (.t 40), none⟩, ⟨some 3, .as (.t 41), none⟩] [36, 37, 38, 39, 40, 41]) (.ret)) (.skip))) (.seq (.reg true [⟨some 42, .mv (.t 0), none⟩, ⟨some 43, .slS (.t 42) (some (.c (.lit (.int .i64 1)))) none, none⟩, ⟨some 44, .ld true 4 (.t 4), none⟩, ⟨some 45, .ld true 4 (.t 4), none⟩, ⟨some 46, .call true 205 [(.t 45)], none⟩, ⟨some 47, .call true 204 [(.t 43), (.t 44), (.t 46)], none⟩, ⟨some 48, .ext (.t 47) 0, none⟩, ⟨some 49, .ext (.t 47) 1, none⟩, ⟨none, .st 2 (.t 2) (.t 48), none⟩, ⟨some 3, .as (.t 49), none⟩] [42, 43, 44, 45, 46, 47, 48, 49]) (.ret))))) (.skip))) (.seq (.seq (.reg false [⟨some 50, .mv (.t 0), none⟩, ⟨some 51, .len true (.t 50), none⟩, ⟨some 52, .bin .gtr 0 (.t 51) (.c (.lit (.int .i64 0))), none⟩, ⟨some 53, .mv (.t 52), none⟩, ⟨some 54, .mv (.t 0), (some (53, true))⟩, ⟨some 55, .idx (.t 54) (.c (.lit (.int .i64 0))), (some (53, true))⟩, ⟨some 56, .bin .eql 0 (.t 55) (.c (.lit (.int .u8 62))), (some (53, true))⟩, ⟨some 57, .mv (.t 56), (some (53, true))⟩, ⟨some 58, .mv (.t 0), (some (57, false))⟩, ⟨some 59, .idx (.t 58) (.c (.lit (.int .i64 0))), (some (57, false))⟩, ⟨some 60, .bin .eql 0 (.t 59) (.c (.lit (.int .u8 60))), (some (57, false))⟩, ⟨some 61, .pick (.t 57) (.c (.lit (.bool true))) (.t 60), (some (53, true))⟩, ⟨some 62, .pick (.t 53) (.t 61) (.c (.lit (.bool false))), none⟩] [50, 51, 52, 53, 54, 55, 56, 57, 58, 59, 60, 61]) (.cond (.t 62) (.seq (.reg false [⟨some 63, .mv (.t 0), none⟩, ⟨some 64, .call false 206 [(.t 63)], none⟩, ⟨some 65, .ext (.t 64) 0, none⟩, ⟨some 66, .ext (.t 64) 1, none⟩, ⟨none, .st 2 (.t 2) (.t 65), none⟩, ⟨some 3, .as (.t 66), none⟩] [63, 64, 65, 66]) (.ret)) (.skip))) (.seq (.reg false [⟨some 68, .mv (.t 0), none⟩, ⟨some 69, .call false 207 [(.t 68)], none⟩, ⟨some 67, .mv (.t 69), none⟩, ⟨some 70, .ext (.t 67) 0, none⟩, ⟨some 71, .ext (.t 67) 1, none⟩, ⟨some 6, .alloc (.agg [(.lit (.string (by8 ""))), (.lit (.string (by8 "")))]), none⟩, ⟨none, .st 2 (.t 6) (.t 70), none⟩, ⟨some 7, .as (.t 71), none⟩] [68, 69, 67, 70, 71]) (.seq (.seq (.reg false [⟨some 72, .mv (.t 7), none⟩] []) (.cond (.t 72) (.seq (.reg false [⟨some 73, .ld true 2 (.t 6), none⟩, ⟨none, .st 2 (.t 2) (.t 73), none⟩, ⟨some 3, .as (.c (.lit (.bool true))), none⟩] [73]) (.ret)) (.skip))) (.seq (.reg false [⟨some 74, .mv (.t 0), none⟩, ⟨some 75, .call false 208 [(.t 74)], none⟩, ⟨some 76, .ext (.t 75) 0, none⟩, ⟨some 77, .ext (.t 75) 1, none⟩, ⟨none, .st 2 (.t 2) (.t 76), none⟩, ⟨some 3, .as (.t 77), none⟩] [74, 75, 76, 77]) (.ret)))))))
theorem is168 : Is Go.Proofs.Tryz.prog 168 78 v168 [.b 2 true 2, .t 3] := ⟨Go.Proofs.Tryz.f168, dl [(0, [3]), (1, [8]), (2, [10]), (3, [11, 12, 13, 14, 15, 16, 17, 18, 19, 20, 21, 22]), (4, [25, 26, 27, 24, 28, 29]), (5, [30]), (6, [32]), (7, [33, 34]), (8, [36, 37, 38, 39, 40, 41]), (9, [42, 43, 44, 45, 46, 47, 48, 49]), (10, [50, 51, 52, 53, 54, 55, 56, 57, 58, 59, 60, 61]), (11, [63, 64, 65, 66]), (12, [68, 69, 67, 70, 71]), (14, [73]), (15, [74, 75, 76, 77])], Go.Proofs.Tryz.func168, by kernel_rfl, by kernel_rfl, by kernel_rfl, by kernel_rfl⟩
def v122 : VC := .seq (.reg false [⟨some 2, .as (.c (.sl ⟨.nl, true⟩ 1 [])), none⟩, ⟨some 3, .as (.c (.lit (.bool false))), none⟩] [2, 3]) (.seq (.reg false [⟨some 9, .bsl 2 [], none⟩, ⟨some 4, .as (.t 9), none⟩] [9]) (.seq (.reg false [⟨some 10, .mv (.t 0), none⟩, ⟨some 11, .call false 167 [(.t 10)], none⟩, ⟨some 5, .as (.t 11), none⟩] [10, 11]) (.seq (.seq (.reg false [⟨some 12, .mv (.t 0), none⟩, ⟨some 13, .len true (.t 12), none⟩, ⟨some 14, .bin .gtr 0 (.t 13) (.c (.lit (.int .i64 200))), none⟩, ⟨some 15, .mv (.t 14), none⟩, ⟨some 16, .mv (.t 5), (some (15, false))⟩, ⟨some 17, .len false (.t 16), (some (15, false))⟩, ⟨some 18, .bin .gtr 0 (.t 17) (.c (.lit (.int .i64 8))), (some (15, false))⟩, ⟨some 19, .pick (.t 15) (.c (.lit (.bool true))) (.t 18), none⟩] [12, 13, 14, 15, 16, 17, 18]) (.cond (.t 19) (.seq (.reg false [⟨some 20, .mv (.t 4), none⟩, ⟨some 2, .as (.t 20), none⟩, ⟨some 3, .as (.c (.lit (.bool false))), none⟩] [20]) (.ret)) (.skip))) (.seq (.seq (.reg false [⟨some 6, .as (.c (.lit (.int .i64 0))), none⟩] []) (.block 0 (.loop (.seq (.seq (.reg false [⟨some 21, .mv (.t 6), none⟩, ⟨some 22, .mv (.t 5), none⟩, ⟨some 23, .len false (.t 22), none⟩, ⟨some 24, .bin .lss 0 (.t 21) (.t 23), none⟩] [21, 22, 23]) (.cond (.t 24) (.skip) (.exit 0))) (.seq (.block 1 (.seq (.reg false [⟨some 28, .mv (.t 5), none⟩, ⟨some 29, .mv (.t 6), none⟩, ⟨some 30, .ia 1 (.t 28) (.t 29), none⟩, ⟨some 31, .ld false 1 (.t 30), none⟩, ⟨some 32, .call false 168 [(.t 31)], none⟩, ⟨some 27, .mv (.t 32), none⟩, ⟨some 33, .ext (.t 27) 0, none⟩, ⟨some 34, .ext (.t 27) 1, none⟩, ⟨some 7, .alloc (.agg [(.lit (.string (by8 ""))), (.lit (.string (by8 "")))]), none⟩, ⟨none, .st 2 (.t 7) (.t 33), none⟩, ⟨some 8, .as (.t 34), none⟩] [28, 29, 30, 31, 32, 27, 33, 34]) (.seq (.seq (.reg false [⟨some 35, .mv (.t 8), none⟩, ⟨some 36, .un .not (.t 35), none⟩] [35]) (.cond (.t 36) (.seq (.reg false [⟨some 37, .bsl 2 [], none⟩, ⟨some 2, .as (.t 37), none⟩, ⟨some 3, .as (.c (.lit (.bool false))), none⟩] [37]) (.ret)) (.skip))) (.reg false [⟨some 38, .mv (.t 4), none⟩, ⟨some 39, .ld true 2 (.t 7), none⟩, ⟨some 40, .bsl 2 [(.t 39)], none⟩, ⟨some 41, .app 2 32 (.t 38) (.t 40), none⟩, ⟨some 4, .as (.t 41), none⟩] [38, 39, 40, 41])))) (.reg false [⟨some 25, .mv (.t 6), none⟩, ⟨some 26, .bin .add 0 (.t 25) (.c (.lit (.int .i64 1))), none⟩, ⟨some 6, .as (.t 26), none⟩] [25, 26])))))) (.seq (.reg false [⟨some 42, .mv (.t 4), none⟩, ⟨some 2, .as (.t 42), none⟩, ⟨some 3, .as (.c (.lit (.bool true))), none⟩] [42]) (.ret))))))
theorem is122 : Is Go.Proofs.Tryz.prog 122 43 v122 [.t 2, .t 3] := ⟨Go.Proofs.Tryz.f122, dl [(0, [2, 3]), (1, [9]), (2, [10, 11]), (3, [12, 13, 14, 15, 16, 17, 18]), (4, [20]), (6, [21, 22, 23]), (8, [28, 29, 30, 31, 32, 27, 33, 34]), (9, [35]), (10, [37]), (11, [38, 39, 40, 41]), (7, [25, 26]), (12, [42])], Go.Proofs.Tryz.func122, by kernel_rfl, by kernel_rfl, by kernel_rfl, by kernel_rfl⟩
noncomputable def bndR : Option (ByteArray × ByteArray) → AV
  | some p => .tup [bndV p.1 p.2, .lit (.bool true)]
  | none => .tup [bndV (by8 "") (by8 ""), .lit (.bool false)]
theorem bndR_ok (o : Option (ByteArray × ByteArray)) : resOk (bndR o) = true := by cases o <;> rfl
theorem w64_0 : IntKind.i64.wrap 0 = 0 := wrap_i64 (by omega) (by omega)
theorem w64_1 : IntKind.i64.wrap 1 = 1 := wrap_i64 (by omega) (by omega)
theorem short_more {s : ByteArray} {w : List ByteArray} (h : spl 46 s = w) (h2 : 2 < w.length) : shortO s = none := by
  unfold shortO
  rw [h]
  match w, h2 with
  | a :: b :: c :: r, _ => rfl
noncomputable def lastO (s : ByteArray) : Option (ByteArray × ByteArray) := match exactO s with
  | some p => some p
  | none => shortO s
theorem part_sgn {s : ByteArray} (c0 : ¬ s = by8 "*") (h0 : 0 < s.size) (h : bt s 0 = 62 ∨ bt s 0 = 60) : partO s = sgnO s := by
  have h1 : ¬ (0 < s.size ∧ (bt s 0 = 94 ∨ bt s 0 = 126)) := by
    rintro ⟨_, h2⟩
    rcases h with h | h <;> rw [h] at h2 <;> revert h2 <;> decide
  rw [partO, if_neg c0, if_neg h1, if_pos ⟨h0, h⟩]
theorem part_car {s : ByteArray} (c0 : ¬ s = by8 "*") (h0 : 0 < s.size) (h : bt s 0 = 94 ∨ bt s 0 = 126) : partO s = carO s := by
  rw [partO, if_neg c0, if_pos ⟨h0, h⟩]
theorem part_last {s : ByteArray} (c0 : ¬ s = by8 "*") (h9 : ¬ (0 < s.size ∧ (bt s 0 = 94 ∨ bt s 0 = 126)) ∨ s.size ≤ 1) (h8 : ¬ (0 < s.size ∧ (bt s 0 = 62 ∨ bt s 0 = 60))) : partO s = lastO s := by
  rw [partO, if_neg c0]
  rcases h9 with h9 | h9
  · rw [if_neg h9, if_neg h8]; rfl
  · by_cases h7 : 0 < s.size ∧ (bt s 0 = 94 ∨ bt s 0 = 126)
    · have h6 : s.extract 1 s.size = by8 "" := size_nil (by rw [ext_size]; omega)
      have h5 : readVer s = none ∧ shortO s = none := by
        rcases h7.2 with h | h
        · exact first_no (c := 94) (by decide) (by decide) (by decide) (by decide +kernel) h7.1 h
        · exact first_no (c := 126) (by decide) (by decide) (by decide) (by decide +kernel) h7.1 h
      have h4 : readVer (by8 "") = none := by rw [readVer, cand_nil]; rfl
      rw [if_pos h7, carO, h6, h4, lastO, exact_no h5.1, h5.2]
    · rw [if_neg h7, if_neg h8]; rfl
noncomputable def rngRes (s : ByteArray) : AV := match rngO s with
  | some l => .tup [.sl ⟨.no, true⟩ 2 (l.map fun b => bndV b.1 b.2), .lit (.bool true)]
  | none => .tup [.sl ⟨.no, true⟩ 2 [], .lit (.bool false)]
theorem rngRes_ok (s : ByteArray) : resOk (rngRes s) = true := by unfold rngRes; cases rngO s <;> rfl
theorem fin_row2 {n m sz : Nat} {xs : List AV} {s : AS} {r : AV} {ap : Ap} {v : Value} (hnm : n ≠ m) (h : s.get n = .sl ⟨ap, true⟩ sz xs) (h2 : s.get m = .lit v) (hr : r = .tup [.sl ⟨.no, true⟩ sz xs, .lit v]) : Fin [.t n, .t m] r [] .ret s := Fin_wk2' (s1 := ⟨[(n, .sl ⟨.no, true⟩ sz xs), (m, .lit v)], []⟩) (Wk.both (by simp [wkL, h, h2, wkV.same]; exact wkV_no ap true sz xs) (by simp [wkB])) (r1 := .sl ⟨.no, true⟩ sz xs) (r2 := .lit v) (by simp [resVs, resV, AS.get, look, hnm]; rw [if_neg fun e => hnm e.symm]; rfl) (by rw [hr]; rfl)
theorem fin_nil2 {n m sz : Nat} {s : AS} {r : AV} {v : Value} (hnm : n ≠ m) (h : s.get n = .sl ⟨.nl, true⟩ 1 []) (h2 : s.get m = .lit v) (hr : r = .tup [.sl ⟨.no, true⟩ sz [], .lit v]) : Fin [.t n, .t m] r [] .ret s := Fin_wk2' (s1 := ⟨[(n, .sl ⟨.no, true⟩ sz []), (m, .lit v)], []⟩) (Wk.both (by simp [wkL, h, h2, wkV.same]; exact .inr (.inr ⟨_, _, _, _, _, rfl, rfl, id, .inl ⟨rfl, .inr rfl⟩⟩)) (by simp [wkB])) (r1 := .sl ⟨.no, true⟩ sz []) (r2 := .lit v) (by simp [resVs, resV, AS.get, look, hnm]; rw [if_neg fun e => hnm e.symm]; rfl) (by rw [hr]; rfl)
theorem parts_size {s p : ByteArray} (h : p ∈ spB barB s) : p.size ≤ s.size := spB_size (by rw [barB_size]; omega) s.size s (Nat.le_refl _) p h
section
variable {E : Env} (hE : E.P = Go.Proofs.Tryz.prog)
include hE
set_option maxHeartbeats 4000000 in
theorem short03_fx (s : ByteArray) (hs : s.size ≤ 1073741824) : Fx E 208 [] [.lit (.string s)] [] (bndR (shortO s)) := by
  have e2 : (by8 ".0").size = 2 := by decide +kernel
  have e4 : (by8 ".0.0").size = 4 := by decide +kernel
  refine (is208.to hE).fx [] (by simp) rfl (bndR_ok _) ?_
  simp [v208, okC]
  refine vcall_go (l01Cut_fx hE s 46 (by omega)) (by simp) (by simp) (by simp) (by simp) ?_
  have hll := spl_len_le 46 s
  have hne := spl_ne 46 s
  obtain ⟨w, hw⟩ : ∃ w, spl 46 s = w := ⟨_, rfl⟩
  rw [hw] at hll hne ⊢
  have hw0 : IntKind.i64.wrap ((w.length : Int) - 1) = w.length - 1 := wrap_i64 (by omega) (by omega)
  simp
  refine ⟨by omega, ?_⟩
  match w, hne with
  | [a], _ =>
    simp
    refine ⟨by omega, ?_⟩
    refine vcall_go (specReadVer_fx hE (s ++ by8 ".0.0") (by rw [ByteArray.size_append]; omega)) (by simp) (by simp) (by simp) (by simp) ?_
    unfold verRes
    have hso : shortO s = if 0 ≤ readDec a ∧ verOk ⟨readDec a + 1, 0, 0, []⟩ = true then some (verT ⟨readDec a, 0, 0, []⟩, verT ⟨readDec a + 1, 0, 0, [by8 "0"]⟩) else none := by rw [shortO, hw]
    cases hr : readVer (s ++ by8 ".0.0") with
    | none =>
      have hx : shortO s = none := by
        rw [hso, if_neg]
        rintro ⟨h, _⟩
        rw [(short_one_back hw h).2] at hr; cases hr
      simp [verNone, okC, putElem, upd, fill]
      exact Fin_ret2 rfl (by rw [hx]; rfl)
    | some v =>
      by_cases hp : v.pre = []
      · obtain ⟨n, hn, rfl, hd, rfl⟩ := short_one hw hr hp
        have hb := short_one_back hw (by omega)
        rw [hd] at hso hb
        have hbl := specBelow_fx hE ⟨n, 0, 0, []⟩ (ver_back hr).1 0 (by simp)
        have hnx : nextV ⟨n, 0, 0, []⟩ 0 = ⟨(n : Int) + 1, 0, 0, []⟩ := rfl
        rw [belowRes, hnx] at hbl
        rcases apS_cases (s ++ by8 ".0.0") with h | h
        all_goals
          simp [verSome, okC, putElem, upd, fill, h]
          refine vcall_go (l01In_fx hE 1 1 2) (by simp) (by simp) (by simp) (by simp) ?_
          simp [inR]
          refine vcall_go hbl (by simp [Ver.av, ro, w64_0, w64_1]) (by simp) (by simp) (by simp) ?_
          cases hk : verOk ⟨(n : Int) + 1, 0, 0, []⟩
          · rw [hk, if_neg (by simp)] at hso
            simp [okC, putElem, upd, fill]
            exact Fin_ret2 rfl (by rw [hso]; rfl)
          · rw [hk, if_pos ⟨by omega, rfl⟩] at hso
            simp [okC, putElem, upd, fill]
            exact Fin_ret2 rfl (by rw [hso, hb.1]; rfl)
      · have hx : shortO s = none := by
          rw [hso, if_neg]
          rintro ⟨h, _⟩
          rw [(short_one_back hw h).2] at hr
          rw [← Option.some.inj hr] at hp
          exact hp rfl
        have hp0 : 0 < v.pre.length := List.length_pos_iff.2 hp
        rcases apS_cases (s ++ by8 ".0.0") with h | h
        all_goals
          simp [verSome, okC, putElem, upd, fill, h, hp, hp0]
          refine vcall_go (l01In_fx hE 1 1 2) (by simp) (by simp) (by simp) (by simp) ?_
          simp [inR, hp0, okC, putElem, upd, fill]
          exact Fin_ret2 rfl (by rw [hx]; rfl)
  | [a, b], _ =>
    simp
    refine vcall_go (specReadVer_fx hE (s ++ by8 ".0") (by rw [ByteArray.size_append]; omega)) (by simp) (by simp) (by simp) (by simp) ?_
    unfold verRes
    have hso : shortO s = if (0 ≤ readDec a ∧ 0 ≤ readDec b) ∧ verOk ⟨readDec a, readDec b + 1, 0, []⟩ = true then some (verT ⟨readDec a, readDec b, 0, []⟩, verT ⟨readDec a, readDec b + 1, 0, [by8 "0"]⟩) else none := by rw [shortO, hw]
    cases hr : readVer (s ++ by8 ".0") with
    | none =>
      have hx : shortO s = none := by
        rw [hso, if_neg]
        rintro ⟨⟨h, h9⟩, _⟩
        rw [(short_two_back hw h h9).2] at hr; cases hr
      simp [verNone, okC, putElem, upd, fill]
      exact Fin_ret2 rfl (by rw [hx]; rfl)
    | some v =>
      by_cases hp : v.pre = []
      · obtain ⟨n, m, ⟨hn, hm⟩, ⟨hd, hd2⟩, rfl⟩ := short_two hw hr hp
        have hb := short_two_back hw (by omega) (by omega)
        rw [hd, hd2] at hso hb
        have hbl := specBelow_fx hE ⟨n, m, 0, []⟩ (ver_back hr).1 1 (by simp)
        have hnx : nextV ⟨n, m, 0, []⟩ 1 = ⟨n, (m : Int) + 1, 0, []⟩ := rfl
        rw [belowRes, hnx] at hbl
        rcases apS_cases (s ++ by8 ".0") with h | h
        all_goals
          simp [verSome, okC, putElem, upd, fill, h]
          refine vcall_go (l01In_fx hE 2 1 2) (by simp) (by simp) (by simp) (by simp) ?_
          simp [inR]
          refine vcall_go hbl (by simp [Ver.av, ro, w64_0, w64_1]) (by simp) (by simp) (by simp) ?_
          cases hk : verOk ⟨(n : Int), (m : Int) + 1, 0, []⟩
          · rw [hk, if_neg (by simp)] at hso
            simp [okC, putElem, upd, fill]
            exact Fin_ret2 rfl (by rw [hso]; rfl)
          · rw [hk, if_pos ⟨⟨by omega, by omega⟩, rfl⟩] at hso
            simp [okC, putElem, upd, fill]
            exact Fin_ret2 rfl (by rw [hso, hb.1]; rfl)
      · have hx : shortO s = none := by
          rw [hso, if_neg]
          rintro ⟨⟨h, h9⟩, _⟩
          rw [(short_two_back hw h h9).2] at hr
          rw [← Option.some.inj hr] at hp
          exact hp rfl
        have hp0 : 0 < v.pre.length := List.length_pos_iff.2 hp
        rcases apS_cases (s ++ by8 ".0") with h | h
        all_goals
          simp [verSome, okC, putElem, upd, fill, h, hp, hp0]
          refine vcall_go (l01In_fx hE 2 1 2) (by simp) (by simp) (by simp) (by simp) ?_
          simp [inR, hp0, okC, putElem, upd, fill]
          exact Fin_ret2 rfl (by rw [hx]; rfl)
  | a :: b :: c :: r, _ =>
    have hx : shortO s = none := short_more hw (by simp)
    have hn1 : ¬ ((r.length : Int) + 1 + 1 + 1 = 1) := by omega
    simp [hn1]
    refine vcall_go (specReadVer_fx hE (s ++ by8 ".0") (by rw [ByteArray.size_append]; omega)) (by simp) (by simp) (by simp) (by simp) ?_
    unfold verRes
    cases hr : readVer (s ++ by8 ".0") with
    | none =>
      simp [verNone, okC, putElem, upd, fill]
      exact Fin_ret2 rfl (by rw [hx]; rfl)
    | some v =>
      have hin : inR ((r.length : Int) + 1 + 1 + 1) 1 2 = false := by simp [inR]; omega
      rcases apS_cases (s ++ by8 ".0") with h | h
      all_goals
        simp [verSome, okC, putElem, upd, fill, h]
        refine vcall_go (l01In_fx hE ((r.length : Int) + 1 + 1 + 1) 1 2) (by simp) (by simp) (by simp) (by simp) ?_
        rw [hin]
        simp [okC, putElem, upd, fill]
        exact Fin_ret2 rfl (by rw [hx]; rfl)
set_option maxHeartbeats 8000000 in
theorem part03_fx (s : ByteArray) (hs : s.size ≤ 1073741823) : Fx E 168 [] [.lit (.string s)] [] (bndR (partO s)) := by
  have hsg : Fx E 206 [] [.lit (.string s)] [] (bndR (sgnO s)) := signs03_fx hE s (by omega)
  refine (is168.to hE).fx [] (by simp) rfl (bndR_ok _) ?_
  by_cases c0 : s = by8 "*"
  · have hx : partO s = some (by8 "", by8 "") := by rw [partO, if_pos c0]
    rw [hx]
    simp [v168, c0, okC, putElem, upd, fill]
    exact Fin_ret2 rfl rfl
  simp [v168, c0, okC]
  by_cases c1 : 1 < s.size
  · have c1' : (1 : Int) < s.size := by omega
    have c1z : 0 < s.size := by omega
    simp [c1', c1z]
    by_cases d : bt s 0 = 94 ∨ bt s 0 = 126
    · have hx := part_car c0 c1z d
      have ze : (s.extract 1 s.size).size = s.size - 1 := by rw [ext_size]; omega
      rcases d with d | d
      · have hp : ∀ v, carP s v = careV v := fun v => by rw [carP, if_neg (by rw [d]; decide)]
        simp [d]
        refine wh_l (l := 1) (k := .i64) rfl (by omega) (by omega) ?_
        simp
        refine vcall_go (specReadVer_fx hE (s.extract 1 s.size) (by omega)) (by simp) (by simp) (by simp) (by simp) ?_
        unfold verRes
        cases hr : readVer (s.extract 1 s.size) with
        | none =>
          have hc : carO s = none := by rw [carO, hr]
          simp [verNone, okC, putElem, upd, fill]
          exact Fin_ret2 rfl (by rw [hx, hc]; rfl)
        | some v =>
          have hc : carO s = if verOk (nextV v (careV v)) = true then some (s.extract 1 s.size, verT ⟨(nextV v (careV v)).maj, (nextV v (careV v)).min, (nextV v (careV v)).pat, [by8 "0"]⟩) else none := by
            rw [carO, hr]; simp only [hp]
          have hcs := carP_cases s v
          rw [hp] at hcs
          have hf := from_fx hE (s.extract 1 s.size) v (ver_back hr).1 (careV v) hcs
          rcases apS_cases (s.extract 1 s.size) with h | h
          all_goals
            simp [verSome, okC, putElem, upd, fill, h, c1z, d]
            refine wh_l (l := 1) (k := .i64) rfl (by omega) (by omega) ?_
            simp
            refine vcall_go (care_fx hE v) (by simp [Ver.av, ro]) (by simp) (by simp) (by simp) ?_
            simp
            refine vcall_go hf (by simp [Ver.av, ro]) (by simp) (by simp) (by simp) ?_
            cases hk : verOk (nextV v (careV v))
            · rw [hk, if_neg (by simp)] at hc
              simp [bndV, okC, putElem, upd, fill]
              exact Fin_ret2 rfl (by rw [hx, hc]; rfl)
            · rw [hk, if_pos rfl] at hc
              simp [bndV, okC, putElem, upd, fill]
              exact Fin_ret2 rfl (by rw [hx, hc]; rfl)
      · have hp : ∀ v, carP s v = 1 := fun v => by rw [carP, if_pos d]
        simp [d, c1z]
        refine wh_l (l := 1) (k := .i64) rfl (by omega) (by omega) ?_
        simp
        refine vcall_go (specReadVer_fx hE (s.extract 1 s.size) (by omega)) (by simp) (by simp) (by simp) (by simp) ?_
        unfold verRes
        cases hr : readVer (s.extract 1 s.size) with
        | none =>
          have hc : carO s = none := by rw [carO, hr]
          simp [verNone, okC, putElem, upd, fill]
          exact Fin_ret2 rfl (by rw [hx, hc]; rfl)
        | some v =>
          have hc : carO s = if verOk (nextV v (1)) = true then some (s.extract 1 s.size, verT ⟨(nextV v (1)).maj, (nextV v (1)).min, (nextV v (1)).pat, [by8 "0"]⟩) else none := by
            rw [carO, hr]; simp only [hp]
          have hf := from_fx hE (s.extract 1 s.size) v (ver_back hr).1 1 (by simp)
          rcases apS_cases (s.extract 1 s.size) with h | h
          all_goals
            simp [verSome, okC, putElem, upd, fill, h, c1z, d]
            refine wh_l (l := 1) (k := .i64) rfl (by omega) (by omega) ?_
            simp
            refine vcall_go hf (by simp [Ver.av, ro]) (by simp) (by simp) (by simp) ?_
            cases hk : verOk (nextV v (1))
            · rw [hk, if_neg (by simp)] at hc
              simp [bndV, okC, putElem, upd, fill]
              exact Fin_ret2 rfl (by rw [hx, hc]; rfl)
            · rw [hk, if_pos rfl] at hc
              simp [bndV, okC, putElem, upd, fill]
              exact Fin_ret2 rfl (by rw [hx, hc]; rfl)
    · have d1 : ¬ ((bt s 0).toNat : Int) = 94 := fun e => d (.inl (u8_eq.1 (e.trans rfl)))
      have d2 : ¬ ((bt s 0).toNat : Int) = 126 := fun e => d (.inr (u8_eq.1 (e.trans rfl)))
      have nA : ¬ (0 < s.size ∧ (bt s 0 = 94 ∨ bt s 0 = 126)) ∨ s.size ≤ 1 := .inl fun h => d h.2
      simp [d1, d2, c1z]
      have z := c1z
      · skip
        by_cases d1 : ((bt s 0).toNat : Int) = 62
        · have hx := part_sgn c0 z (.inl (u8_eq.1 (d1.trans rfl)))
          simp [d1]
          refine vcall_go hsg (by simp) (by simp) (by simp) (by simp) ?_
          cases hr : sgnO s with
          | some p =>
            simp [bndR, bndV, okC, putElem, upd, fill]
            exact Fin_ret2 rfl (by rw [hx, hr]; rfl)
          | none =>
            simp [bndR, bndV, okC, putElem, upd, fill]
            exact Fin_ret2 rfl (by rw [hx, hr]; rfl)
        · have d1' : ¬ bt s 0 = 62 := fun e => d1 (by rw [e]; rfl)
          simp [d1, z]
          by_cases d2 : ((bt s 0).toNat : Int) = 60
          · have hx := part_sgn c0 z (.inr (u8_eq.1 (d2.trans rfl)))
            simp [d2]
            refine vcall_go hsg (by simp) (by simp) (by simp) (by simp) ?_
            cases hr : sgnO s with
            | some p =>
              simp [bndR, bndV, okC, putElem, upd, fill]
              exact Fin_ret2 rfl (by rw [hx, hr]; rfl)
            | none =>
              simp [bndR, bndV, okC, putElem, upd, fill]
              exact Fin_ret2 rfl (by rw [hx, hr]; rfl)
          · have d2' : ¬ bt s 0 = 60 := fun e => d2 (by rw [e]; rfl)
            have hx := part_last c0 nA fun h => h.2.elim d1' d2'
            simp [d2]
            refine vcall_go (specAlone_fx hE s (by omega)) (by simp) (by simp) (by simp) (by simp) ?_
            cases hq : exactO s with
            | some p =>
              simp [aloneRes, hq, bndV, okC, putElem, upd, fill]
              exact Fin_ret2 rfl (by rw [hx, lastO, hq]; rfl)
            | none =>
              simp [aloneRes, hq, bndV, okC, putElem, upd, fill]
              refine vcall_go (short03_fx hE s (by omega)) (by simp) (by simp) (by simp) (by simp) ?_
              cases hr : shortO s with
              | some p =>
                simp [bndR, bndV, okC, putElem, upd, fill]
                exact Fin_ret2 rfl (by rw [hx, lastO, hq, hr]; rfl)
              | none =>
                simp [bndR, bndV, okC, putElem, upd, fill]
                exact Fin_ret2 rfl (by rw [hx, lastO, hq, hr]; rfl)
  · have c1' : ¬ (1 : Int) < s.size := by omega
    have nA : ¬ (0 < s.size ∧ (bt s 0 = 94 ∨ bt s 0 = 126)) ∨ s.size ≤ 1 := .inr (by omega)
    simp [c1']
    by_cases z : 0 < s.size
    · simp [z]
      by_cases d1 : ((bt s 0).toNat : Int) = 62
      · have hx := part_sgn c0 z (.inl (u8_eq.1 (d1.trans rfl)))
        simp [d1]
        refine vcall_go hsg (by simp) (by simp) (by simp) (by simp) ?_
        cases hr : sgnO s with
        | some p =>
          simp [bndR, bndV, okC, putElem, upd, fill]
          exact Fin_ret2 rfl (by rw [hx, hr]; rfl)
        | none =>
          simp [bndR, bndV, okC, putElem, upd, fill]
          exact Fin_ret2 rfl (by rw [hx, hr]; rfl)
      · have d1' : ¬ bt s 0 = 62 := fun e => d1 (by rw [e]; rfl)
        simp [d1, z]
        by_cases d2 : ((bt s 0).toNat : Int) = 60
        · have hx := part_sgn c0 z (.inr (u8_eq.1 (d2.trans rfl)))
          simp [d2]
          refine vcall_go hsg (by simp) (by simp) (by simp) (by simp) ?_
          cases hr : sgnO s with
          | some p =>
            simp [bndR, bndV, okC, putElem, upd, fill]
            exact Fin_ret2 rfl (by rw [hx, hr]; rfl)
          | none =>
            simp [bndR, bndV, okC, putElem, upd, fill]
            exact Fin_ret2 rfl (by rw [hx, hr]; rfl)
        · have d2' : ¬ bt s 0 = 60 := fun e => d2 (by rw [e]; rfl)
          have hx := part_last c0 nA fun h => h.2.elim d1' d2'
          simp [d2]
          refine vcall_go (specAlone_fx hE s (by omega)) (by simp) (by simp) (by simp) (by simp) ?_
          cases hq : exactO s with
          | some p =>
            simp [aloneRes, hq, bndV, okC, putElem, upd, fill]
            exact Fin_ret2 rfl (by rw [hx, lastO, hq]; rfl)
          | none =>
            simp [aloneRes, hq, bndV, okC, putElem, upd, fill]
            refine vcall_go (short03_fx hE s (by omega)) (by simp) (by simp) (by simp) (by simp) ?_
            cases hr : shortO s with
            | some p =>
              simp [bndR, bndV, okC, putElem, upd, fill]
              exact Fin_ret2 rfl (by rw [hx, lastO, hq, hr]; rfl)
            | none =>
              simp [bndR, bndV, okC, putElem, upd, fill]
              exact Fin_ret2 rfl (by rw [hx, lastO, hq, hr]; rfl)
    · have hx := part_last c0 nA fun h => z h.1
      simp [z]
      refine vcall_go (specAlone_fx hE s (by omega)) (by simp) (by simp) (by simp) (by simp) ?_
      cases hq : exactO s with
      | some p =>
        simp [aloneRes, hq, bndV, okC, putElem, upd, fill]
        exact Fin_ret2 rfl (by rw [hx, lastO, hq]; rfl)
      | none =>
        simp [aloneRes, hq, bndV, okC, putElem, upd, fill]
        refine vcall_go (short03_fx hE s (by omega)) (by simp) (by simp) (by simp) (by simp) ?_
        cases hr : shortO s with
        | some p =>
          simp [bndR, bndV, okC, putElem, upd, fill]
          exact Fin_ret2 rfl (by rw [hx, lastO, hq, hr]; rfl)
        | none =>
          simp [bndR, bndV, okC, putElem, upd, fill]
          exact Fin_ret2 rfl (by rw [hx, lastO, hq, hr]; rfl)
set_option maxHeartbeats 4000000 in
theorem specRange_fx (s : ByteArray) (hs : s.size ≤ 1073741823) : Fx E 122 [] [.lit (.string s)] [] (rngRes s) := by
  refine (is122.to hE).fx [] (by simp) rfl (rngRes_ok _) ?_
  simp [v122]
  refine vcall_go (l03Parts_fx hE s (by omega)) (by simp) (by simp) (by simp) (by simp) ?_
  have hll := spB_len_le (sep := barB) (s := s) (by rw [barB_size]; omega)
  have hz : ∀ p ∈ spB barB s, p.size ≤ s.size := fun p hp => parts_size hp
  have hno : ∀ {b : Prop}, (rngO s = none) → rngRes s = .tup [.sl ⟨.no, true⟩ 2 [], .lit (.bool false)] := fun h => by rw [rngRes, h]
  have hrg : rngO s = if s.size ≤ 200 ∧ (spB barB s).length ≤ 8 then mapO (spB barB s) else none := rfl
  obtain ⟨w, hw⟩ : ∃ w, spB barB s = w := ⟨_, rfl⟩
  rw [hw] at hll hz hrg ⊢
  simp
  by_cases c1 : (200 : Int) < s.size
  · have hn : rngO s = none := by rw [hrg, if_neg (by omega)]
    simp [c1]
    exact fin_row2 (by decide) rfl rfl (hno (b := True) hn)
  simp [c1]
  by_cases c2 : (8 : Int) < w.length
  · have hn : rngO s = none := by rw [hrg, if_neg (by omega)]
    simp [c2]
    exact fin_row2 (by decide) rfl rfl (hno (b := True) hn)
  rw [if_pos (by omega)] at hrg
  simp [c2]
  refine X_loop (τ := Nat × List (ByteArray × ByteArray)) (fun p => ⟨[(0, .lit (.string s)), (4, .sl ⟨.cl 576, true⟩ 2 (p.2.map fun b => bndV b.1 b.2)), (5, .sl ⟨.no, true⟩ 1 (w.map fun x => .lit (.string x))), (6, .lit (.int .i64 p.1))], []⟩) (fun p => p.1 ≤ w.length ∧ mapO (w.take p.1) = some p.2) (fun p => w.length - p.1) (0, []) ⟨by omega, rfl⟩ (Wk.both (by simp [wkL, wkV.same, frA.frL]) trivial) ?_
  rintro ⟨i, out⟩ ⟨hi, hm⟩
  simp only at hi hm
  have hol := mapO_len hm
  rw [List.length_take] at hol
  simp
  by_cases hlt : i < w.length
  · have hpz := hz _ (List.getElem_mem hlt)
    simp [hlt, mkF]
    refine vcall_go (part03_fx hE w[i] (by omega)) (by simp) (by simp) (by simp) (by simp) ?_
    cases hp : partO w[i] with
    | none =>
      have hn : rngO s = none := by rw [hrg, mapO_none hlt hp]
      simp [bndR, bndV, okC, putElem, upd, fill]
      exact fin_row2 (by decide) rfl rfl (hno (b := True) hn)
    | some b =>
      simp [bndR, bndV, okC, putElem, upd, fill, frA, frA.frL, AS.dem, mapV, dem, dem.demL]
      refine ⟨by omega, i + 1, out ++ [b], ⟨by omega, mapO_next hlt hm hp⟩, by omega, Wk.both (by simp [wkL, wkV.same, bndV]; rw [wrapN (by omega)]; exact wkV.same _) (by simp [wkB])⟩
  · obtain rfl : i = w.length := by omega
    rw [List.take_length] at hm
    simp
    exact fin_row2 (by decide) rfl rfl (by rw [rngRes, hrg, hm])
end
end Go.Proofs.YtgegcfhifojjiaaGreatDoor.Vm
