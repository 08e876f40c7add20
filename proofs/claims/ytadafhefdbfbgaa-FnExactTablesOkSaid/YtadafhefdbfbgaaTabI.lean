/- TablesOk: the program's side. -/
import Derived.Test.YtadafhefdbfbgaaTabS
import Derived.Test.YtadafhefdbfbgaaVmBx
namespace Go.Proofs.Ytadafhefdbfbgaa.Vm
open Go Go.RowKit
set_option linter.unusedVariables false
set_option linter.unusedSimpArgs false
def v106 : VC := .seq (.reg false [⟨some 6, .as (.c (.lit (.bool false))), none⟩] [6]) (.seq (.reg false [⟨some 7, .mv (.t 1), none⟩, ⟨some 8, .mv (.t 0), none⟩, ⟨some 9, .bin .leq 0 (.t 7) (.t 8), none⟩, ⟨some 10, .mv (.t 9), none⟩, ⟨some 11, .mv (.t 0), (some (10, true))⟩, ⟨some 12, .mv (.t 2), (some (10, true))⟩, ⟨some 13, .bin .leq 0 (.t 11) (.t 12), (some (10, true))⟩, ⟨some 14, .pick (.t 10) (.t 13) (.c (.lit (.bool false))), none⟩, ⟨some 6, .as (.t 14), none⟩] [7, 8, 9, 10, 11, 12, 13, 14]) (.ret))
theorem is106 : Is Go.Proofs.Try.prog 106 15 v106 [.t 6] := ⟨Go.Proofs.Try.f106, dl [(0, [6]), (1, [7, 8, 9, 10, 11, 12, 13, 14])], Go.Proofs.Try.func106, by kernel_rfl, by kernel_rfl, by kernel_rfl, by kernel_rfl⟩
def v110 : VC := .seq (.reg false [⟨some 2, .as (.c (.lit (.bool false))), none⟩] [2]) (.seq (.reg false [⟨some 3, .mv (.t 0), none⟩, ⟨some 4, .bin .geq 0 (.t 3) (.c (.lit (.int .u8 48))), none⟩, ⟨some 5, .mv (.t 4), none⟩, ⟨some 6, .mv (.t 0), (some (5, true))⟩, ⟨some 7, .bin .leq 0 (.t 6) (.c (.lit (.int .u8 57))), (some (5, true))⟩, ⟨some 8, .pick (.t 5) (.t 7) (.c (.lit (.bool false))), none⟩, ⟨some 2, .as (.t 8), none⟩] [3, 4, 5, 6, 7, 8]) (.ret))
theorem is110 : Is Go.Proofs.Try.prog 110 9 v110 [.t 2] := ⟨Go.Proofs.Try.f110, dl [(0, [2]), (1, [3, 4, 5, 6, 7, 8])], Go.Proofs.Try.func110, by kernel_rfl, by kernel_rfl, by kernel_rfl, by kernel_rfl⟩
def v109 : VC := .seq (.reg false [⟨some 2, .as (.c (.lit (.bool false))), none⟩] [2]) (.seq (.reg false [⟨some 3, .mv (.t 0), none⟩, ⟨some 4, .bin .geq 0 (.t 3) (.c (.lit (.int .u8 97))), none⟩, ⟨some 5, .mv (.t 4), none⟩, ⟨some 6, .mv (.t 0), (some (5, true))⟩, ⟨some 7, .bin .leq 0 (.t 6) (.c (.lit (.int .u8 122))), (some (5, true))⟩, ⟨some 8, .pick (.t 5) (.t 7) (.c (.lit (.bool false))), none⟩, ⟨some 2, .as (.t 8), none⟩] [3, 4, 5, 6, 7, 8]) (.ret))
theorem is109 : Is Go.Proofs.Try.prog 109 9 v109 [.t 2] := ⟨Go.Proofs.Try.f109, dl [(0, [2]), (1, [3, 4, 5, 6, 7, 8])], Go.Proofs.Try.func109, by kernel_rfl, by kernel_rfl, by kernel_rfl, by kernel_rfl⟩
def v108 : VC := .seq (.reg false [⟨some 2, .as (.c (.lit (.bool false))), none⟩] [2]) (.seq (.reg false [⟨some 3, .mv (.t 0), none⟩, ⟨some 4, .call false 109 [(.t 3)], none⟩, ⟨some 5, .mv (.t 4), none⟩, ⟨some 6, .mv (.t 0), (some (5, false))⟩, ⟨some 7, .call false 110 [(.t 6)], (some (5, false))⟩, ⟨some 8, .pick (.t 5) (.c (.lit (.bool true))) (.t 7), none⟩, ⟨some 9, .mv (.t 8), none⟩, ⟨some 10, .mv (.t 0), (some (9, false))⟩, ⟨some 11, .bin .eql 0 (.t 10) (.c (.lit (.int .u8 95))), (some (9, false))⟩, ⟨some 12, .pick (.t 9) (.c (.lit (.bool true))) (.t 11), none⟩, ⟨some 13, .mv (.t 12), none⟩, ⟨some 14, .mv (.t 0), (some (13, false))⟩, ⟨some 15, .bin .eql 0 (.t 14) (.c (.lit (.int .u8 45))), (some (13, false))⟩, ⟨some 16, .pick (.t 13) (.c (.lit (.bool true))) (.t 15), none⟩, ⟨some 2, .as (.t 16), none⟩] [3, 4, 5, 6, 7, 8, 9, 10, 11, 12, 13, 14, 15, 16]) (.ret))
theorem is108 : Is Go.Proofs.Try.prog 108 17 v108 [.t 2] := ⟨Go.Proofs.Try.f108, dl [(0, [2]), (1, [3, 4, 5, 6, 7, 8, 9, 10, 11, 12, 13, 14, 15, 16])], Go.Proofs.Try.func108, by kernel_rfl, by kernel_rfl, by kernel_rfl, by kernel_rfl⟩
def v107 : VC := .seq (.reg false [⟨some 4, .as (.c (.lit (.bool false))), none⟩] [4]) (.seq (.seq (.reg false [⟨some 6, .mv (.t 0), none⟩, ⟨some 7, .len true (.t 6), none⟩, ⟨some 8, .mv (.c (.lit (.int .i64 0))), none⟩] [6]) (.block 0 (.loop (.seq (.reg false [⟨some 9, .bin .lss 0 (.t 8) (.t 7), none⟩] []) (.seq (.cond (.t 9) (.skip) (.exit 0)) (.seq (.block 1 (.seq (.reg false [⟨some 10, .mv (.t 8), none⟩, ⟨some 5, .as (.t 10), none⟩] [10]) (.seq (.reg false [⟨some 11, .mv (.t 1), none⟩, ⟨some 12, .mv (.t 0), none⟩, ⟨some 13, .mv (.t 5), none⟩, ⟨some 14, .idx (.t 12) (.t 13), none⟩, ⟨some 15, .callv false (.t 11) [(.t 14)], none⟩, ⟨some 16, .un .not (.t 15), none⟩] [11, 12, 13, 14, 15]) (.cond (.t 16) (.seq (.reg false [⟨some 4, .as (.c (.lit (.bool false))), none⟩] []) (.ret)) (.skip))))) (.reg false [⟨some 17, .bin .add 0 (.t 8) (.c (.lit (.int .i64 1))), none⟩, ⟨some 8, .mv (.t 17), none⟩] [17]))))))) (.seq (.reg false [⟨some 4, .as (.c (.lit (.bool true))), none⟩] []) (.ret)))
theorem is107 : Is Go.Proofs.Try.prog 107 18 v107 [.t 4] := ⟨Go.Proofs.Try.f107, dl [(0, [4]), (1, [6]), (3, [10]), (4, [11, 12, 13, 14, 15]), (6, [17])], Go.Proofs.Try.func107, by kernel_rfl, by kernel_rfl, by kernel_rfl, by kernel_rfl⟩
def v73 : VC := .seq (.reg false [⟨some 2, .as (.c (.lit (.bool false))), none⟩] [2]) (.seq (.reg false [⟨some 3, .mv (.t 0), none⟩, ⟨some 4, .len true (.t 3), none⟩, ⟨some 5, .call false 106 [(.t 4), (.c (.lit (.int .i64 1))), (.c (.lit (.int .i64 30)))], none⟩, ⟨some 6, .mv (.t 5), none⟩, ⟨some 7, .mv (.t 0), (some (6, true))⟩, ⟨some 8, .call false 107 [(.t 7), (.c (.fn 108 []))], (some (6, true))⟩, ⟨some 9, .pick (.t 6) (.t 8) (.c (.lit (.bool false))), none⟩, ⟨some 2, .as (.t 9), none⟩] [3, 4, 5, 6, 7, 8, 9]) (.ret))
theorem is73 : Is Go.Proofs.Try.prog 73 10 v73 [.t 2] := ⟨Go.Proofs.Try.f73, dl [(0, [2]), (1, [3, 4, 5, 6, 7, 8, 9])], Go.Proofs.Try.func73, by kernel_rfl, by kernel_rfl, by kernel_rfl, by kernel_rfl⟩
def v75 : VC := .seq (.reg false [⟨some 2, .box 4 (.t 0), none⟩, ⟨some 3, .as (.c (.lit (.bool false))), none⟩] [3]) (.seq (.reg false [⟨some 4, .fa 0 (.t 2), none⟩, ⟨some 5, .ld false 1 (.t 4), none⟩, ⟨some 6, .fa 0 (.t 1), none⟩, ⟨some 7, .ld false 1 (.t 6), none⟩, ⟨some 8, .bin .eql 0 (.t 5) (.t 7), none⟩, ⟨some 3, .as (.t 8), none⟩] [4, 5, 6, 7, 8]) (.ret))
theorem is75 : Is Go.Proofs.Try.prog 75 9 v75 [.t 3] := ⟨Go.Proofs.Try.f75, dl [(0, [3]), (1, [4, 5, 6, 7, 8])], Go.Proofs.Try.func75, by kernel_rfl, by kernel_rfl, by kernel_rfl, by kernel_rfl⟩
def v111 : VC := .seq (.reg false [⟨some 4, .as (.c (.lit (.int .i64 0))), none⟩] [4]) (.seq (.seq (.reg false [⟨some 6, .mv (.t 0), none⟩, ⟨some 7, .len false (.t 6), none⟩, ⟨some 8, .mv (.c (.lit (.int .i64 0))), none⟩] [6]) (.block 0 (.loop (.seq (.reg false [⟨some 9, .bin .lss 0 (.t 8) (.t 7), none⟩] []) (.seq (.cond (.t 9) (.skip) (.exit 0)) (.seq (.block 1 (.seq (.reg false [⟨some 10, .mv (.t 8), none⟩, ⟨some 5, .as (.t 10), none⟩] [10]) (.seq (.reg false [⟨some 11, .mv (.t 1), none⟩, ⟨some 12, .mv (.t 0), none⟩, ⟨some 13, .mv (.t 5), none⟩, ⟨some 14, .ia 4 (.t 12) (.t 13), none⟩, ⟨some 15, .ld true 4 (.t 14), none⟩, ⟨some 16, .callv false (.t 11) [(.t 15)], none⟩] [11, 12, 13, 14, 15]) (.cond (.t 16) (.seq (.reg false [⟨some 17, .mv (.t 5), none⟩, ⟨some 4, .as (.t 17), none⟩] [17]) (.ret)) (.skip))))) (.reg false [⟨some 18, .bin .add 0 (.t 8) (.c (.lit (.int .i64 1))), none⟩, ⟨some 8, .mv (.t 18), none⟩] [18]))))))) (.seq (.reg false [⟨some 4, .as (.c (.lit (.int .i64 (-1)))), none⟩] []) (.ret)))
theorem is111 : Is Go.Proofs.Try.prog 111 19 v111 [.t 4] := ⟨Go.Proofs.Try.f111, dl [(0, [4]), (1, [6]), (3, [10]), (4, [11, 12, 13, 14, 15]), (5, [17]), (6, [18])], Go.Proofs.Try.func111, by kernel_rfl, by kernel_rfl, by kernel_rfl, by kernel_rfl⟩
def v74 : VC := .seq (.reg false [⟨some 4, .as (.c (.lit (.bool false))), none⟩] [4]) (.seq (.reg false [⟨some 5, .mv (.t 0), none⟩, ⟨some 6, .mv (.t 1), none⟩, ⟨some 7, .call false 111 [(.t 5), (.t 6)], none⟩, ⟨some 8, .bin .geq 0 (.t 7) (.c (.lit (.int .i64 0))), none⟩, ⟨some 4, .as (.t 8), none⟩] [5, 6, 7, 8]) (.ret))
theorem is74 : Is Go.Proofs.Try.prog 74 9 v74 [.t 4] := ⟨Go.Proofs.Try.f74, dl [(0, [4]), (1, [5, 6, 7, 8])], Go.Proofs.Try.func74, by kernel_rfl, by kernel_rfl, by kernel_rfl, by kernel_rfl⟩
def v28 : VC := .seq (.reg false [⟨some 2, .as (.c (.lit (.bool false))), none⟩] [2]) (.seq (.seq (.reg false [⟨some 7, .mv (.t 0), none⟩, ⟨some 8, .len false (.t 7), none⟩, ⟨some 9, .mv (.c (.lit (.int .i64 0))), none⟩] []) (.block 0 (.loop (.seq (.reg false [⟨some 10, .bin .lss 0 (.t 9) (.t 8), none⟩] []) (.seq (.cond (.t 10) (.skip) (.exit 0)) (.seq (.block 1 (.seq (.reg false [⟨some 11, .mv (.t 9), none⟩, ⟨some 12, .ia 2 (.t 7) (.t 9), none⟩, ⟨some 13, .ld true 2 (.t 12), none⟩, ⟨some 4, .alloc (.agg [(.lit (.string (by8 ""))), (.sl ⟨.nl, true⟩ 1 [])]), none⟩, ⟨some 3, .as (.t 11), none⟩, ⟨none, .st 2 (.t 4) (.t 13), none⟩] [11, 12, 13]) (.seq (.seq (.reg false [⟨some 14, .fa 0 (.t 4), none⟩, ⟨some 15, .ld false 1 (.t 14), none⟩, ⟨some 16, .call false 73 [(.t 15)], none⟩, ⟨some 17, .un .not (.t 16), none⟩, ⟨some 18, .mv (.t 17), none⟩, ⟨some 19, .mv (.t 3), (some (18, true))⟩, ⟨some 20, .bin .eql 0 (.t 19) (.c (.lit (.int .i64 0))), (some (18, true))⟩, ⟨some 21, .mv (.t 20), (some (18, true))⟩, ⟨some 22, .fa 0 (.t 4), (some (21, true))⟩, ⟨some 23, .ld false 1 (.t 22), (some (21, true))⟩, ⟨some 24, .bin .eql 0 (.t 23) (.c (.lit (.string (by8 "")))), (some (21, true))⟩, ⟨some 25, .pick (.t 21) (.t 24) (.c (.lit (.bool false))), (some (18, true))⟩, ⟨some 26, .mv (.t 25), (some (18, true))⟩, ⟨some 27, .fa 1 (.t 4), (some (26, true))⟩, ⟨some 28, .ld false 1 (.t 27), (some (26, true))⟩, ⟨some 29, .len false (.t 28), (some (26, true))⟩, ⟨some 30, .bin .gtr 0 (.t 29) (.c (.lit (.int .i64 0))), (some (26, true))⟩, ⟨some 31, .pick (.t 26) (.t 30) (.c (.lit (.bool false))), (some (18, true))⟩, ⟨some 32, .un .not (.t 31), (some (18, true))⟩, ⟨some 33, .pick (.t 18) (.t 32) (.c (.lit (.bool false))), none⟩, ⟨some 34, .mv (.t 33), none⟩, ⟨some 35, .fa 1 (.t 4), (some (34, false))⟩, ⟨some 36, .ld false 1 (.t 35), (some (34, false))⟩, ⟨some 37, .len false (.t 36), (some (34, false))⟩, ⟨some 38, .bin .gtr 0 (.t 37) (.c (.lit (.int .i64 20))), (some (34, false))⟩, ⟨some 39, .pick (.t 34) (.c (.lit (.bool true))) (.t 38), none⟩] [14, 15, 16, 17, 18, 19, 20, 21, 22, 23, 24, 25, 26, 27, 28, 29, 30, 31, 32, 33, 34, 35, 36, 37, 38]) (.cond (.t 39) (.seq (.reg false [⟨some 2, .as (.c (.lit (.bool false))), none⟩] []) (.ret)) (.skip))) (.seq (.reg false [⟨some 40, .fa 1 (.t 4), none⟩, ⟨some 41, .ld false 1 (.t 40), none⟩, ⟨some 42, .len false (.t 41), none⟩, ⟨some 43, .mv (.c (.lit (.int .i64 0))), none⟩] [40]) (.block 2 (.loop (.seq (.reg false [⟨some 44, .bin .lss 0 (.t 43) (.t 42), none⟩] []) (.seq (.cond (.t 44) (.skip) (.exit 2)) (.seq (.block 3 (.seq (.reg false [⟨some 45, .mv (.t 43), none⟩, ⟨some 46, .ia 4 (.t 41) (.t 43), none⟩, ⟨some 47, .ld true 4 (.t 46), none⟩, ⟨some 6, .alloc (.agg [(.lit (.string (by8 ""))), (.lit (.string (by8 ""))), (.sl ⟨.nl, true⟩ 1 []), (.lit (.bool false))]), none⟩, ⟨some 5, .as (.t 45), none⟩, ⟨none, .st 4 (.t 6) (.t 47), none⟩] [45, 46, 47]) (.seq (.reg false [⟨some 48, .fa 0 (.t 6), none⟩, ⟨some 49, .ld false 1 (.t 48), none⟩, ⟨some 50, .call false 73 [(.t 49)], none⟩, ⟨some 51, .un .not (.t 50), none⟩, ⟨some 52, .mv (.t 51), none⟩, ⟨some 53, .fa 3 (.t 6), (some (52, false))⟩, ⟨some 54, .ld false 1 (.t 53), (some (52, false))⟩, ⟨some 55, .mv (.t 54), (some (52, false))⟩, ⟨some 56, .fa 1 (.t 6), (some (55, true))⟩, ⟨some 57, .ld false 1 (.t 56), (some (55, true))⟩, ⟨some 58, .bin .neq 0 (.t 57) (.c (.lit (.string (by8 "")))), (some (55, true))⟩, ⟨some 59, .pick (.t 55) (.t 58) (.c (.lit (.bool false))), (some (52, false))⟩, ⟨some 60, .pick (.t 52) (.c (.lit (.bool true))) (.t 59), none⟩, ⟨some 61, .mv (.t 60), none⟩, ⟨some 62, .fa 3 (.t 6), (some (61, false))⟩, ⟨some 63, .ld false 1 (.t 62), (some (61, false))⟩, ⟨some 64, .un .not (.t 63), (some (61, false))⟩, ⟨some 65, .mv (.t 64), (some (61, false))⟩, ⟨some 66, .fa 2 (.t 6), (some (65, true))⟩, ⟨some 67, .ld false 1 (.t 66), (some (65, true))⟩, ⟨some 68, .len false (.t 67), (some (65, true))⟩, ⟨some 69, .bin .gtr 0 (.t 68) (.c (.lit (.int .i64 0))), (some (65, true))⟩, ⟨some 70, .pick (.t 65) (.t 69) (.c (.lit (.bool false))), (some (61, false))⟩, ⟨some 71, .pick (.t 61) (.c (.lit (.bool true))) (.t 70), none⟩, ⟨some 72, .mv (.t 71), none⟩, ⟨some 73, .fa 1 (.t 4), (some (72, false))⟩, ⟨some 74, .ld false 1 (.t 73), (some (72, false))⟩, ⟨some 75, .mv (.t 5), (some (72, false))⟩, ⟨some 76, .slL 4 (.t 74) none (some (.t 75)), (some (72, false))⟩, ⟨some 77, .mkf 75 [(.t 6)], (some (72, false))⟩, ⟨some 78, .call false 74 [(.t 76), (.t 77)], (some (72, false))⟩, ⟨some 79, .pick (.t 72) (.c (.lit (.bool true))) (.t 78), none⟩] [48, 49, 50, 51, 52, 53, 54, 55, 56, 57, 58, 59, 60, 61, 62, 63, 64, 65, 66, 67, 68, 69, 70, 71, 72, 73, 74, 75, 76, 77, 78]) (.cond (.t 79) (.seq (.reg false [⟨some 2, .as (.c (.lit (.bool false))), none⟩] []) (.ret)) (.skip))))) (.reg false [⟨some 80, .bin .add 0 (.t 43) (.c (.lit (.int .i64 1))), none⟩, ⟨some 43, .mv (.t 80), none⟩] [80])))))))))) (.reg false [⟨some 81, .bin .add 0 (.t 9) (.c (.lit (.int .i64 1))), none⟩, ⟨some 9, .mv (.t 81), none⟩] [81]))))))) (.seq (.reg false [⟨some 82, .mv (.t 0), none⟩, ⟨some 83, .len false (.t 82), none⟩, ⟨some 84, .bin .leq 0 (.t 83) (.c (.lit (.int .i64 60))), none⟩, ⟨some 2, .as (.t 84), none⟩] [82, 83, 84]) (.ret)))
theorem is28 : Is Go.Proofs.Try.prog 28 85 v28 [.t 2] := ⟨Go.Proofs.Try.f28, dl [(0, [2]), (3, [11, 12, 13]), (4, [14, 15, 16, 17, 18, 19, 20, 21, 22, 23, 24, 25, 26, 27, 28, 29, 30, 31, 32, 33, 34, 35, 36, 37, 38]), (6, [40]), (8, [45, 46, 47]), (9, [48, 49, 50, 51, 52, 53, 54, 55, 56, 57, 58, 59, 60, 61, 62, 63, 64, 65, 66, 67, 68, 69, 70, 71, 72, 73, 74, 75, 76, 77, 78]), (11, [80]), (12, [81]), (13, [82, 83, 84])], Go.Proofs.Try.func28, by kernel_rfl, by kernel_rfl, by kernel_rfl, by kernel_rfl⟩
def hasK (l : List Fld) (f : Fld) : Bool := l.any fun g => decide (g.key = f.key)
def idxK (l : List Fld) (f : Fld) : Int := if l.findIdx (fun g => decide (g.key = f.key)) < l.length then (l.findIdx (fun g => decide (g.key = f.key)) : Nat) else -1
theorem idxK_found {l : List Fld} {f : Fld} {i : Nat} (h : i < l.length) (h1 : l[i].key = f.key) (h2 : ∀ m g, m < i → l[m]? = some g → g.key ≠ f.key) : idxK l f = i := by
  have : l.findIdx (fun g => decide (g.key = f.key)) = i := (List.findIdx_eq h).2 ⟨by simpa using h1, fun j hj => by simpa using h2 j _ hj (List.getElem?_eq_getElem (by omega))⟩
  unfold idxK
  rw [this, if_pos h]
theorem idxK_none {l : List Fld} {f : Fld} (h2 : ∀ m g, m < l.length → l[m]? = some g → g.key ≠ f.key) : idxK l f = -1 := by
  have : l.findIdx (fun g => decide (g.key = f.key)) = l.length := List.findIdx_eq_length.2 fun g hg => by
    obtain ⟨m, hm, rfl⟩ := List.getElem_of_mem hg
    simpa using h2 m _ hm (List.getElem?_eq_getElem hm)
  unfold idxK
  rw [this, if_neg (by omega)]
theorem idxK_has (l : List Fld) (f : Fld) : decide (0 ≤ idxK l f) = hasK l f := by
  unfold idxK hasK
  rw [Bool.eq_iff_iff]
  rw [decide_eq_true_iff, List.any_eq_true, ← List.findIdx_lt_length]
  split <;> omega
theorem newAt_has (l : List Fld) (i : Nat) (f : Fld) : newAt l i f = !(hasK (l.take i) f) := by
  unfold newAt hasK
  rw [Bool.eq_iff_iff]
  simp
section
variable {E : Env} (hE : E.P = Go.Proofs.Try.prog)
include hE
theorem within_fx (x a b : Int) : Fx E 106 [] [.lit (.int .i64 x), .lit (.int .i64 a), .lit (.int .i64 b)] [] (.lit (.bool (inR x a b))) := by
  refine (is106.to hE).fx [] (by simp) rfl rfl ?_
  simp [v106]
  by_cases c1 : a ≤ x
  · simp [c1]
    exact Fin_ret rfl (by simp [inR, c1, reC])
  · simp [c1]
    exact Fin_ret rfl (by simp [inR, c1, reC])
theorem isDigit_fx (u : UInt8) : Fx E 110 [] [.lit (.int .u8 u.toNat)] [] (.lit (.bool (inR u.toNat 48 57))) := by
  refine (is110.to hE).fx [] (by simp) rfl rfl ?_
  simp [v110]
  by_cases c1 : (48 : Int) ≤ u.toNat
  · simp [c1]
    exact Fin_ret rfl (by simp [inR, c1, reC])
  · simp [c1]
    exact Fin_ret rfl (by simp [inR, c1, reC])
theorem isLower_fx (u : UInt8) : Fx E 109 [] [.lit (.int .u8 u.toNat)] [] (.lit (.bool (inR u.toNat 97 122))) := by
  refine (is109.to hE).fx [] (by simp) rfl rfl ?_
  simp [v109]
  by_cases c1 : (97 : Int) ≤ u.toNat
  · simp [c1]
    exact Fin_ret rfl (by simp [inR, c1, reC])
  · simp [c1]
    exact Fin_ret rfl (by simp [inR, c1, reC])
theorem isKey1_fx (u : UInt8) : Fx E 108 [] [.lit (.int .u8 u.toNat)] [] (.lit (.bool (keyB u))) := by
  refine (is108.to hE).fx [] (by simp) rfl rfl ?_
  simp [v108]
  refine vcall_go (isLower_fx hE u) (by simp) (by simp) (by simp) (by simp) ?_
  simp
  cases c1 : inR u.toNat 97 122
  · simp
    refine vcall_go (isDigit_fx hE u) (by simp) (by simp) (by simp) (by simp) ?_
    simp
    cases c2 : inR u.toNat 48 57
    · simp
      by_cases c3 : u.toNat = 95
      · have c3' : (u.toNat : Int) = 95 := by omega
        simp [c3']
        exact Fin_ret rfl (by simp [keyB, c3, reC])
      · have c3' : ¬ (u.toNat : Int) = 95 := by omega
        simp [c3']
        by_cases c4 : u.toNat = 45
        · have c4' : (u.toNat : Int) = 45 := by omega
          simp [c4']
          exact Fin_ret rfl (by simp [keyB, c4, reC])
        · have c4' : ¬ (u.toNat : Int) = 45 := by omega
          simp [c4']
          exact Fin_ret rfl (by simp [keyB, letB, c1, c2, c3, c4, reC])
    · simp
      exact Fin_ret rfl (by simp [keyB, letB, c1, c2, reC])
  · simp
    exact Fin_ret rfl (by simp [keyB, letB, c1, reC])
theorem all_fx {g : Nat} {p : UInt8 → Bool} (hg : fnOk E.P g = true) (hp : ∀ u : UInt8, Fx E g [] [.lit (.int .u8 u.toNat)] [] (.lit (.bool (p u)))) (s : ByteArray) (hs : s.size ≤ 9223372036854775806) : Fx E 107 [] [.lit (.string s), .fn g []] [] (.lit (.bool (allB p s))) := by
  refine (is107.to hE).fx [] (by simp) rfl rfl ?_
  simp [v107]
  refine X_loop (τ := Nat) (fun i => ⟨[(0, .lit (.string s)), (1, .fn g []), (7, .lit (.int .i64 s.size)), (8, .lit (.int .i64 i))], []⟩) (fun i => i ≤ s.size ∧ ∀ k, k < i → p (bt s k) = true) (fun i => s.size - i) 0 (by simp) (Wk.both (by simp [wkL, wkV.same]) trivial) ?_
  rintro i ⟨hi, hall⟩
  simp
  by_cases hlt : i < s.size
  · simp [hlt, hg]
    refine vcall_go (hp (bt s i)) (by simp) (by simp) (by simp) (by simp) ?_
    simp
    by_cases c1 : p (bt s i) = true
    · simp [c1]
      refine ⟨i + 1, ⟨by omega, fun k hk => ?_⟩, by omega, Wk.both (by simp [wkL, wkV.same]; rw [wrapN (by omega)]; exact wkV.same _) trivial⟩
      rcases Nat.lt_succ_iff_lt_or_eq.1 hk with h | rfl
      · exact hall k h
      · exact c1
    · have c2 : p (bt s i) = false := by simpa using c1
      simp [c2]
      exact Fin_ret rfl (by rw [allB_false hlt c2]; rfl)
  · simp [hlt]
    exact Fin_ret rfl (by rw [allB_true fun k hk => hall k (by omega)]; rfl)
theorem isKey_fx (s : ByteArray) (hs : s.size ≤ 9223372036854775806) : Fx E 73 [] [.lit (.string s)] [] (.lit (.bool (keyOk s))) := by
  refine (is73.to hE).fx [] (by simp) rfl rfl ?_
  simp [v73]
  refine vcall_go (within_fx hE s.size 1 30) (by simp) (by simp) (by simp) (by simp) ?_
  simp
  cases c1 : inR s.size 1 30
  · simp
    exact Fin_ret rfl (by simp [keyOk, c1, reC])
  · simp
    refine vcall_go (all_fx hE (g := 108) (hE ▸ (by kernel_rfl : fnOk Go.Proofs.Try.prog 108 = true)) (isKey1_fx hE) s hs) (by simp [strip]) (by simp [argOk]) (by simp [ptrs]) (by simp) ?_
    simp
    exact Fin_ret rfl (by simp [keyOk, c1, reC])
theorem same_fx (f g : Fld) : Fx E 75 [[.agg g.av]] [.agg f.av, .ptr 0 0 0] [[.agg g.av]] (.lit (.bool (decide (f.key = g.key)))) := by
  refine (is75.to hE).fxb [] (by simp) rfl ⟨rfl, rfl⟩ rfl (by simp) ?_
  simp [v75, Fld.av, okC]
  exact FinB_ret rfl rfl rfl rfl
theorem index_fx (l : List Fld) (g : Fld) (hl : l.length ≤ 1048576) : Fx E 111 [[.agg g.av]] [.sl ro 4 (l.map fun x => .agg x.av), .fn 75 [.ptr 0 0 0]] [[.agg g.av]] (.lit (.int .i64 (idxK l g))) := by
  refine (is111.to hE).fxb [] (by simp) rfl ⟨rfl, rfl⟩ rfl (by simp) ?_
  have hok : fnOk E.P 75 = true := hE ▸ (by kernel_rfl : fnOk Go.Proofs.Try.prog 75 = true)
  simp [v111]
  refine X_loop (τ := Nat) (fun i => ⟨[(0, .sl ro 4 (l.map fun x => .agg x.av)), (1, .fn 75 [.ptr 0 0 0]), (7, .lit (.int .i64 l.length)), (8, .lit (.int .i64 i))], [(0, [.agg g.av])]⟩) (fun i => i ≤ l.length ∧ ∀ m f, m < i → l[m]? = some f → f.key ≠ g.key) (fun i => l.length - i) 0 (by simp) (Wk.both (by simp [wkL, wkV.same]) (by simp [wkB])) ?_
  rintro i ⟨hi, hall⟩
  simp
  by_cases hlt : i < l.length
  · have ht : List.take 4 l[i].av = l[i].av := rfl
    simp [hlt, hok, Fld.len]
    refine vcall_box (n := 0) (same_fx hE l[i] g) rfl rfl (by simp [argOk]) (by simp [ptrs, dd]) (by simp) rfl (by simp [Fld.pl]) rfl ⟨rfl, rfl⟩ ?_
    have hr : relab.relabL 16 false g.av = g.av := rfl
    simp [relab, hr]
    by_cases c1 : l[i].key = g.key
    · simp [c1]
      exact FinB_ret rfl (by rw [idxK_found hlt c1 hall]; rfl) rfl rfl
    · simp [c1]
      refine ⟨i + 1, ⟨by omega, fun m f hm hf => ?_⟩, by omega, Wk.both (by simp [wkL, wkV.same]; rw [wrapN (by omega)]; exact wkV.same _) (by simp [wkB])⟩
      rcases Nat.lt_succ_iff_lt_or_eq.1 hm with h | rfl
      · exact hall m f h hf
      · rw [List.getElem?_eq_getElem hlt] at hf
        rw [← Option.some.inj hf]
        exact c1
  · simp [hlt]
    have hin : i = l.length := by omega
    exact FinB_ret rfl (by rw [idxK_none fun m f hm hf => hall m f (by omega) hf]; rfl) rfl rfl
theorem contains_fx (l : List Fld) (g : Fld) (hl : l.length ≤ 1048576) : Fx E 74 [[.agg g.av]] [.sl ro 4 (l.map fun x => .agg x.av), .fn 75 [.ptr 0 0 0]] [[.agg g.av]] (.lit (.bool (hasK l g))) := by
  refine (is74.to hE).fxb [] (by simp) rfl ⟨rfl, rfl⟩ rfl (by simp) ?_
  simp [v74]
  refine vcall_box (n := 0) (index_fx hE l g hl) rfl rfl (by simp [argOk]) (by simp [ptrs, dd]) (by simp) rfl (by simp [Fld.pl]) rfl ⟨rfl, rfl⟩ ?_
  have hr : relab.relabL 7 false g.av = g.av := rfl
  simp [relab, hr]
  exact FinB_ret rfl (by rw [← idxK_has]; rfl) rfl rfl
set_option maxHeartbeats 2000000 in
theorem implTablesOk_fx (xs : List Tb) (hxs : xs.length ≤ 1048576) (h : ∀ x ∈ xs, x.fields.length ≤ 1048576 ∧ (∀ f ∈ x.fields, f.key.size ≤ 1048576) ∧ x.name.size ≤ 1048576) : Fx E 28 [] [.sl ro 2 (xs.map fun x => .agg x.av)] [] (.lit (.bool (tbsOk xs))) := by
  refine (is28.to hE).fx [] (by simp) rfl rfl ?_
  simp [v28]
  refine X_loop (τ := Nat) (fun i => ⟨[(0, .sl ro 2 (xs.map fun x => .agg x.av)), (7, .sl ro 2 (xs.map fun x => .agg x.av)), (8, .lit (.int .i64 xs.length)), (9, .lit (.int .i64 i))], []⟩) (fun i => i ≤ xs.length ∧ ∀ k, k < i → atOk xs k = true) (fun i => xs.length - i) 0 (by simp) (Wk.both (by simp [wkL, wkV.same]) trivial) ?_
  rintro i ⟨hi, hall⟩
  simp
  by_cases hlt : i < xs.length
  · obtain ⟨h1, h2, h3⟩ := h _ (List.getElem_mem hlt)
    have hat : atOk xs i = (tbOk xs[i] && !(decide (0 < i) && decide (xs[i].name = by8 ""))) := by
      unfold atOk; rw [List.getElem?_eq_getElem hlt]
    have fbad : atOk xs i = false → tbsOk xs = false := fun hb => by rw [tbsOk, rangeAll_false hlt hb]; rfl
    have hk0 : keyOk (by8 "") = false := by decide +kernel
    have hav : xs[i].av = [.lit (.string xs[i].name), .sl ro 4 (xs[i].fields.map fun x => .agg x.av)] := rfl
    simp [hlt, hav, okC, mkF, mkF.mkL, putElem, upd, ro]
    refine vcall_go (isKey_fx hE xs[i].name (by omega)) (by simp) (by simp) (by simp) (by simp) ?_
    simp
    by_cases hg : (keyOk xs[i].name = true ∨ (i = 0 ∧ xs[i].name = by8 "" ∧ 0 < xs[i].fields.length)) ∧ xs[i].fields.length ≤ 20
    · obtain ⟨hg1, hg2⟩ := hg
      have hg3 : ¬ (20 : Int) < xs[i].fields.length := by omega
      have two : keyOk xs[i].name = true ∨ (keyOk xs[i].name = false ∧ i = 0 ∧ xs[i].name = by8 "" ∧ 0 < xs[i].fields.length) := by
        rcases hg1 with a | a
        · exact .inl a
        · exact .inr ⟨by rw [a.2.1]; exact hk0, a⟩
      rcases two with t1 | ⟨t1, t2, t3, t4⟩
      · have hne : ¬ xs[i].name = by8 "" := fun hh => by rw [hh, hk0] at t1; cases t1
        have hnm : (!(decide (0 < i) && decide (xs[i].name = by8 ""))) = true := by simp [hne]
        have htn : (decide (xs[i].name = by8 "") && decide (0 < xs[i].fields.length) || keyOk xs[i].name) = true := by simp [t1]
        simp [t1, hg3]
        have hw0 : tbOk xs[i] = true → atOk xs i = true := fun hb => by rw [hat, hb, Bool.true_and, hnm]
        refine X_loop (τ := Nat) (fun k => ⟨[(0, .sl ro 2 (xs.map fun x => .agg x.av)), (3, .lit (.int .i64 (i : Nat))), (4, .ptr 1004 0 0), (7, .sl ro 2 (xs.map fun x => .agg x.av)), (8, .lit (.int .i64 xs.length)), (9, .lit (.int .i64 (i : Nat))), (41, .sl ro 4 (xs[i].fields.map fun x => .agg x.av)), (42, .lit (.int .i64 xs[i].fields.length)), (43, .lit (.int .i64 k))], [(1004, [.agg xs[i].av])]⟩) (fun k => k ≤ xs[i].fields.length ∧ ∀ m, m < k → okAt xs[i].fields m = true) (fun k => xs[i].fields.length - k) 0 (by simp) (Wk.both (by simp [wkL, wkV.same, ro]) (by simp [wkB, hav, ro])) ?_
        rintro k ⟨hk1, hk2⟩
        simp
        by_cases hkl : k < xs[i].fields.length
        · have hsz := h2 _ (List.getElem_mem hkl)
          have hf : xs[i].fields[k].av = [.lit (.string xs[i].fields[k].key), .lit (.string xs[i].fields[k].text), .sl ro 1 (xs[i].fields[k].list.map fun x => .lit (.string x)), .lit (.bool xs[i].fields[k].isL)] := rfl
          simp [hkl, hf, okC, mkF, mkF.mkL, putElem, upd, ro]
          refine vcall_go (isKey_fx hE xs[i].fields[k].key (by omega)) (by simp) (by simp) (by simp) (by simp [hav]) ?_
          simp
          have kbad : okAt xs[i].fields k = false → tbsOk xs = false := fun hb => fbad (by rw [hat, tbOk, fldsOk, rangeAll_false hkl hb]; rfl)
          by_cases hb : fOk xs[i].fields[k] = true
          · have hb' := hb
            simp only [fOk, Bool.and_eq_true, Bool.or_eq_true, Bool.not_eq_true', decide_eq_true_eq] at hb'
            obtain ⟨⟨b1, b2⟩, b3⟩ := hb'
            have two : (xs[i].fields[k].isL = true ∧ xs[i].fields[k].text = by8 "") ∨ (xs[i].fields[k].isL = false ∧ xs[i].fields[k].list.length = 0) := by
              cases hL : xs[i].fields[k].isL
              · rw [hL] at b3; exact .inr ⟨rfl, b3.resolve_left (by simp)⟩
              · rw [hL] at b2; exact .inl ⟨rfl, b2.resolve_left (by simp)⟩
            have htk : k ≤ xs[i].fields.length := by omega
            rcases two with ⟨u1, u2⟩ | ⟨u1, u2⟩ <;> (
              simp [b1, u1, u2, hav, mkF, cutB, ro, htk]
              refine vcall_box (n := 1006) (contains_fx hE (xs[i].fields.take k) xs[i].fields[k] (by simp; omega)) rfl (by rw [List.map_take]; rfl) (by simp [argOk]) (by simp [ptrs, dd]) (by simp) rfl (by simp [hf, u1, u2, ro]) (by simp) ⟨rfl, rfl⟩ ?_
              simp [relab]
              cases hh : hasK (xs[i].fields.take k) xs[i].fields[k]
              · simp
                refine ⟨k + 1, ⟨by omega, fun m hm => ?_⟩, by omega, Wk.both (by simp [wkL, wkV.same, ro]; first | (rw [wrapN (by omega)]; exact wkV.same _) | exact .inl rfl) (by simp [wkB, hav, ro])⟩
                rcases Nat.lt_succ_iff_lt_or_eq.1 hm with h | rfl
                · exact hk2 m h
                · rw [okAt_of hkl, hb, newAt_has, hh]; rfl
              · simp
                exact Fin_ret rfl (by rw [kbad (by rw [okAt_of hkl, newAt_has, hh]; simp)]; rfl))
          · have hb2 : fOk xs[i].fields[k] = false := by simpa using hb
            have hfin : tbsOk xs = false := kbad (by rw [okAt_of hkl, hb2]; rfl)
            rw [hfin]
            cases b1 : keyOk xs[i].fields[k].key
            · simp
              exact Fin_ret rfl rfl
            · cases u1 : xs[i].fields[k].isL
              · have u2 : ¬ xs[i].fields[k].list.length = 0 := by
                  intro h; simp [fOk, b1, u1, h] at hb2
                simp [u1, u2]
                have : 0 < xs[i].fields[k].list.length := by omega
                simp [this]
                exact Fin_ret rfl rfl
              · have u2 : ¬ xs[i].fields[k].text = by8 "" := by
                  intro h; simp [fOk, b1, u1, h] at hb2
                simp [u1, u2]
                exact Fin_ret rfl rfl
        · simp [hkl]
          have hff : fldsOk xs[i].fields = true := rangeAll_true fun m hm => hk2 m (by omega)
          refine ⟨i + 1, ⟨by omega, fun m hm => ?_⟩, by omega, Wk.both (by simp [wkL, wkV.same, ro]; first | (rw [wrapN (by omega)]; exact wkV.same _) | exact .inl rfl) trivial⟩
          rcases Nat.lt_succ_iff_lt_or_eq.1 hm with h | rfl
          · exact hall m h
          · exact hw0 (by rw [tbOk, hff]; simp [hg2, htn])
      · subst t2
        have hnm : (!(decide (0 < 0) && decide (xs[0].name = by8 ""))) = true := by simp
        have htn : (decide (xs[0].name = by8 "") && decide (0 < xs[0].fields.length) || keyOk xs[0].name) = true := by simp [t3, t4]
        simp [t1, t3, t4, hg3, hk0]
        have hw0 : tbOk xs[0] = true → atOk xs 0 = true := fun hb => by rw [hat, hb, Bool.true_and, hnm]
        refine X_loop (τ := Nat) (fun k => ⟨[(0, .sl ro 2 (xs.map fun x => .agg x.av)), (3, .lit (.int .i64 (0 : Nat))), (4, .ptr 1004 0 0), (7, .sl ro 2 (xs.map fun x => .agg x.av)), (8, .lit (.int .i64 xs.length)), (9, .lit (.int .i64 (0 : Nat))), (41, .sl ro 4 (xs[0].fields.map fun x => .agg x.av)), (42, .lit (.int .i64 xs[0].fields.length)), (43, .lit (.int .i64 k))], [(1004, [.agg xs[0].av])]⟩) (fun k => k ≤ xs[0].fields.length ∧ ∀ m, m < k → okAt xs[0].fields m = true) (fun k => xs[0].fields.length - k) 0 (by simp) (Wk.both (by simp [wkL, wkV.same, ro]) (by simp [wkB, hav, ro, t3])) ?_
        rintro k ⟨hk1, hk2⟩
        simp
        by_cases hkl : k < xs[0].fields.length
        · have hsz := h2 _ (List.getElem_mem hkl)
          have hf : xs[0].fields[k].av = [.lit (.string xs[0].fields[k].key), .lit (.string xs[0].fields[k].text), .sl ro 1 (xs[0].fields[k].list.map fun x => .lit (.string x)), .lit (.bool xs[0].fields[k].isL)] := rfl
          simp [hkl, hf, okC, mkF, mkF.mkL, putElem, upd, ro]
          refine vcall_go (isKey_fx hE xs[0].fields[k].key (by omega)) (by simp) (by simp) (by simp) (by simp [hav]) ?_
          simp
          have kbad : okAt xs[0].fields k = false → tbsOk xs = false := fun hb => fbad (by rw [hat, tbOk, fldsOk, rangeAll_false hkl hb]; rfl)
          by_cases hb : fOk xs[0].fields[k] = true
          · have hb' := hb
            simp only [fOk, Bool.and_eq_true, Bool.or_eq_true, Bool.not_eq_true', decide_eq_true_eq] at hb'
            obtain ⟨⟨b1, b2⟩, b3⟩ := hb'
            have two : (xs[0].fields[k].isL = true ∧ xs[0].fields[k].text = by8 "") ∨ (xs[0].fields[k].isL = false ∧ xs[0].fields[k].list.length = 0) := by
              cases hL : xs[0].fields[k].isL
              · rw [hL] at b3; exact .inr ⟨rfl, b3.resolve_left (by simp)⟩
              · rw [hL] at b2; exact .inl ⟨rfl, b2.resolve_left (by simp)⟩
            have htk : k ≤ xs[0].fields.length := by omega
            rcases two with ⟨u1, u2⟩ | ⟨u1, u2⟩ <;> (
              simp [b1, u1, u2, hav, mkF, cutB, ro, htk]
              refine vcall_box (n := 1006) (contains_fx hE (xs[0].fields.take k) xs[0].fields[k] (by simp; omega)) rfl (by rw [List.map_take]; rfl) (by simp [argOk]) (by simp [ptrs, dd]) (by simp) rfl (by simp [hf, u1, u2, ro]) (by simp) ⟨rfl, rfl⟩ ?_
              simp [relab]
              cases hh : hasK (xs[0].fields.take k) xs[0].fields[k]
              · simp
                refine ⟨k + 1, ⟨by omega, fun m hm => ?_⟩, by omega, Wk.both (by simp [wkL, wkV.same, ro]; first | (rw [wrapN (by omega)]; exact wkV.same _) | exact .inl rfl) (by simp [wkB, hav, ro, t3])⟩
                rcases Nat.lt_succ_iff_lt_or_eq.1 hm with h | rfl
                · exact hk2 m h
                · rw [okAt_of hkl, hb, newAt_has, hh]; rfl
              · simp
                exact Fin_ret rfl (by rw [kbad (by rw [okAt_of hkl, newAt_has, hh]; simp)]; rfl))
          · have hb2 : fOk xs[0].fields[k] = false := by simpa using hb
            have hfin : tbsOk xs = false := kbad (by rw [okAt_of hkl, hb2]; rfl)
            rw [hfin]
            cases b1 : keyOk xs[0].fields[k].key
            · simp
              exact Fin_ret rfl rfl
            · cases u1 : xs[0].fields[k].isL
              · have u2 : ¬ xs[0].fields[k].list.length = 0 := by
                  intro h; simp [fOk, b1, u1, h] at hb2
                simp [u1, u2]
                have : 0 < xs[0].fields[k].list.length := by omega
                simp [this]
                exact Fin_ret rfl rfl
              · have u2 : ¬ xs[0].fields[k].text = by8 "" := by
                  intro h; simp [fOk, b1, u1, h] at hb2
                simp [u1, u2]
                exact Fin_ret rfl rfl
        · simp [hkl]
          have hff : fldsOk xs[0].fields = true := rangeAll_true fun m hm => hk2 m (by omega)
          refine ⟨0 + 1, ⟨by omega, fun m hm => ?_⟩, by omega, Wk.both (by simp [wkL, wkV.same, ro]; first | (rw [wrapN (by omega)]; exact wkV.same _) | exact .inl rfl) trivial⟩
          rcases Nat.lt_succ_iff_lt_or_eq.1 hm with h | rfl
          · exact hall m h
          · exact hw0 (by rw [tbOk, hff]; simp [hg2, htn])
    · have hbad : tbsOk xs = false := fbad (by
        rw [hat]
        by_cases hn : xs[i].fields.length ≤ 20
        · have hg4 : ¬ (keyOk xs[i].name = true ∨ (i = 0 ∧ xs[i].name = by8 "" ∧ 0 < xs[i].fields.length)) := fun hh => hg ⟨hh, hn⟩
          have k1 : keyOk xs[i].name = false := by
            cases hk : keyOk xs[i].name
            · rfl
            · exact absurd (.inl hk) hg4
          by_cases hi0 : i = 0
          · have : (decide (xs[i].name = by8 "") && decide (0 < xs[i].fields.length)) = false := by
              rw [Bool.and_eq_false_iff]
              by_cases hm : xs[i].name = by8 ""
              · exact .inr (by simpa using fun h => hg4 (.inr ⟨hi0, hm, h⟩))
              · exact .inl (by simpa using hm)
            rw [tbOk, this, k1]; simp
          · by_cases hm : xs[i].name = by8 ""
            · have : 0 < i := by omega
              simp [hm, this]
            · rw [tbOk, k1]; simp [hm]
        · simp [tbOk, hn])
      rw [hbad]
      cases t1 : keyOk xs[i].name
      · by_cases hi0 : (i : Int) = 0
        · simp [hi0]
          by_cases hm : xs[i].name = by8 ""
          · simp [hm]
            by_cases hl : 0 < xs[i].fields.length
            · have hn : (20 : Int) < xs[i].fields.length := by
                rcases Nat.lt_or_ge 20 xs[i].fields.length with h | h
                · omega
                · exact absurd ⟨.inr ⟨by omega, hm, hl⟩, h⟩ hg
              simp [hl, hn]
              exact Fin_ret rfl rfl
            · simp [hl]
              exact Fin_ret rfl rfl
          · simp [hm]
            exact Fin_ret rfl rfl
        · have hi1 : ¬ i = 0 := by omega
          simp [hi1]
          exact Fin_ret rfl rfl
      · have hn : (20 : Int) < xs[i].fields.length := by
          rcases Nat.lt_or_ge 20 xs[i].fields.length with h | h
          · omega
          · exact absurd ⟨.inl t1, h⟩ hg
        simp [hn]
        exact Fin_ret rfl rfl
  · simp [hlt]
    exact Fin_ret rfl (by rw [tbsOk, rangeAll_true fun k hk => hall k (by omega)]; simp [reC]; omega)
end
end Go.Proofs.Ytadafhefdbfbgaa.Vm
