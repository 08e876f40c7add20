/- Bytes: both sides. -/
import Derived.Test.YtgegcfhifojjiaaGreatDoorJl
namespace Go.Proofs.YtgegcfhifojjiaaGreatDoor.Vm
open Go Go.RowKit
set_option linter.unusedVariables false
set_option linter.unusedSimpArgs false
def v106 : VC := .seq (.reg false [⟨some 2, .as (.c (.lit (.bool false))), none⟩] [2]) (.seq (.reg false [⟨some 3, .mv (.t 0), none⟩, ⟨some 4, .cvI .i64 (.t 3), none⟩, ⟨some 5, .call false 105 [(.t 4), (.c (.lit (.int .i64 97))), (.c (.lit (.int .i64 122)))], none⟩, ⟨some 6, .mv (.t 5), none⟩, ⟨some 7, .mv (.t 0), (some (6, false))⟩, ⟨some 8, .cvI .i64 (.t 7), (some (6, false))⟩, ⟨some 9, .call false 105 [(.t 8), (.c (.lit (.int .i64 48))), (.c (.lit (.int .i64 57)))], (some (6, false))⟩, ⟨some 10, .pick (.t 6) (.c (.lit (.bool true))) (.t 9), none⟩, ⟨some 2, .as (.t 10), none⟩] [3, 4, 5, 6, 7, 8, 9, 10]) (.ret))
theorem is106 : Is Go.Proofs.Tryz.prog 106 11 v106 [.t 2] := ⟨Go.Proofs.Tryz.f106, dl [(0, [2]), (1, [3, 4, 5, 6, 7, 8, 9, 10])], Go.Proofs.Tryz.func106, by kernel_rfl, by kernel_rfl, by kernel_rfl, by kernel_rfl⟩
def v138 : VC := .seq (.reg false [⟨some 2, .as (.c (.lit (.bool false))), none⟩] [2]) (.seq (.reg false [⟨some 3, .mv (.t 0), none⟩, ⟨some 4, .cvI .i64 (.t 3), none⟩, ⟨some 5, .call false 105 [(.t 4), (.c (.lit (.int .i64 65))), (.c (.lit (.int .i64 90)))], none⟩, ⟨some 2, .as (.t 5), none⟩] [3, 4, 5]) (.ret))
theorem is138 : Is Go.Proofs.Tryz.prog 138 6 v138 [.t 2] := ⟨Go.Proofs.Tryz.f138, dl [(0, [2]), (1, [3, 4, 5])], Go.Proofs.Tryz.func138, by kernel_rfl, by kernel_rfl, by kernel_rfl, by kernel_rfl⟩
def v107 : VC := .seq (.reg false [⟨some 2, .as (.c (.lit (.bool false))), none⟩] [2]) (.seq (.reg false [⟨some 3, .mv (.t 0), none⟩, ⟨some 4, .call false 106 [(.t 3)], none⟩, ⟨some 5, .mv (.t 4), none⟩, ⟨some 6, .mv (.t 0), (some (5, false))⟩, ⟨some 7, .call false 138 [(.t 6)], (some (5, false))⟩, ⟨some 8, .pick (.t 5) (.c (.lit (.bool true))) (.t 7), none⟩, ⟨some 9, .mv (.t 8), none⟩, ⟨some 10, .mv (.t 0), (some (9, false))⟩, ⟨some 11, .bin .eql 0 (.t 10) (.c (.lit (.int .u8 46))), (some (9, false))⟩, ⟨some 12, .pick (.t 9) (.c (.lit (.bool true))) (.t 11), none⟩, ⟨some 13, .mv (.t 12), none⟩, ⟨some 14, .mv (.t 0), (some (13, false))⟩, ⟨some 15, .bin .eql 0 (.t 14) (.c (.lit (.int .u8 95))), (some (13, false))⟩, ⟨some 16, .pick (.t 13) (.c (.lit (.bool true))) (.t 15), none⟩, ⟨some 17, .mv (.t 16), none⟩, ⟨some 18, .mv (.t 0), (some (17, false))⟩, ⟨some 19, .bin .eql 0 (.t 18) (.c (.lit (.int .u8 45))), (some (17, false))⟩, ⟨some 20, .pick (.t 17) (.c (.lit (.bool true))) (.t 19), none⟩, ⟨some 21, .mv (.t 20), none⟩, ⟨some 22, .mv (.t 0), (some (21, false))⟩, ⟨some 23, .bin .eql 0 (.t 22) (.c (.lit (.int .u8 126))), (some (21, false))⟩, ⟨some 24, .pick (.t 21) (.c (.lit (.bool true))) (.t 23), none⟩, ⟨some 2, .as (.t 24), none⟩] [3, 4, 5, 6, 7, 8, 9, 10, 11, 12, 13, 14, 15, 16, 17, 18, 19, 20, 21, 22, 23, 24]) (.ret))
theorem is107 : Is Go.Proofs.Tryz.prog 107 25 v107 [.t 2] := ⟨Go.Proofs.Tryz.f107, dl [(0, [2]), (1, [3, 4, 5, 6, 7, 8, 9, 10, 11, 12, 13, 14, 15, 16, 17, 18, 19, 20, 21, 22, 23, 24])], Go.Proofs.Tryz.func107, by kernel_rfl, by kernel_rfl, by kernel_rfl, by kernel_rfl⟩
def v112 : VC := .seq (.reg false [⟨some 2, .as (.c (.lit (.bool false))), none⟩] [2]) (.seq (.reg false [⟨some 3, .mv (.t 0), none⟩, ⟨some 4, .bin .geq 0 (.t 3) (.c (.lit (.int .u8 97))), none⟩, ⟨some 5, .mv (.t 4), none⟩, ⟨some 6, .mv (.t 0), (some (5, true))⟩, ⟨some 7, .bin .leq 0 (.t 6) (.c (.lit (.int .u8 122))), (some (5, true))⟩, ⟨some 8, .pick (.t 5) (.t 7) (.c (.lit (.bool false))), none⟩, ⟨some 2, .as (.t 8), none⟩] [3, 4, 5, 6, 7, 8]) (.ret))
theorem is112 : Is Go.Proofs.Tryz.prog 112 9 v112 [.t 2] := ⟨Go.Proofs.Tryz.f112, dl [(0, [2]), (1, [3, 4, 5, 6, 7, 8])], Go.Proofs.Tryz.func112, by kernel_rfl, by kernel_rfl, by kernel_rfl, by kernel_rfl⟩
def v113 : VC := .seq (.reg false [⟨some 2, .as (.c (.lit (.bool false))), none⟩] [2]) (.seq (.reg false [⟨some 3, .mv (.t 0), none⟩, ⟨some 4, .bin .geq 0 (.t 3) (.c (.lit (.int .u8 48))), none⟩, ⟨some 5, .mv (.t 4), none⟩, ⟨some 6, .mv (.t 0), (some (5, true))⟩, ⟨some 7, .bin .leq 0 (.t 6) (.c (.lit (.int .u8 57))), (some (5, true))⟩, ⟨some 8, .pick (.t 5) (.t 7) (.c (.lit (.bool false))), none⟩, ⟨some 2, .as (.t 8), none⟩] [3, 4, 5, 6, 7, 8]) (.ret))
theorem is113 : Is Go.Proofs.Tryz.prog 113 9 v113 [.t 2] := ⟨Go.Proofs.Tryz.f113, dl [(0, [2]), (1, [3, 4, 5, 6, 7, 8])], Go.Proofs.Tryz.func113, by kernel_rfl, by kernel_rfl, by kernel_rfl, by kernel_rfl⟩
def v116 : VC := .seq (.reg false [⟨some 2, .as (.c (.lit (.bool false))), none⟩] [2]) (.seq (.reg false [⟨some 3, .mv (.t 0), none⟩, ⟨some 4, .call false 112 [(.t 3)], none⟩, ⟨some 5, .mv (.t 4), none⟩, ⟨some 6, .mv (.t 0), (some (5, false))⟩, ⟨some 7, .bin .geq 0 (.t 6) (.c (.lit (.int .u8 65))), (some (5, false))⟩, ⟨some 8, .mv (.t 7), (some (5, false))⟩, ⟨some 9, .mv (.t 0), (some (8, true))⟩, ⟨some 10, .bin .leq 0 (.t 9) (.c (.lit (.int .u8 90))), (some (8, true))⟩, ⟨some 11, .pick (.t 8) (.t 10) (.c (.lit (.bool false))), (some (5, false))⟩, ⟨some 12, .pick (.t 5) (.c (.lit (.bool true))) (.t 11), none⟩, ⟨some 2, .as (.t 12), none⟩] [3, 4, 5, 6, 7, 8, 9, 10, 11, 12]) (.ret))
theorem is116 : Is Go.Proofs.Tryz.prog 116 13 v116 [.t 2] := ⟨Go.Proofs.Tryz.f116, dl [(0, [2]), (1, [3, 4, 5, 6, 7, 8, 9, 10, 11, 12])], Go.Proofs.Tryz.func116, by kernel_rfl, by kernel_rfl, by kernel_rfl, by kernel_rfl⟩
def v110 : VC := .seq (.reg false [⟨some 4, .as (.c (.lit (.bool false))), none⟩] [4]) (.seq (.seq (.reg false [⟨some 6, .mv (.t 0), none⟩, ⟨some 7, .len true (.t 6), none⟩, ⟨some 8, .mv (.c (.lit (.int .i64 0))), none⟩] [6]) (.block 0 (.loop (.seq (.reg false [⟨some 9, .bin .lss 0 (.t 8) (.t 7), none⟩] []) (.seq (.cond (.t 9) (.skip) (.exit 0)) (.seq (.block 1 (.seq (.reg false [⟨some 10, .mv (.t 8), none⟩, ⟨some 5, .as (.t 10), none⟩] [10]) (.seq (.reg false [⟨some 11, .mv (.t 1), none⟩, ⟨some 12, .mv (.t 0), none⟩, ⟨some 13, .mv (.t 5), none⟩, ⟨some 14, .idx (.t 12) (.t 13), none⟩, ⟨some 15, .callv false (.t 11) [(.t 14)], none⟩, ⟨some 16, .un .not (.t 15), none⟩] [11, 12, 13, 14, 15]) (.cond (.t 16) (.seq (.reg false [⟨some 4, .as (.c (.lit (.bool false))), none⟩] []) (.ret)) (.skip))))) (.reg false [⟨some 17, .bin .add 0 (.t 8) (.c (.lit (.int .i64 1))), none⟩, ⟨some 8, .mv (.t 17), none⟩] [17]))))))) (.seq (.reg false [⟨some 4, .as (.c (.lit (.bool true))), none⟩] []) (.ret)))
theorem is110 : Is Go.Proofs.Tryz.prog 110 18 v110 [.t 4] := ⟨Go.Proofs.Tryz.f110, dl [(0, [4]), (1, [6]), (3, [10]), (4, [11, 12, 13, 14, 15]), (6, [17])], Go.Proofs.Tryz.func110, by kernel_rfl, by kernel_rfl, by kernel_rfl, by kernel_rfl⟩
def v111 : VC := .seq (.reg false [⟨some 2, .as (.c (.lit (.bool false))), none⟩] [2]) (.seq (.reg false [⟨some 3, .mv (.t 0), none⟩, ⟨some 4, .call false 112 [(.t 3)], none⟩, ⟨some 5, .mv (.t 4), none⟩, ⟨some 6, .mv (.t 0), (some (5, false))⟩, ⟨some 7, .call false 113 [(.t 6)], (some (5, false))⟩, ⟨some 8, .pick (.t 5) (.c (.lit (.bool true))) (.t 7), none⟩, ⟨some 9, .mv (.t 8), none⟩, ⟨some 10, .mv (.t 0), (some (9, false))⟩, ⟨some 11, .bin .eql 0 (.t 10) (.c (.lit (.int .u8 46))), (some (9, false))⟩, ⟨some 12, .pick (.t 9) (.c (.lit (.bool true))) (.t 11), none⟩, ⟨some 13, .mv (.t 12), none⟩, ⟨some 14, .mv (.t 0), (some (13, false))⟩, ⟨some 15, .bin .eql 0 (.t 14) (.c (.lit (.int .u8 95))), (some (13, false))⟩, ⟨some 16, .pick (.t 13) (.c (.lit (.bool true))) (.t 15), none⟩, ⟨some 17, .mv (.t 16), none⟩, ⟨some 18, .mv (.t 0), (some (17, false))⟩, ⟨some 19, .bin .eql 0 (.t 18) (.c (.lit (.int .u8 45))), (some (17, false))⟩, ⟨some 20, .pick (.t 17) (.c (.lit (.bool true))) (.t 19), none⟩, ⟨some 2, .as (.t 20), none⟩] [3, 4, 5, 6, 7, 8, 9, 10, 11, 12, 13, 14, 15, 16, 17, 18, 19, 20]) (.ret))
theorem is111 : Is Go.Proofs.Tryz.prog 111 21 v111 [.t 2] := ⟨Go.Proofs.Tryz.f111, dl [(0, [2]), (1, [3, 4, 5, 6, 7, 8, 9, 10, 11, 12, 13, 14, 15, 16, 17, 18, 19, 20])], Go.Proofs.Tryz.func111, by kernel_rfl, by kernel_rfl, by kernel_rfl, by kernel_rfl⟩
def v228 : VC := .seq (.reg false [⟨some 2, .as (.c (.lit (.bool false))), none⟩] [2]) (.seq (.reg false [⟨some 3, .mv (.t 0), none⟩, ⟨some 4, .call false 116 [(.t 3)], none⟩, ⟨some 5, .mv (.t 4), none⟩, ⟨some 6, .mv (.t 0), (some (5, false))⟩, ⟨some 7, .call false 113 [(.t 6)], (some (5, false))⟩, ⟨some 8, .pick (.t 5) (.c (.lit (.bool true))) (.t 7), none⟩, ⟨some 9, .mv (.t 8), none⟩, ⟨some 10, .mv (.t 0), (some (9, false))⟩, ⟨some 11, .bin .eql 0 (.t 10) (.c (.lit (.int .u8 45))), (some (9, false))⟩, ⟨some 12, .pick (.t 9) (.c (.lit (.bool true))) (.t 11), none⟩, ⟨some 2, .as (.t 12), none⟩] [3, 4, 5, 6, 7, 8, 9, 10, 11, 12]) (.ret))
theorem is228 : Is Go.Proofs.Tryz.prog 228 13 v228 [.t 2] := ⟨Go.Proofs.Tryz.f228, dl [(0, [2]), (1, [3, 4, 5, 6, 7, 8, 9, 10, 11, 12])], Go.Proofs.Tryz.func228, by kernel_rfl, by kernel_rfl, by kernel_rfl, by kernel_rfl⟩
def v229 : VC := .seq (.reg false [⟨some 2, .as (.c (.lit (.bool false))), none⟩] [2]) (.seq (.reg false [⟨some 3, .mv (.t 0), none⟩, ⟨some 4, .bin .neq 0 (.t 3) (.c (.lit (.string (by8 "")))), none⟩, ⟨some 5, .mv (.t 4), none⟩, ⟨some 6, .mv (.t 0), (some (5, true))⟩, ⟨some 7, .call false 110 [(.t 6), (.c (.fn 113 []))], (some (5, true))⟩, ⟨some 8, .pick (.t 5) (.t 7) (.c (.lit (.bool false))), none⟩, ⟨some 2, .as (.t 8), none⟩] [3, 4, 5, 6, 7, 8]) (.ret))
theorem is229 : Is Go.Proofs.Tryz.prog 229 9 v229 [.t 2] := ⟨Go.Proofs.Tryz.f229, dl [(0, [2]), (1, [3, 4, 5, 6, 7, 8])], Go.Proofs.Tryz.func229, by kernel_rfl, by kernel_rfl, by kernel_rfl, by kernel_rfl⟩
def v224 : VC := .seq (.reg false [⟨some 2, .as (.c (.lit (.bool false))), none⟩] [2]) (.seq (.seq (.reg false [⟨some 3, .as (.c (.lit (.int .i64 0))), none⟩] []) (.block 0 (.loop (.seq (.seq (.reg false [⟨some 4, .mv (.t 3), none⟩, ⟨some 5, .mv (.t 0), none⟩, ⟨some 6, .len true (.t 5), none⟩, ⟨some 7, .bin .lss 0 (.t 4) (.t 6), none⟩] [4, 5, 6]) (.cond (.t 7) (.skip) (.exit 0))) (.seq (.block 1 (.seq (.reg false [⟨some 10, .mv (.t 0), none⟩, ⟨some 11, .mv (.t 3), none⟩, ⟨some 12, .idx (.t 10) (.t 11), none⟩, ⟨some 13, .cvI .i64 (.t 12), none⟩, ⟨some 14, .call false 105 [(.t 13), (.c (.lit (.int .i64 48))), (.c (.lit (.int .i64 57)))], none⟩, ⟨some 15, .un .not (.t 14), none⟩] [10, 11, 12, 13, 14]) (.cond (.t 15) (.seq (.reg false [⟨some 2, .as (.c (.lit (.bool false))), none⟩] []) (.ret)) (.skip)))) (.reg false [⟨some 8, .mv (.t 3), none⟩, ⟨some 9, .bin .add 0 (.t 8) (.c (.lit (.int .i64 1))), none⟩, ⟨some 3, .as (.t 9), none⟩] [8, 9])))))) (.seq (.reg false [⟨some 16, .mv (.t 0), none⟩, ⟨some 17, .bin .neq 0 (.t 16) (.c (.lit (.string (by8 "")))), none⟩, ⟨some 2, .as (.t 17), none⟩] [16, 17]) (.ret)))
theorem is224 : Is Go.Proofs.Tryz.prog 224 18 v224 [.t 2] := ⟨Go.Proofs.Tryz.f224, dl [(0, [2]), (2, [4, 5, 6]), (4, [10, 11, 12, 13, 14]), (3, [8, 9]), (6, [16, 17])], Go.Proofs.Tryz.func224, by kernel_rfl, by kernel_rfl, by kernel_rfl, by kernel_rfl⟩
def isB (u : UInt8) (n : Int) : Bool := decide ((u.toNat : Int) = n)
def lowB (u : UInt8) : Bool := inR u.toNat 97 122
def grB (u : UInt8) : Bool := inR u.toNat 65 90
def letB (u : UInt8) : Bool := lowB u || digB u
def nameB (u : UInt8) : Bool := letB u || isB u 46 || isB u 95 || isB u 45
def safeB (u : UInt8) : Bool := letB u || grB u || isB u 46 || isB u 95 || isB u 45 || isB u 126
def preB (u : UInt8) : Bool := letB u || grB u || isB u 45
def allB (p : UInt8 → Bool) (s : ByteArray) : Bool := (List.range s.size).all fun i => p (bt s i)
theorem allB_false {p : UInt8 → Bool} {s : ByteArray} {i : Nat} (h : i < s.size) (hp : p (bt s i) = false) : allB p s = false := by
  unfold allB; rw [List.all_eq_false]; exact ⟨i, List.mem_range.2 h, by simp [hp]⟩
theorem allB_true {p : UInt8 → Bool} {s : ByteArray} (h : ∀ i, i < s.size → p (bt s i) = true) : allB p s = true := by
  unfold allB; rw [List.all_eq_true]; exact fun i hi => h i (List.mem_range.1 hi)
theorem allB_iff {p : UInt8 → Bool} {s : ByteArray} : allB p s = true ↔ ∀ i, i < s.size → p (bt s i) = true := by
  unfold allB; rw [List.all_eq_true]; exact ⟨fun h i hi => h i (List.mem_range.2 hi), fun h i hi => h i (List.mem_range.1 hi)⟩
/-- a text of digits, one at least -/
def numB (s : ByteArray) : Bool := decide (s ≠ by8 "") && allB digB s
section
variable {E : Env} (hE : E.P = Go.Proofs.Tryz.prog)
include hE
theorem l01Letter_fx (u : UInt8) : Fx E 106 [] [.lit (.int .u8 u.toNat)] [] (.lit (.bool (letB u))) := by
  have hu := u.toNat_lt
  refine (is106.to hE).fx [] (by simp) rfl rfl ?_
  simp [v106]
  rw [wrap_i64 (by omega) (by omega)]
  refine vcall_go (l01In_fx hE u.toNat 97 122) (by simp) (by simp) (by simp) (by simp) ?_
  simp
  cases c1 : inR u.toNat 97 122
  · simp
    rw [wrap_i64 (by omega) (by omega)]
    refine vcall_go (l01In_fx hE u.toNat 48 57) (by simp) (by simp) (by simp) (by simp) ?_
    simp
    exact Fin_ret rfl (by simp [letB, lowB, digB, c1, reC])
  · simp
    exact Fin_ret rfl (by simp [letB, lowB, c1, reC])
theorem l01Great_fx (u : UInt8) : Fx E 138 [] [.lit (.int .u8 u.toNat)] [] (.lit (.bool (grB u))) := by
  have hu := u.toNat_lt
  refine (is138.to hE).fx [] (by simp) rfl rfl ?_
  simp [v138]
  rw [wrap_i64 (by omega) (by omega)]
  refine vcall_go (l01In_fx hE u.toNat 65 90) (by simp) (by simp) (by simp) (by simp) ?_
  simp
  exact Fin_ret rfl rfl
theorem isDigit_fx (u : UInt8) : Fx E 113 [] [.lit (.int .u8 u.toNat)] [] (.lit (.bool (digB u))) := by
  refine (is113.to hE).fx [] (by simp) rfl rfl ?_
  simp [v113]
  by_cases c1 : (48 : Int) ≤ u.toNat
  · simp [c1]
    exact Fin_ret rfl (by simp [digB, inR, c1, reC])
  · simp [c1]
    exact Fin_ret rfl (by simp [digB, inR, c1, reC])
theorem isLower_fx (u : UInt8) : Fx E 112 [] [.lit (.int .u8 u.toNat)] [] (.lit (.bool (lowB u))) := by
  refine (is112.to hE).fx [] (by simp) rfl rfl ?_
  simp [v112]
  by_cases c1 : (97 : Int) ≤ u.toNat
  · simp [c1]
    exact Fin_ret rfl (by simp [lowB, inR, c1, reC])
  · simp [c1]
    exact Fin_ret rfl (by simp [lowB, inR, c1, reC])
theorem isLetter_fx (u : UInt8) : Fx E 116 [] [.lit (.int .u8 u.toNat)] [] (.lit (.bool (lowB u || grB u))) := by
  refine (is116.to hE).fx [] (by simp) rfl rfl ?_
  simp [v116]
  refine vcall_go (isLower_fx hE u) (by simp) (by simp) (by simp) (by simp) ?_
  simp
  cases c1 : lowB u
  · simp
    by_cases c2 : (65 : Int) ≤ u.toNat
    · simp [c2]
      exact Fin_ret rfl (by simp [grB, inR, c2, reC])
    · simp [c2]
      exact Fin_ret rfl (by simp [grB, inR, c2, reC])
  · simp
    exact Fin_ret rfl (by simp [reC])
theorem nameOk1_fx (u : UInt8) : Fx E 111 [] [.lit (.int .u8 u.toNat)] [] (.lit (.bool (nameB u))) := by
  refine (is111.to hE).fx [] (by simp) rfl rfl ?_
  simp [v111]
  refine vcall_go (isLower_fx hE u) (by simp) (by simp) (by simp) (by simp) ?_
  simp
  cases c1 : lowB u
  · simp
    refine vcall_go (isDigit_fx hE u) (by simp) (by simp) (by simp) (by simp) ?_
    simp
    cases c2 : digB u
    · simp
      by_cases c3 : (u.toNat : Int) = 46
      · simp [c3]
        exact Fin_ret rfl (by simp [nameB, isB, c3, reC])
      · simp [c3]
        by_cases c4 : (u.toNat : Int) = 95
        · simp [c4]
          exact Fin_ret rfl (by simp [nameB, isB, c4, reC])
        · simp [c4]
          by_cases c5 : (u.toNat : Int) = 45
          · simp [c5]
            exact Fin_ret rfl (by simp [nameB, isB, c5, reC])
          · simp [c5]
            exact Fin_ret rfl (by simp [nameB, letB, isB, c1, c2, c3, c4, c5, reC])
    · simp
      exact Fin_ret rfl (by simp [nameB, letB, c1, c2, reC])
  · simp
    exact Fin_ret rfl (by simp [nameB, letB, c1, reC])
theorem verOk1_fx (u : UInt8) : Fx E 228 [] [.lit (.int .u8 u.toNat)] [] (.lit (.bool (preB u))) := by
  refine (is228.to hE).fx [] (by simp) rfl rfl ?_
  simp [v228]
  refine vcall_go (isLetter_fx hE u) (by simp) (by simp) (by simp) (by simp) ?_
  simp
  cases c1 : lowB u
  · cases c0 : grB u
    · simp
      refine vcall_go (isDigit_fx hE u) (by simp) (by simp) (by simp) (by simp) ?_
      simp
      cases c2 : digB u
      · simp
        by_cases c5 : (u.toNat : Int) = 45
        · simp [c5]
          exact Fin_ret rfl (by simp [preB, isB, c5, reC])
        · simp [c5]
          exact Fin_ret rfl (by simp [preB, letB, isB, c0, c1, c2, c5, reC])
      · simp
        exact Fin_ret rfl (by simp [preB, letB, c1, c2, reC])
    · simp
      exact Fin_ret rfl (by simp [preB, c0, reC])
  · simp
    exact Fin_ret rfl (by simp [preB, letB, c1, reC])
theorem l01Safe_fx (u : UInt8) : Fx E 107 [] [.lit (.int .u8 u.toNat)] [] (.lit (.bool (safeB u))) := by
  refine (is107.to hE).fx [] (by simp) rfl rfl ?_
  simp [v107]
  refine vcall_go (l01Letter_fx hE u) (by simp) (by simp) (by simp) (by simp) ?_
  simp
  cases c1 : letB u
  · simp
    refine vcall_go (l01Great_fx hE u) (by simp) (by simp) (by simp) (by simp) ?_
    simp
    cases c2 : grB u
    · simp
      by_cases c3 : (u.toNat : Int) = 46
      · simp [c3]
        exact Fin_ret rfl (by simp [safeB, isB, c3, reC])
      · simp [c3]
        by_cases c4 : (u.toNat : Int) = 95
        · simp [c4]
          exact Fin_ret rfl (by simp [safeB, isB, c4, reC])
        · simp [c4]
          by_cases c5 : (u.toNat : Int) = 45
          · simp [c5]
            exact Fin_ret rfl (by simp [safeB, isB, c5, reC])
          · simp [c5]
            by_cases c6 : (u.toNat : Int) = 126
            · simp [c6]
              exact Fin_ret rfl (by simp [safeB, isB, c6, reC])
            · simp [c6]
              exact Fin_ret rfl (by simp [safeB, isB, c1, c2, c3, c4, c5, c6, reC])
    · simp
      exact Fin_ret rfl (by simp [safeB, c1, c2, reC])
  · simp
    exact Fin_ret rfl (by simp [safeB, c1, reC])
theorem all_fx {g : Nat} {p : UInt8 → Bool} (hg : fnOk E.P g = true) (hp : ∀ u : UInt8, Fx E g [] [.lit (.int .u8 u.toNat)] [] (.lit (.bool (p u)))) (s : ByteArray) (hs : s.size ≤ 9223372036854775806) : Fx E 110 [] [.lit (.string s), .fn g []] [] (.lit (.bool (allB p s))) := by
  refine (is110.to hE).fx [] (by simp) rfl rfl ?_
  simp [v110]
  refine X_loop (τ := Nat) (fun i => ⟨[(0, .lit (.string s)), (1, .fn g []), (7, .lit (.int .i64 s.size)), (8, .lit (.int .i64 i))], []⟩) (fun i => i ≤ s.size ∧ ∀ k, k < i → p (bt s k) = true) (fun i => s.size - i) 0 (by simp) (Wk.both (by simp [wkL, wkV.same]) trivial) ?_
  rintro i ⟨hi, hall⟩
  simp
  by_cases hlt : i < s.size
  · simp [hlt, hg]
    refine vcall_go (hp (bt s i)) (by simp) (by simp) (by simp) (by simp) ?_
    simp
    by_cases c1 : p (bt s i) = true
    · simp [c1]
      refine ⟨i + 1, ⟨by omega, fun k hk => ?_⟩, by omega, Wk.both (by simp [wkL, wkV.same]; rw [wrapN (by omega)]; exact wkV.same _) trivial⟩
      rcases Nat.lt_succ_iff_lt_or_eq.1 hk with h | rfl
      · exact hall k h
      · exact c1
    · have c2 : p (bt s i) = false := by simpa using c1
      simp [c2]
      exact Fin_ret rfl (by rw [allB_false hlt c2]; rfl)
  · simp [hlt]
    exact Fin_ret rfl (by rw [allB_true fun k hk => hall k (by omega)]; rfl)
theorem isNumber_fx (s : ByteArray) (hs : s.size ≤ 9223372036854775806) : Fx E 229 [] [.lit (.string s)] [] (.lit (.bool (numB s))) := by
  refine (is229.to hE).fx [] (by simp) rfl rfl ?_
  simp [v229]
  by_cases c1 : s = by8 ""
  · simp [c1]
    exact Fin_ret rfl (by simp [numB, reC])
  · simp [c1]
    refine vcall_go (all_fx hE (by rw [hE]; kernel_rfl) (fun u => isDigit_fx hE u) s hs) (by simp; rfl) (by simp; rfl) (by simp; rfl) (by simp) ?_
    simp
    exact Fin_ret rfl (by simp [numB, c1, reC])
theorem l02Digits_fx (s : ByteArray) (hs : s.size ≤ 9223372036854775806) : Fx E 224 [] [.lit (.string s)] [] (.lit (.bool (numB s))) := by
  refine (is224.to hE).fx [] (by simp) rfl rfl ?_
  simp [v224]
  refine X_loop (τ := Nat) (fun i => ⟨[(0, .lit (.string s)), (3, .lit (.int .i64 i))], []⟩) (fun i => i ≤ s.size ∧ ∀ k, k < i → digB (bt s k) = true) (fun i => s.size - i) 0 (by simp) (Wk.both (by simp [wkL, wkV.same]) trivial) ?_
  rintro i ⟨hi, hall⟩
  simp
  by_cases hlt : i < s.size
  · simp [hlt]
    rw [wrap_i64 (by omega) (by have := (bt s i).toNat_lt; omega)]
    refine vcall_go (l01In_fx hE (bt s i).toNat 48 57) (by simp) (by simp) (by simp) (by simp) ?_
    simp
    cases c1 : inR ((bt s i).toNat : Int) 48 57
    · simp
      exact Fin_ret rfl (by simp [numB, allB_false hlt (p := digB) c1, reC])
    · simp
      refine ⟨i + 1, ⟨by omega, fun k hk => ?_⟩, by omega, Wk.both (by simp [wkL, wkV.same]; rw [wrapN (by omega)]; exact wkV.same _) trivial⟩
      rcases Nat.lt_succ_iff_lt_or_eq.1 hk with h | rfl
      · exact hall k h
      · exact c1
  · simp [hlt]
    exact Fin_ret rfl (by simp [numB, allB_true fun k hk => hall k (by omega), reC])
end
end Go.Proofs.YtgegcfhifojjiaaGreatDoor.Vm
