/- Bytes: both sides. -/
import Derived.Test.YtgegcfhifojjiaaDoorJl
namespace Go.Proofs.YtgegcfhifojjiaaDoor.Vm
open Go Go.RowKit
set_option linter.unusedVariables false
set_option linter.unusedSimpArgs false
def v88 : VC := .seq (.reg false [⟨some 2, .as (.c (.lit (.bool false))), none⟩] [2]) (.seq (.reg false [⟨some 3, .mv (.t 0), none⟩, ⟨some 4, .cvI .i64 (.t 3), none⟩, ⟨some 5, .call false 79 [(.t 4), (.c (.lit (.int .i64 97))), (.c (.lit (.int .i64 122)))], none⟩, ⟨some 6, .mv (.t 5), none⟩, ⟨some 7, .mv (.t 0), (some (6, false))⟩, ⟨some 8, .cvI .i64 (.t 7), (some (6, false))⟩, ⟨some 9, .call false 79 [(.t 8), (.c (.lit (.int .i64 48))), (.c (.lit (.int .i64 57)))], (some (6, false))⟩, ⟨some 10, .pick (.t 6) (.c (.lit (.bool true))) (.t 9), none⟩, ⟨some 2, .as (.t 10), none⟩] [3, 4, 5, 6, 7, 8, 9, 10]) (.ret))
theorem is88 : Is Go.Proofs.Tryd.prog 88 11 v88 [.t 2] := ⟨Go.Proofs.Tryd.f88, dl [(0, [2]), (1, [3, 4, 5, 6, 7, 8, 9, 10])], Go.Proofs.Tryd.func88, by kernel_rfl, by kernel_rfl, by kernel_rfl, by kernel_rfl⟩
def v159 : VC := .seq (.reg false [⟨some 2, .as (.c (.lit (.bool false))), none⟩] [2]) (.seq (.reg false [⟨some 3, .mv (.t 0), none⟩, ⟨some 4, .cvI .i64 (.t 3), none⟩, ⟨some 5, .call false 79 [(.t 4), (.c (.lit (.int .i64 65))), (.c (.lit (.int .i64 90)))], none⟩, ⟨some 2, .as (.t 5), none⟩] [3, 4, 5]) (.ret))
theorem is159 : Is Go.Proofs.Tryd.prog 159 6 v159 [.t 2] := ⟨Go.Proofs.Tryd.f159, dl [(0, [2]), (1, [3, 4, 5])], Go.Proofs.Tryd.func159, by kernel_rfl, by kernel_rfl, by kernel_rfl, by kernel_rfl⟩
def v61 : VC := .seq (.reg false [⟨some 2, .as (.c (.lit (.bool false))), none⟩] [2]) (.seq (.reg false [⟨some 3, .mv (.t 0), none⟩, ⟨some 4, .bin .geq 0 (.t 3) (.c (.lit (.int .u8 48))), none⟩, ⟨some 5, .mv (.t 4), none⟩, ⟨some 6, .mv (.t 0), (some (5, true))⟩, ⟨some 7, .bin .leq 0 (.t 6) (.c (.lit (.int .u8 57))), (some (5, true))⟩, ⟨some 8, .pick (.t 5) (.t 7) (.c (.lit (.bool false))), none⟩, ⟨some 2, .as (.t 8), none⟩] [3, 4, 5, 6, 7, 8]) (.ret))
theorem is61 : Is Go.Proofs.Tryd.prog 61 9 v61 [.t 2] := ⟨Go.Proofs.Tryd.f61, dl [(0, [2]), (1, [3, 4, 5, 6, 7, 8])], Go.Proofs.Tryd.func61, by kernel_rfl, by kernel_rfl, by kernel_rfl, by kernel_rfl⟩
def v160 : VC := .seq (.reg false [⟨some 2, .as (.c (.lit (.bool false))), none⟩] [2]) (.seq (.seq (.reg false [⟨some 3, .as (.c (.lit (.int .i64 0))), none⟩] []) (.block 0 (.loop (.seq (.seq (.reg false [⟨some 4, .mv (.t 3), none⟩, ⟨some 5, .mv (.t 0), none⟩, ⟨some 6, .len true (.t 5), none⟩, ⟨some 7, .bin .lss 0 (.t 4) (.t 6), none⟩] [4, 5, 6]) (.cond (.t 7) (.skip) (.exit 0))) (.seq (.block 1 (.seq (.reg false [⟨some 10, .mv (.t 0), none⟩, ⟨some 11, .mv (.t 3), none⟩, ⟨some 12, .idx (.t 10) (.t 11), none⟩, ⟨some 13, .cvI .i64 (.t 12), none⟩, ⟨some 14, .call false 79 [(.t 13), (.c (.lit (.int .i64 48))), (.c (.lit (.int .i64 57)))], none⟩, ⟨some 15, .un .not (.t 14), none⟩] [10, 11, 12, 13, 14]) (.cond (.t 15) (.seq (.reg false [⟨some 2, .as (.c (.lit (.bool false))), none⟩] []) (.ret)) (.skip)))) (.reg false [⟨some 8, .mv (.t 3), none⟩, ⟨some 9, .bin .add 0 (.t 8) (.c (.lit (.int .i64 1))), none⟩, ⟨some 3, .as (.t 9), none⟩] [8, 9])))))) (.seq (.reg false [⟨some 16, .mv (.t 0), none⟩, ⟨some 17, .bin .neq 0 (.t 16) (.c (.lit (.string (by8 "")))), none⟩, ⟨some 2, .as (.t 17), none⟩] [16, 17]) (.ret)))
theorem is160 : Is Go.Proofs.Tryd.prog 160 18 v160 [.t 2] := ⟨Go.Proofs.Tryd.f160, dl [(0, [2]), (2, [4, 5, 6]), (4, [10, 11, 12, 13, 14]), (3, [8, 9]), (6, [16, 17])], Go.Proofs.Tryd.func160, by kernel_rfl, by kernel_rfl, by kernel_rfl, by kernel_rfl⟩
def isB (u : UInt8) (n : Int) : Bool := decide ((u.toNat : Int) = n)
def lowB (u : UInt8) : Bool := inR u.toNat 97 122
def grB (u : UInt8) : Bool := inR u.toNat 65 90
def letB (u : UInt8) : Bool := lowB u || digB u
def nameB (u : UInt8) : Bool := letB u || isB u 46 || isB u 95 || isB u 45
def safeB (u : UInt8) : Bool := letB u || grB u || isB u 46 || isB u 95 || isB u 45 || isB u 126
def preB (u : UInt8) : Bool := letB u || grB u || isB u 45
def allB (p : UInt8 → Bool) (s : ByteArray) : Bool := (List.range s.size).all fun i => p (bt s i)
theorem allB_false {p : UInt8 → Bool} {s : ByteArray} {i : Nat} (h : i < s.size) (hp : p (bt s i) = false) : allB p s = false := by
  unfold allB; rw [List.all_eq_false]; exact ⟨i, List.mem_range.2 h, by simp [hp]⟩
theorem allB_true {p : UInt8 → Bool} {s : ByteArray} (h : ∀ i, i < s.size → p (bt s i) = true) : allB p s = true := by
  unfold allB; rw [List.all_eq_true]; exact fun i hi => h i (List.mem_range.1 hi)
theorem allB_iff {p : UInt8 → Bool} {s : ByteArray} : allB p s = true ↔ ∀ i, i < s.size → p (bt s i) = true := by
  unfold allB; rw [List.all_eq_true]; exact ⟨fun h i hi => h i (List.mem_range.2 hi), fun h i hi => h i (List.mem_range.1 hi)⟩
/-- a text of digits, one at least -/
def numB (s : ByteArray) : Bool := decide (s ≠ by8 "") && allB digB s
section
variable {E : Env} (hE : E.P = Go.Proofs.Tryd.prog)
include hE
theorem l01Letter_fx (u : UInt8) : Fx E 88 [] [.lit (.int .u8 u.toNat)] [] (.lit (.bool (letB u))) := by
  have hu := u.toNat_lt
  refine (is88.to hE).fx [] (by simp) rfl rfl ?_
  simp [v88]
  rw [wrap_i64 (by omega) (by omega)]
  refine vcall_go (l01In_fx hE u.toNat 97 122) (by simp) (by simp) (by simp) (by simp) ?_
  simp
  cases c1 : inR u.toNat 97 122
  · simp
    rw [wrap_i64 (by omega) (by omega)]
    refine vcall_go (l01In_fx hE u.toNat 48 57) (by simp) (by simp) (by simp) (by simp) ?_
    simp
    exact Fin_ret rfl (by simp [letB, lowB, digB, c1, reC])
  · simp
    exact Fin_ret rfl (by simp [letB, lowB, c1, reC])
theorem l01Great_fx (u : UInt8) : Fx E 159 [] [.lit (.int .u8 u.toNat)] [] (.lit (.bool (grB u))) := by
  have hu := u.toNat_lt
  refine (is159.to hE).fx [] (by simp) rfl rfl ?_
  simp [v159]
  rw [wrap_i64 (by omega) (by omega)]
  refine vcall_go (l01In_fx hE u.toNat 65 90) (by simp) (by simp) (by simp) (by simp) ?_
  simp
  exact Fin_ret rfl rfl
theorem isDigit_fx (u : UInt8) : Fx E 61 [] [.lit (.int .u8 u.toNat)] [] (.lit (.bool (digB u))) := by
  refine (is61.to hE).fx [] (by simp) rfl rfl ?_
  simp [v61]
  by_cases c1 : (48 : Int) ≤ u.toNat
  · simp [c1]
    exact Fin_ret rfl (by simp [digB, inR, c1, reC])
  · simp [c1]
    exact Fin_ret rfl (by simp [digB, inR, c1, reC])
theorem l02Digits_fx (s : ByteArray) (hs : s.size ≤ 9223372036854775806) : Fx E 160 [] [.lit (.string s)] [] (.lit (.bool (numB s))) := by
  refine (is160.to hE).fx [] (by simp) rfl rfl ?_
  simp [v160]
  refine X_loop (τ := Nat) (fun i => ⟨[(0, .lit (.string s)), (3, .lit (.int .i64 i))], []⟩) (fun i => i ≤ s.size ∧ ∀ k, k < i → digB (bt s k) = true) (fun i => s.size - i) 0 (by simp) (Wk.both (by simp [wkL, wkV.same]) trivial) ?_
  rintro i ⟨hi, hall⟩
  simp
  by_cases hlt : i < s.size
  · simp [hlt]
    rw [wrap_i64 (by omega) (by have := (bt s i).toNat_lt; omega)]
    refine vcall_go (l01In_fx hE (bt s i).toNat 48 57) (by simp) (by simp) (by simp) (by simp) ?_
    simp
    cases c1 : inR ((bt s i).toNat : Int) 48 57
    · simp
      exact Fin_ret rfl (by simp [numB, allB_false hlt (p := digB) c1, reC])
    · simp
      refine ⟨i + 1, ⟨by omega, fun k hk => ?_⟩, by omega, Wk.both (by simp [wkL, wkV.same]; rw [wrapN (by omega)]; exact wkV.same _) trivial⟩
      rcases Nat.lt_succ_iff_lt_or_eq.1 hk with h | rfl
      · exact hall k h
      · exact c1
  · simp [hlt]
    exact Fin_ret rfl (by simp [numB, allB_true fun k hk => hall k (by omega), reC])
end
end Go.Proofs.YtgegcfhifojjiaaDoor.Vm
