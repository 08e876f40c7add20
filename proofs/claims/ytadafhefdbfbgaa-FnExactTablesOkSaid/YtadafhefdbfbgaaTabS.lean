/- TablesOk: the specification's side. -/
import Derived.Test.YtadafhefdbfbgaaTab
namespace Go.Proofs.Ytadafhefdbfbgaa.Vm
open Go Go.RowKit
set_option linter.unusedVariables false
set_option linter.unusedSimpArgs false
def v127 : VC := .seq (.reg false [⟨some 6, .as (.c (.lit (.bool false))), none⟩] [6]) (.seq (.reg false [⟨some 7, .mv (.t 0), none⟩, ⟨some 8, .mv (.t 1), none⟩, ⟨some 9, .bin .geq 0 (.t 7) (.t 8), none⟩, ⟨some 10, .mv (.t 9), none⟩, ⟨some 11, .mv (.t 0), (some (10, true))⟩, ⟨some 12, .mv (.t 2), (some (10, true))⟩, ⟨some 13, .bin .leq 0 (.t 11) (.t 12), (some (10, true))⟩, ⟨some 14, .pick (.t 10) (.t 13) (.c (.lit (.bool false))), none⟩, ⟨some 6, .as (.t 14), none⟩] [7, 8, 9, 10, 11, 12, 13, 14]) (.ret))
theorem is127 : Is Go.Proofs.Try.prog 127 15 v127 [.t 6] := ⟨Go.Proofs.Try.f127, dl [(0, [6]), (1, [7, 8, 9, 10, 11, 12, 13, 14])], Go.Proofs.Try.func127, by kernel_rfl, by kernel_rfl, by kernel_rfl, by kernel_rfl⟩
def v126 : VC := .seq (.reg false [⟨some 2, .as (.c (.lit (.bool false))), none⟩] [2]) (.seq (.reg false [⟨some 3, .mv (.t 0), none⟩, ⟨some 4, .cvI .i64 (.t 3), none⟩, ⟨some 5, .call false 127 [(.t 4), (.c (.lit (.int .i64 97))), (.c (.lit (.int .i64 122)))], none⟩, ⟨some 6, .mv (.t 5), none⟩, ⟨some 7, .mv (.t 0), (some (6, false))⟩, ⟨some 8, .cvI .i64 (.t 7), (some (6, false))⟩, ⟨some 9, .call false 127 [(.t 8), (.c (.lit (.int .i64 48))), (.c (.lit (.int .i64 57)))], (some (6, false))⟩, ⟨some 10, .pick (.t 6) (.c (.lit (.bool true))) (.t 9), none⟩, ⟨some 2, .as (.t 10), none⟩] [3, 4, 5, 6, 7, 8, 9, 10]) (.ret))
theorem is126 : Is Go.Proofs.Try.prog 126 11 v126 [.t 2] := ⟨Go.Proofs.Try.f126, dl [(0, [2]), (1, [3, 4, 5, 6, 7, 8, 9, 10])], Go.Proofs.Try.func126, by kernel_rfl, by kernel_rfl, by kernel_rfl, by kernel_rfl⟩
def v105 : VC := .seq (.reg false [⟨some 2, .as (.c (.lit (.bool false))), none⟩] [2]) (.seq (.seq (.reg false [⟨some 3, .as (.c (.lit (.int .i64 0))), none⟩] []) (.block 0 (.loop (.seq (.seq (.reg false [⟨some 4, .mv (.t 3), none⟩, ⟨some 5, .mv (.t 0), none⟩, ⟨some 6, .len true (.t 5), none⟩, ⟨some 7, .bin .lss 0 (.t 4) (.t 6), none⟩] [4, 5, 6]) (.cond (.t 7) (.skip) (.exit 0))) (.seq (.block 1 (.seq (.reg false [⟨some 10, .mv (.t 0), none⟩, ⟨some 11, .mv (.t 3), none⟩, ⟨some 12, .idx (.t 10) (.t 11), none⟩, ⟨some 13, .call false 126 [(.t 12)], none⟩, ⟨some 14, .un .not (.t 13), none⟩, ⟨some 15, .mv (.t 14), none⟩, ⟨some 16, .mv (.t 0), (some (15, true))⟩, ⟨some 17, .mv (.t 3), (some (15, true))⟩, ⟨some 18, .idx (.t 16) (.t 17), (some (15, true))⟩, ⟨some 19, .bin .neq 0 (.t 18) (.c (.lit (.int .u8 95))), (some (15, true))⟩, ⟨some 20, .pick (.t 15) (.t 19) (.c (.lit (.bool false))), none⟩, ⟨some 21, .mv (.t 20), none⟩, ⟨some 22, .mv (.t 0), (some (21, true))⟩, ⟨some 23, .mv (.t 3), (some (21, true))⟩, ⟨some 24, .idx (.t 22) (.t 23), (some (21, true))⟩, ⟨some 25, .bin .neq 0 (.t 24) (.c (.lit (.int .u8 45))), (some (21, true))⟩, ⟨some 26, .pick (.t 21) (.t 25) (.c (.lit (.bool false))), none⟩] [10, 11, 12, 13, 14, 15, 16, 17, 18, 19, 20, 21, 22, 23, 24, 25]) (.cond (.t 26) (.seq (.reg false [⟨some 2, .as (.c (.lit (.bool false))), none⟩] []) (.ret)) (.skip)))) (.reg false [⟨some 8, .mv (.t 3), none⟩, ⟨some 9, .bin .add 0 (.t 8) (.c (.lit (.int .i64 1))), none⟩, ⟨some 3, .as (.t 9), none⟩] [8, 9])))))) (.seq (.reg false [⟨some 27, .mv (.t 0), none⟩, ⟨some 28, .len true (.t 27), none⟩, ⟨some 29, .call false 127 [(.t 28), (.c (.lit (.int .i64 1))), (.c (.lit (.int .i64 30)))], none⟩, ⟨some 2, .as (.t 29), none⟩] [27, 28, 29]) (.ret)))
theorem is105 : Is Go.Proofs.Try.prog 105 30 v105 [.t 2] := ⟨Go.Proofs.Try.f105, dl [(0, [2]), (2, [4, 5, 6]), (4, [10, 11, 12, 13, 14, 15, 16, 17, 18, 19, 20, 21, 22, 23, 24, 25]), (3, [8, 9]), (6, [27, 28, 29])], Go.Proofs.Try.func105, by kernel_rfl, by kernel_rfl, by kernel_rfl, by kernel_rfl⟩
def v72 : VC := .seq (.reg false [⟨some 1, .box 2 (.t 0), none⟩, ⟨some 2, .as (.c (.lit (.bool false))), none⟩] [2]) (.seq (.seq (.reg false [⟨some 3, .as (.c (.lit (.int .i64 0))), none⟩] []) (.block 0 (.loop (.seq (.seq (.reg false [⟨some 6, .mv (.t 3), none⟩, ⟨some 7, .fa 1 (.t 1), none⟩, ⟨some 8, .ld false 1 (.t 7), none⟩, ⟨some 9, .len false (.t 8), none⟩, ⟨some 10, .bin .lss 0 (.t 6) (.t 9), none⟩] [6, 7, 8, 9]) (.cond (.t 10) (.skip) (.exit 0))) (.seq (.block 1 (.seq (.reg false [⟨some 13, .fa 1 (.t 1), none⟩, ⟨some 14, .ld false 1 (.t 13), none⟩, ⟨some 15, .mv (.t 3), none⟩, ⟨some 16, .ia 4 (.t 14) (.t 15), none⟩, ⟨some 17, .ld true 4 (.t 16), none⟩, ⟨some 4, .alloc (.agg [(.lit (.string (by8 ""))), (.lit (.string (by8 ""))), (.sl ⟨.nl, true⟩ 1 []), (.lit (.bool false))]), none⟩, ⟨none, .st 4 (.t 4) (.t 17), none⟩] [13, 14, 15, 16, 17]) (.seq (.seq (.reg false [⟨some 18, .fa 0 (.t 4), none⟩, ⟨some 19, .ld false 1 (.t 18), none⟩, ⟨some 20, .call false 105 [(.t 19)], none⟩, ⟨some 21, .un .not (.t 20), none⟩, ⟨some 22, .mv (.t 21), none⟩, ⟨some 23, .fa 3 (.t 4), (some (22, false))⟩, ⟨some 24, .ld false 1 (.t 23), (some (22, false))⟩, ⟨some 25, .mv (.t 24), (some (22, false))⟩, ⟨some 26, .fa 1 (.t 4), (some (25, true))⟩, ⟨some 27, .ld false 1 (.t 26), (some (25, true))⟩, ⟨some 28, .bin .neq 0 (.t 27) (.c (.lit (.string (by8 "")))), (some (25, true))⟩, ⟨some 29, .pick (.t 25) (.t 28) (.c (.lit (.bool false))), (some (22, false))⟩, ⟨some 30, .pick (.t 22) (.c (.lit (.bool true))) (.t 29), none⟩, ⟨some 31, .mv (.t 30), none⟩, ⟨some 32, .fa 3 (.t 4), (some (31, false))⟩, ⟨some 33, .ld false 1 (.t 32), (some (31, false))⟩, ⟨some 34, .un .not (.t 33), (some (31, false))⟩, ⟨some 35, .mv (.t 34), (some (31, false))⟩, ⟨some 36, .fa 2 (.t 4), (some (35, true))⟩, ⟨some 37, .ld false 1 (.t 36), (some (35, true))⟩, ⟨some 38, .len false (.t 37), (some (35, true))⟩, ⟨some 39, .bin .gtr 0 (.t 38) (.c (.lit (.int .i64 0))), (some (35, true))⟩, ⟨some 40, .pick (.t 35) (.t 39) (.c (.lit (.bool false))), (some (31, false))⟩, ⟨some 41, .pick (.t 31) (.c (.lit (.bool true))) (.t 40), none⟩] [18, 19, 20, 21, 22, 23, 24, 25, 26, 27, 28, 29, 30, 31, 32, 33, 34, 35, 36, 37, 38, 39, 40]) (.cond (.t 41) (.seq (.reg false [⟨some 2, .as (.c (.lit (.bool false))), none⟩] []) (.ret)) (.skip))) (.seq (.reg false [⟨some 5, .as (.c (.lit (.int .i64 0))), none⟩] []) (.block 2 (.loop (.seq (.seq (.reg false [⟨some 42, .mv (.t 5), none⟩, ⟨some 43, .mv (.t 3), none⟩, ⟨some 44, .bin .lss 0 (.t 42) (.t 43), none⟩] [42, 43]) (.cond (.t 44) (.skip) (.exit 2))) (.seq (.block 3 (.seq (.reg true [⟨some 47, .fa 1 (.t 1), none⟩, ⟨some 48, .ld false 1 (.t 47), none⟩, ⟨some 49, .mv (.t 5), none⟩, ⟨some 50, .ia 4 (.t 48) (.t 49), none⟩, ⟨some 51, .fa 0 (.t 50), none⟩, ⟨some 52, .ld false 1 (.t 51), none⟩, ⟨some 53, .fa 0 (.t 4), none⟩, ⟨some 54, .ld false 1 (.t 53), none⟩, ⟨some 55, .bin .eql 0 (.t 52) (.t 54), none⟩] [47, 48, 49, 50, 51, 52, 53, 54]) (.cond (.t 55) (.seq (.reg false [⟨some 2, .as (.c (.lit (.bool false))), none⟩] []) (.ret)) (.skip)))) (.reg false [⟨some 45, .mv (.t 5), none⟩, ⟨some 46, .bin .add 0 (.t 45) (.c (.lit (.int .i64 1))), none⟩, ⟨some 5, .as (.t 46), none⟩] [45, 46]))))))))) (.reg false [⟨some 11, .mv (.t 3), none⟩, ⟨some 12, .bin .add 0 (.t 11) (.c (.lit (.int .i64 1))), none⟩, ⟨some 3, .as (.t 12), none⟩] [11, 12])))))) (.seq (.reg false [⟨some 56, .fa 1 (.t 1), none⟩, ⟨some 57, .ld false 1 (.t 56), none⟩, ⟨some 58, .len false (.t 57), none⟩, ⟨some 59, .bin .leq 0 (.t 58) (.c (.lit (.int .i64 20))), none⟩, ⟨some 60, .mv (.t 59), none⟩, ⟨some 61, .fa 0 (.t 1), (some (60, true))⟩, ⟨some 62, .ld false 1 (.t 61), (some (60, true))⟩, ⟨some 63, .bin .eql 0 (.t 62) (.c (.lit (.string (by8 "")))), (some (60, true))⟩, ⟨some 64, .mv (.t 63), (some (60, true))⟩, ⟨some 65, .fa 1 (.t 1), (some (64, true))⟩, ⟨some 66, .ld false 1 (.t 65), (some (64, true))⟩, ⟨some 67, .len false (.t 66), (some (64, true))⟩, ⟨some 68, .bin .gtr 0 (.t 67) (.c (.lit (.int .i64 0))), (some (64, true))⟩, ⟨some 69, .pick (.t 64) (.t 68) (.c (.lit (.bool false))), (some (60, true))⟩, ⟨some 70, .mv (.t 69), (some (60, true))⟩, ⟨some 71, .fa 0 (.t 1), (some (70, false))⟩, ⟨some 72, .ld false 1 (.t 71), (some (70, false))⟩, ⟨some 73, .call false 105 [(.t 72)], (some (70, false))⟩, ⟨some 74, .pick (.t 70) (.c (.lit (.bool true))) (.t 73), (some (60, true))⟩, ⟨some 75, .pick (.t 60) (.t 74) (.c (.lit (.bool false))), none⟩, ⟨some 2, .as (.t 75), none⟩] [56, 57, 58, 59, 60, 61, 62, 63, 64, 65, 66, 67, 68, 69, 70, 71, 72, 73, 74, 75]) (.ret)))
theorem is72 : Is Go.Proofs.Try.prog 72 76 v72 [.t 2] := ⟨Go.Proofs.Try.f72, dl [(0, [2]), (2, [6, 7, 8, 9]), (4, [13, 14, 15, 16, 17]), (5, [18, 19, 20, 21, 22, 23, 24, 25, 26, 27, 28, 29, 30, 31, 32, 33, 34, 35, 36, 37, 38, 39, 40]), (8, [42, 43]), (10, [47, 48, 49, 50, 51, 52, 53, 54]), (9, [45, 46]), (3, [11, 12]), (12, [56, 57, 58, 59, 60, 61, 62, 63, 64, 65, 66, 67, 68, 69, 70, 71, 72, 73, 74, 75])], Go.Proofs.Try.func72, by kernel_rfl, by kernel_rfl, by kernel_rfl, by kernel_rfl⟩
def v26 : VC := .seq (.reg false [⟨some 2, .as (.c (.lit (.bool false))), none⟩] [2]) (.seq (.seq (.reg false [⟨some 3, .as (.c (.lit (.int .i64 0))), none⟩] []) (.block 0 (.loop (.seq (.seq (.reg false [⟨some 4, .mv (.t 3), none⟩, ⟨some 5, .mv (.t 0), none⟩, ⟨some 6, .len false (.t 5), none⟩, ⟨some 7, .bin .lss 0 (.t 4) (.t 6), none⟩] [4, 5, 6]) (.cond (.t 7) (.skip) (.exit 0))) (.seq (.block 1 (.seq (.reg false [⟨some 10, .mv (.t 0), none⟩, ⟨some 11, .mv (.t 3), none⟩, ⟨some 12, .ia 2 (.t 10) (.t 11), none⟩, ⟨some 13, .ld true 2 (.t 12), none⟩, ⟨some 14, .call false 72 [(.t 13)], none⟩, ⟨some 15, .un .not (.t 14), none⟩, ⟨some 16, .mv (.t 15), none⟩, ⟨some 17, .mv (.t 3), (some (16, false))⟩, ⟨some 18, .bin .gtr 0 (.t 17) (.c (.lit (.int .i64 0))), (some (16, false))⟩, ⟨some 19, .mv (.t 18), (some (16, false))⟩, ⟨some 20, .mv (.t 0), (some (19, true))⟩, ⟨some 21, .mv (.t 3), (some (19, true))⟩, ⟨some 22, .ia 2 (.t 20) (.t 21), (some (19, true))⟩, ⟨some 23, .fa 0 (.t 22), (some (19, true))⟩, ⟨some 24, .ld false 1 (.t 23), (some (19, true))⟩, ⟨some 25, .bin .eql 0 (.t 24) (.c (.lit (.string (by8 "")))), (some (19, true))⟩, ⟨some 26, .pick (.t 19) (.t 25) (.c (.lit (.bool false))), (some (16, false))⟩, ⟨some 27, .pick (.t 16) (.c (.lit (.bool true))) (.t 26), none⟩] [10, 11, 12, 13, 14, 15, 16, 17, 18, 19, 20, 21, 22, 23, 24, 25, 26]) (.cond (.t 27) (.seq (.reg false [⟨some 2, .as (.c (.lit (.bool false))), none⟩] []) (.ret)) (.skip)))) (.reg false [⟨some 8, .mv (.t 3), none⟩, ⟨some 9, .bin .add 0 (.t 8) (.c (.lit (.int .i64 1))), none⟩, ⟨some 3, .as (.t 9), none⟩] [8, 9])))))) (.seq (.reg false [⟨some 28, .mv (.t 0), none⟩, ⟨some 29, .len false (.t 28), none⟩, ⟨some 30, .bin .leq 0 (.t 29) (.c (.lit (.int .i64 60))), none⟩, ⟨some 2, .as (.t 30), none⟩] [28, 29, 30]) (.ret)))
theorem is26 : Is Go.Proofs.Try.prog 26 31 v26 [.t 2] := ⟨Go.Proofs.Try.f26, dl [(0, [2]), (2, [4, 5, 6]), (4, [10, 11, 12, 13, 14, 15, 16, 17, 18, 19, 20, 21, 22, 23, 24, 25, 26]), (3, [8, 9]), (6, [28, 29, 30])], Go.Proofs.Try.func26, by kernel_rfl, by kernel_rfl, by kernel_rfl, by kernel_rfl⟩
def inR (x a b : Int) : Bool := decide (a ≤ x) && decide (x ≤ b)
def letB (u : UInt8) : Bool := inR u.toNat 97 122 || inR u.toNat 48 57
def keyB (u : UInt8) : Bool := letB u || decide (u.toNat = 95) || decide (u.toNat = 45)
def allB (p : UInt8 → Bool) (s : ByteArray) : Bool := (List.range s.size).all fun i => p (bt s i)
def keyOk (s : ByteArray) : Bool := allB keyB s && inR s.size 1 30
theorem allB_false {p : UInt8 → Bool} {s : ByteArray} {i : Nat} (h : i < s.size) (hp : p (bt s i) = false) : allB p s = false := by
  unfold allB
  rw [List.all_eq_false]
  exact ⟨i, List.mem_range.2 h, by simp [hp]⟩
theorem allB_true {p : UInt8 → Bool} {s : ByteArray} (h : ∀ i, i < s.size → p (bt s i) = true) : allB p s = true := by
  unfold allB
  rw [List.all_eq_true]
  exact fun i hi => h i (List.mem_range.1 hi)
def fOk (f : Fld) : Bool := keyOk f.key && (!f.isL || decide (f.text = by8 "")) && (f.isL || decide (f.list.length = 0))
def newAt (l : List Fld) (i : Nat) (f : Fld) : Bool := (l.take i).all fun g => decide (g.key ≠ f.key)
def okAt (l : List Fld) (i : Nat) : Bool := match l[i]? with
  | some f => fOk f && newAt l i f
  | none => true
def fldsOk (l : List Fld) : Bool := (List.range l.length).all (okAt l)
def tbOk (x : Tb) : Bool := fldsOk x.fields && decide (x.fields.length ≤ 20) && (decide (x.name = by8 "") && decide (0 < x.fields.length) || keyOk x.name)
theorem rangeAll_false {p : Nat → Bool} {n i : Nat} (h : i < n) (hp : p i = false) : (List.range n).all p = false := by
  rw [List.all_eq_false]
  exact ⟨i, List.mem_range.2 h, by simp [hp]⟩
theorem rangeAll_true {p : Nat → Bool} {n : Nat} (h : ∀ i, i < n → p i = true) : (List.range n).all p = true := by
  rw [List.all_eq_true]
  exact fun i hi => h i (List.mem_range.1 hi)
theorem okAt_of {l : List Fld} {i : Nat} (h : i < l.length) : okAt l i = (fOk l[i] && newAt l i l[i]) := by
  unfold okAt; rw [List.getElem?_eq_getElem h]
theorem newAt_false {l : List Fld} {i k : Nat} {f : Fld} (hk : k < i) (hi : i ≤ l.length) (h : (l[k]'(by omega)).key = f.key) : newAt l i f = false := by
  unfold newAt
  rw [List.all_eq_false]
  refine ⟨l[k]'(by omega), ?_, by simp [h]⟩
  rw [List.mem_take_iff_getElem]
  exact ⟨k, by omega, rfl⟩
theorem newAt_true {l : List Fld} {i : Nat} {f : Fld} (h : ∀ k g, k < i → l[k]? = some g → g.key ≠ f.key) : newAt l i f = true := by
  unfold newAt
  rw [List.all_eq_true]
  intro g hg
  obtain ⟨k, hk, rfl⟩ := List.mem_take_iff_getElem.1 hg
  simpa using h k _ (by omega) (List.getElem?_eq_getElem _)
theorem wrapN {i : Nat} (h : i < 9223372036854775807) : IntKind.i64.wrap ((i : Int) + 1) = ((i + 1 : Nat) : Int) := by
  rw [wrap_i64 (by omega) (by omega)]; omega
section
variable {E : Env} (hE : E.P = Go.Proofs.Try.prog)
include hE
theorem l01In_fx (x a b : Int) : Fx E 127 [] [.lit (.int .i64 x), .lit (.int .i64 a), .lit (.int .i64 b)] [] (.lit (.bool (inR x a b))) := by
  refine (is127.to hE).fx [] (by simp) rfl rfl ?_
  simp [v127]
  by_cases c1 : a ≤ x
  · simp [c1]
    exact Fin_ret rfl (by simp [inR, c1, reC])
  · simp [c1]
    exact Fin_ret rfl (by simp [inR, c1, reC])
theorem l01Letter_fx (u : UInt8) : Fx E 126 [] [.lit (.int .u8 u.toNat)] [] (.lit (.bool (letB u))) := by
  have hu := u.toNat_lt
  refine (is126.to hE).fx [] (by simp) rfl rfl ?_
  simp [v126]
  rw [wrap_i64 (by omega) (by omega)]
  refine vcall_go (l01In_fx hE u.toNat 97 122) (by simp) (by simp) (by simp) (by simp) ?_
  simp
  cases c1 : inR u.toNat 97 122
  · simp
    rw [wrap_i64 (by omega) (by omega)]
    refine vcall_go (l01In_fx hE u.toNat 48 57) (by simp) (by simp) (by simp) (by simp) ?_
    simp
    exact Fin_ret rfl (by simp [letB, c1, reC])
  · simp
    exact Fin_ret rfl (by simp [letB, c1, reC])
theorem l07Key_fx (s : ByteArray) (hs : s.size ≤ 9223372036854775806) : Fx E 105 [] [.lit (.string s)] [] (.lit (.bool (keyOk s))) := by
  refine (is105.to hE).fx [] (by simp) rfl rfl ?_
  simp [v105]
  refine X_loop (τ := Nat) (fun i => ⟨[(0, .lit (.string s)), (3, .lit (.int .i64 i))], []⟩) (fun i => i ≤ s.size ∧ ∀ k, k < i → keyB (bt s k) = true) (fun i => s.size - i) 0 (by simp) (Wk.both (by simp [wkL, wkV.same]) trivial) ?_
  rintro i ⟨hi, hall⟩
  simp
  by_cases hlt : i < s.size
  · simp [hlt]
    refine vcall_go (l01Letter_fx hE (bt s i)) (by simp) (by simp) (by simp) (by simp) ?_
    simp
    have next : keyB (bt s i) = true → ∃ j, (j ≤ s.size ∧ ∀ k, k < j → keyB (bt s k) = true) ∧ s.size - j < s.size - i ∧ j = i + 1 := fun hk => ⟨i + 1, ⟨by omega, fun k hk' => by
      rcases Nat.lt_succ_iff_lt_or_eq.1 hk' with h | rfl
      · exact hall k h
      · exact hk⟩, by omega, rfl⟩
    have wrp : IntKind.i64.wrap ((i : Int) + 1) = ((i + 1 : Nat) : Int) := by rw [wrap_i64 (by omega) (by omega)]; rfl
    by_cases c0 : letB (bt s i) = true
    · simp [c0]
      obtain ⟨j, h1, h2, rfl⟩ := next (by simp [keyB, c0])
      refine ⟨_, h1, h2, Wk.both (by simp [wkL, wkV.same]; rw [wrp]; exact wkV.same _) trivial⟩
    · have c1 : letB (bt s i) = false := by simpa using c0
      simp [c1, hlt]
      by_cases c2 : (bt s i).toNat = 95
      · have c2' : ((bt s i).toNat : Int) = 95 := by omega
        simp [c2']
        obtain ⟨j, h1, h2, rfl⟩ := next (by simp [keyB, c2])
        refine ⟨_, h1, h2, Wk.both (by simp [wkL, wkV.same]; rw [wrp]; exact wkV.same _) trivial⟩
      · have c2' : ¬ ((bt s i).toNat : Int) = 95 := by omega
        simp [c2', hlt]
        by_cases c3 : (bt s i).toNat = 45
        · have c3' : ((bt s i).toNat : Int) = 45 := by omega
          simp [c3']
          obtain ⟨j, h1, h2, rfl⟩ := next (by simp [keyB, c3])
          refine ⟨_, h1, h2, Wk.both (by simp [wkL, wkV.same]; rw [wrp]; exact wkV.same _) trivial⟩
        · have c3' : ¬ ((bt s i).toNat : Int) = 45 := by omega
          simp [c3']
          exact Fin_ret rfl (by rw [keyOk, allB_false hlt (by simp [keyB, c1, c2, c3])]; rfl)
  · simp [hlt]
    refine vcall_go (l01In_fx hE s.size 1 30) (by simp) (by simp) (by simp) (by simp) ?_
    simp
    exact Fin_ret rfl (by rw [keyOk, allB_true fun k hk => hall k (by omega)]; simp [reC])
theorem l07Table_fx (x : Tb) (hl : x.fields.length ≤ 1048576) (hk : ∀ f ∈ x.fields, f.key.size ≤ 1048576) (hn : x.name.size ≤ 1048576) : Fx E 72 [] [.agg x.av] [] (.lit (.bool (tbOk x))) := by
  refine (is72.to hE).fx [] (by simp) rfl rfl ?_
  simp [v72, Tb.av, okC]
  refine X_loop (τ := Nat) (fun i => ⟨[(1, .ptr 1001 0 0), (3, .lit (.int .i64 i))], [(1001, [.agg x.av])]⟩) (fun i => i ≤ x.fields.length ∧ ∀ k, k < i → okAt x.fields k = true) (fun i => x.fields.length - i) 0 (by simp) (Wk.both (by simp [wkL, wkV.same]) (by simp [wkB, Tb.av])) ?_
  rintro i ⟨hi, hall⟩
  simp [Tb.av, mkF]
  by_cases hlt : i < x.fields.length
  · simp [hlt, Fld.av, mkF, mkF.mkL, okC, putElem, upd, ro]
    have hkf := hk _ (List.getElem_mem hlt)
    refine vcall_go (l07Key_fx hE x.fields[i].key (by omega)) (by simp) (by simp) (by simp) (by simp) ?_
    simp
    by_cases hb : fOk x.fields[i] = true
    · have hb' := hb
      simp only [fOk, Bool.and_eq_true, Bool.or_eq_true, Bool.not_eq_true', decide_eq_true_eq] at hb'
      obtain ⟨⟨b1, b2⟩, b3⟩ := hb'
      have two : (x.fields[i].isL = true ∧ x.fields[i].text = by8 "") ∨ (x.fields[i].isL = false ∧ x.fields[i].list.length = 0) := by
        cases hL : x.fields[i].isL
        · rw [hL] at b3; exact .inr ⟨rfl, b3.resolve_left (by simp)⟩
        · rw [hL] at b2; exact .inl ⟨rfl, b2.resolve_left (by simp)⟩
      rcases two with ⟨t1, t2⟩ | ⟨t1, t2⟩ <;> (
        simp [b1, t1, t2]
        refine X_loop (τ := Nat) (fun k => ⟨[(1, .ptr 1001 0 0), (3, .lit (.int .i64 i)), (4, .ptr 1004 0 0), (5, .lit (.int .i64 k))], [(1001, [.agg x.av]), (1004, [.agg x.fields[i].av])]⟩) (fun k => k ≤ i ∧ ∀ m g, m < k → x.fields[m]? = some g → g.key ≠ x.fields[i].key) (fun k => i - k) 0 (by simp) (Wk.both (by simp [wkL, wkV.same]) (by simp [wkB, Tb.av, Fld.av, t1, t2, ro])) ?_
        rintro k ⟨hk1, hk2⟩
        simp [Tb.av, Fld.av, mkF]
        by_cases hlt2 : k < i
        · have hlt3 : k < x.fields.length := by omega
          simp [hlt2, hlt3, mkF]
          by_cases he : x.fields[k].key = x.fields[i].key
          · simp [he]
            exact Fin_ret rfl (by rw [tbOk, fldsOk, rangeAll_false hlt (by rw [okAt_of hlt, newAt_false hlt2 hi he, Bool.and_false])]; rfl)
          · simp [he]
            refine ⟨k + 1, ⟨by omega, fun m g hm hg => ?_⟩, by omega, Wk.both (by simp [wkL, wkV.same]; rw [wrapN (by omega)]; exact wkV.same _) (by simp [wkB])⟩
            rcases Nat.lt_succ_iff_lt_or_eq.1 hm with h | rfl
            · exact hk2 m g h hg
            · rw [List.getElem?_eq_getElem hlt3] at hg
              rw [← Option.some.inj hg]
              exact he
        · have hki : k = i := by omega
          subst hki
          simp
          refine ⟨k + 1, ⟨by omega, fun m hm => ?_⟩, by omega, Wk.both (by simp [wkL, wkV.same]; rw [wrapN (by omega)]; exact wkV.same _) (by simp [wkB, ro])⟩
          rcases Nat.lt_succ_iff_lt_or_eq.1 hm with h | rfl
          · exact hall m h
          · rw [okAt_of hlt, hb, newAt_true hk2]; rfl)
    · have hb2 : fOk x.fields[i] = false := by simpa using hb
      have hfin : tbOk x = false := by
        rw [tbOk, fldsOk, rangeAll_false hlt (by rw [okAt_of hlt, hb2]; rfl)]; rfl
      rw [hfin]
      cases b1 : keyOk x.fields[i].key
      · simp
        exact Fin_ret rfl rfl
      · cases t1 : x.fields[i].isL
        · have t2 : ¬ x.fields[i].list.length = 0 := by
            intro h; simp [fOk, b1, t1, h] at hb2
          simp [t1, t2]
          have : 0 < x.fields[i].list.length := by omega
          simp [this]
          exact Fin_ret rfl rfl
        · have t2 : ¬ x.fields[i].text = by8 "" := by
            intro h; simp [fOk, b1, t1, h] at hb2
          simp [t1, t2]
          exact Fin_ret rfl rfl
  · have hin : i = x.fields.length := by omega
    have hf : fldsOk x.fields = true := rangeAll_true fun k hk => hall k (by omega)
    simp [hlt]
    by_cases c0 : (x.fields.length : Int) ≤ 20
    · have c1 : x.fields.length ≤ 20 := by omega
      simp [c0]
      by_cases c2 : x.name = by8 ""
      · simp [c2]
        by_cases c3 : 0 < x.fields.length
        · simp [c3]
          exact Fin_ret rfl (by simp [tbOk, hf, c1, c2, c3, reC])
        · simp [c3]
          refine vcall_go (l07Key_fx hE (by8 "") (by decide)) (by simp) (by simp) (by simp) (by simp) ?_
          simp
          exact Fin_ret rfl (by simp [tbOk, hf, c1, c2, c3, reC])
      · simp [c2]
        refine vcall_go (l07Key_fx hE x.name (by omega)) (by simp) (by simp) (by simp) (by simp) ?_
        simp
        exact Fin_ret rfl (by simp [tbOk, hf, c1, c2, reC])
    · have c1 : ¬ x.fields.length ≤ 20 := by omega
      simp [c0]
      exact Fin_ret rfl (by simp [tbOk, c1, reC])
def atOk (l : List Tb) (i : Nat) : Bool := match l[i]? with
  | some t => tbOk t && !(decide (0 < i) && decide (t.name = by8 ""))
  | none => true
def tbsOk (l : List Tb) : Bool := (List.range l.length).all (atOk l) && decide (l.length ≤ 60)
theorem specTablesOk_fx (xs : List Tb) (hxs : xs.length ≤ 1048576) (h : ∀ x ∈ xs, x.fields.length ≤ 1048576 ∧ (∀ f ∈ x.fields, f.key.size ≤ 1048576) ∧ x.name.size ≤ 1048576) : Fx E 26 [] [.sl ro 2 (xs.map fun x => .agg x.av)] [] (.lit (.bool (tbsOk xs))) := by
  refine (is26.to hE).fx [] (by simp) rfl rfl ?_
  simp [v26]
  refine X_loop (τ := Nat) (fun i => ⟨[(0, .sl ro 2 (xs.map fun x => .agg x.av)), (3, .lit (.int .i64 i))], []⟩) (fun i => i ≤ xs.length ∧ ∀ k, k < i → atOk xs k = true) (fun i => xs.length - i) 0 (by simp) (Wk.both (by simp [wkL, wkV.same]) trivial) ?_
  rintro i ⟨hi, hall⟩
  simp
  by_cases hlt : i < xs.length
  · obtain ⟨h1, h2, h3⟩ := h _ (List.getElem_mem hlt)
    have hat : atOk xs i = (tbOk xs[i] && !(decide (0 < i) && decide (xs[i].name = by8 ""))) := by
      unfold atOk; rw [List.getElem?_eq_getElem hlt]
    simp [hlt, Tb.len]
    have ht : List.take 2 xs[i].av = xs[i].av := rfl
    refine vcall_go (l07Table_fx hE xs[i] h1 h2 h3) (by simp [ht, Tb.pl]) (by simp) (by simp) (by simp) ?_
    simp
    have next : atOk xs i = true → ∃ j, (j ≤ xs.length ∧ ∀ k, k < j → atOk xs k = true) ∧ xs.length - j < xs.length - i ∧ j = i + 1 := fun hk => ⟨i + 1, ⟨by omega, fun k hk' => by
      rcases Nat.lt_succ_iff_lt_or_eq.1 hk' with h | rfl
      · exact hall k h
      · exact hk⟩, by omega, rfl⟩
    cases c1 : tbOk xs[i]
    · simp
      exact Fin_ret rfl (by rw [tbsOk, rangeAll_false hlt (by rw [hat, c1]; rfl)]; rfl)
    · simp
      by_cases c2 : 0 < i
      · simp [c2, hlt, Tb.av, mkF]
        by_cases c3 : xs[i].name = by8 ""
        · simp [c3]
          exact Fin_ret rfl (by rw [tbsOk, rangeAll_false hlt (by rw [hat]; simp [c2, c3])]; rfl)
        · simp [c3]
          obtain ⟨j, g1, g2, rfl⟩ := next (by rw [hat]; simp [c1, c3])
          refine ⟨_, g1, g2, Wk.both (by simp [wkL, wkV.same]; rw [wrapN (by omega)]; exact wkV.same _) trivial⟩
      · simp [c2]
        obtain ⟨j, g1, g2, rfl⟩ := next (by rw [hat]; simp [c1, c2])
        refine ⟨_, g1, g2, Wk.both (by simp [wkL, wkV.same]; rw [wrapN (by omega)]; exact wkV.same _) trivial⟩
  · simp [hlt]
    exact Fin_ret rfl (by rw [tbsOk, rangeAll_true fun k hk => hall k (by omega)]; simp [reC]; omega)
end
end Go.Proofs.Ytadafhefdbfbgaa.Vm
