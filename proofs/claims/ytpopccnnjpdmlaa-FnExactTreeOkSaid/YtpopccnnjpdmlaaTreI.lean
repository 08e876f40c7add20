/- Trees: the program's side of TreeOk. -/
import Derived.Test.YtpopccnnjpdmlaaTreS
namespace Go.Proofs.Ytpopccnnjpdmlaa.Vm
open Go Go.RowKit
set_option linter.unusedVariables false
set_option linter.unusedSimpArgs false
def v82 : VC := .seq (.reg false [⟨some 6, .as (.c (.lit (.bool false))), none⟩] [6]) (.seq (.reg false [⟨some 7, .mv (.t 1), none⟩, ⟨some 8, .mv (.t 0), none⟩, ⟨some 9, .bin .leq 0 (.t 7) (.t 8), none⟩, ⟨some 10, .mv (.t 9), none⟩, ⟨some 11, .mv (.t 0), (some (10, true))⟩, ⟨some 12, .mv (.t 2), (some (10, true))⟩, ⟨some 13, .bin .leq 0 (.t 11) (.t 12), (some (10, true))⟩, ⟨some 14, .pick (.t 10) (.t 13) (.c (.lit (.bool false))), none⟩, ⟨some 6, .as (.t 14), none⟩] [7, 8, 9, 10, 11, 12, 13, 14]) (.ret))
theorem is82 : Is Go.Proofs.Try.prog 82 15 v82 [.t 6] := ⟨Go.Proofs.Try.f82, dl [(0, [6]), (1, [7, 8, 9, 10, 11, 12, 13, 14])], Go.Proofs.Try.func82, by kernel_rfl, by kernel_rfl, by kernel_rfl, by kernel_rfl⟩
def v98 : VC := .seq (.reg false [⟨some 4, .as (.c (.lit (.int .i64 0))), none⟩] [4]) (.seq (.seq (.reg false [⟨some 6, .mv (.t 0), none⟩, ⟨some 7, .len false (.t 6), none⟩, ⟨some 8, .mv (.c (.lit (.int .i64 0))), none⟩] [6]) (.block 0 (.loop (.seq (.reg false [⟨some 9, .bin .lss 0 (.t 8) (.t 7), none⟩] []) (.seq (.cond (.t 9) (.skip) (.exit 0)) (.seq (.block 1 (.seq (.reg false [⟨some 10, .mv (.t 8), none⟩, ⟨some 5, .as (.t 10), none⟩] [10]) (.seq (.reg false [⟨some 11, .mv (.t 1), none⟩, ⟨some 12, .mv (.t 0), none⟩, ⟨some 13, .mv (.t 5), none⟩, ⟨some 14, .ia 1 (.t 12) (.t 13), none⟩, ⟨some 15, .ld false 1 (.t 14), none⟩, ⟨some 16, .bin .eql 0 (.t 11) (.t 15), none⟩] [11, 12, 13, 14, 15]) (.cond (.t 16) (.seq (.reg false [⟨some 17, .mv (.t 5), none⟩, ⟨some 4, .as (.t 17), none⟩] [17]) (.ret)) (.skip))))) (.reg false [⟨some 18, .bin .add 0 (.t 8) (.c (.lit (.int .i64 1))), none⟩, ⟨some 8, .mv (.t 18), none⟩] [18]))))))) (.seq (.reg false [⟨some 4, .as (.c (.lit (.int .i64 (-1)))), none⟩] []) (.ret)))
theorem is98 : Is Go.Proofs.Try.prog 98 19 v98 [.t 4] := ⟨Go.Proofs.Try.f98, dl [(0, [4]), (1, [6]), (3, [10]), (4, [11, 12, 13, 14, 15]), (5, [17]), (6, [18])], Go.Proofs.Try.func98, by kernel_rfl, by kernel_rfl, by kernel_rfl, by kernel_rfl⟩
def v83 : VC := .seq (.reg false [⟨some 4, .as (.c (.lit (.bool false))), none⟩] [4]) (.seq (.reg false [⟨some 5, .mv (.t 0), none⟩, ⟨some 6, .mv (.t 1), none⟩, ⟨some 7, .call false 98 [(.t 5), (.t 6)], none⟩, ⟨some 8, .bin .geq 0 (.t 7) (.c (.lit (.int .i64 0))), none⟩, ⟨some 4, .as (.t 8), none⟩] [5, 6, 7, 8]) (.ret))
theorem is83 : Is Go.Proofs.Try.prog 83 9 v83 [.t 4] := ⟨Go.Proofs.Try.f83, dl [(0, [4]), (1, [5, 6, 7, 8])], Go.Proofs.Try.func83, by kernel_rfl, by kernel_rfl, by kernel_rfl, by kernel_rfl⟩
def v51 : VC := .seq (.reg false [⟨some 3, .box 5 (.t 0), none⟩, ⟨some 6, .as (.c (.lit (.bool false))), none⟩] [6]) (.seq (.reg false [⟨some 11, .mv (.t 2), none⟩, ⟨some 12, .fa 0 (.t 11), none⟩, ⟨some 13, .ld false 1 (.t 12), none⟩, ⟨some 14, .bin .sub 0 (.t 13) (.c (.lit (.int .i64 1))), none⟩, ⟨some 15, .fa 0 (.t 11), none⟩, ⟨none, .st 1 (.t 15) (.t 14), none⟩] [11, 12, 13, 14, 15]) (.seq (.seq (.reg false [⟨some 16, .mv (.t 2), none⟩, ⟨some 17, .fa 0 (.t 16), none⟩, ⟨some 18, .ld false 1 (.t 17), none⟩, ⟨some 19, .bin .lss 0 (.t 18) (.c (.lit (.int .i64 0))), none⟩, ⟨some 20, .mv (.t 19), none⟩, ⟨some 21, .mv (.t 1), (some (20, false))⟩, ⟨some 22, .bin .gtr 0 (.t 21) (.c (.lit (.int .i64 8))), (some (20, false))⟩, ⟨some 23, .pick (.t 20) (.c (.lit (.bool true))) (.t 22), none⟩, ⟨some 24, .mv (.t 23), none⟩, ⟨some 25, .fa 0 (.t 3), (some (24, false))⟩, ⟨some 26, .ld false 1 (.t 25), (some (24, false))⟩, ⟨some 27, .call false 82 [(.t 26), (.c (.lit (.int .i64 0))), (.c (.lit (.int .i64 6)))], (some (24, false))⟩, ⟨some 28, .un .not (.t 27), (some (24, false))⟩, ⟨some 29, .pick (.t 24) (.c (.lit (.bool true))) (.t 28), none⟩] [16, 17, 18, 19, 20, 21, 22, 23, 24, 25, 26, 27, 28]) (.cond (.t 29) (.seq (.reg false [⟨some 6, .as (.c (.lit (.bool false))), none⟩] []) (.ret)) (.skip))) (.seq (.seq (.reg false [⟨some 30, .fa 0 (.t 3), none⟩, ⟨some 31, .ld false 1 (.t 30), none⟩, ⟨some 32, .bin .neq 0 (.t 31) (.c (.lit (.int .i64 3))), none⟩, ⟨some 33, .mv (.t 32), none⟩, ⟨some 34, .fa 1 (.t 3), (some (33, true))⟩, ⟨some 35, .ld false 1 (.t 34), (some (33, true))⟩, ⟨some 36, .bin .neq 0 (.t 35) (.c (.lit (.int .i64 0))), (some (33, true))⟩, ⟨some 37, .pick (.t 33) (.t 36) (.c (.lit (.bool false))), none⟩, ⟨some 38, .mv (.t 37), none⟩, ⟨some 39, .fa 1 (.t 3), (some (38, false))⟩, ⟨some 40, .ld false 1 (.t 39), (some (38, false))⟩, ⟨some 41, .call false 82 [(.t 40), (.c (.lit (.int .i64 0))), (.c (.lit (.int .i64 999999999)))], (some (38, false))⟩, ⟨some 42, .un .not (.t 41), (some (38, false))⟩, ⟨some 43, .pick (.t 38) (.c (.lit (.bool true))) (.t 42), none⟩, ⟨some 44, .mv (.t 43), none⟩, ⟨some 45, .fa 0 (.t 3), (some (44, false))⟩, ⟨some 46, .ld false 1 (.t 45), (some (44, false))⟩, ⟨some 47, .bin .neq 0 (.t 46) (.c (.lit (.int .i64 4))), (some (44, false))⟩, ⟨some 48, .mv (.t 47), (some (44, false))⟩, ⟨some 49, .fa 2 (.t 3), (some (48, true))⟩, ⟨some 50, .ld false 1 (.t 49), (some (48, true))⟩, ⟨some 51, .bin .neq 0 (.t 50) (.c (.lit (.string (by8 "")))), (some (48, true))⟩, ⟨some 52, .pick (.t 48) (.t 51) (.c (.lit (.bool false))), (some (44, false))⟩, ⟨some 53, .pick (.t 44) (.c (.lit (.bool true))) (.t 52), none⟩, ⟨some 54, .mv (.t 53), none⟩, ⟨some 55, .fa 0 (.t 3), (some (54, false))⟩, ⟨some 56, .ld false 1 (.t 55), (some (54, false))⟩, ⟨some 57, .bin .neq 0 (.t 56) (.c (.lit (.int .i64 6))), (some (54, false))⟩, ⟨some 58, .mv (.t 57), (some (54, false))⟩, ⟨some 59, .fa 3 (.t 3), (some (58, true))⟩, ⟨some 60, .ld false 1 (.t 59), (some (58, true))⟩, ⟨some 61, .len false (.t 60), (some (58, true))⟩, ⟨some 62, .bin .gtr 0 (.t 61) (.c (.lit (.int .i64 0))), (some (58, true))⟩, ⟨some 63, .pick (.t 58) (.t 62) (.c (.lit (.bool false))), (some (54, false))⟩, ⟨some 64, .pick (.t 54) (.c (.lit (.bool true))) (.t 63), none⟩, ⟨some 65, .mv (.t 64), none⟩, ⟨some 66, .fa 0 (.t 3), (some (65, false))⟩, ⟨some 67, .ld false 1 (.t 66), (some (65, false))⟩, ⟨some 68, .bin .neq 0 (.t 67) (.c (.lit (.int .i64 6))), (some (65, false))⟩, ⟨some 69, .mv (.t 68), (some (65, false))⟩, ⟨some 70, .fa 0 (.t 3), (some (69, true))⟩, ⟨some 71, .ld false 1 (.t 70), (some (69, true))⟩, ⟨some 72, .bin .neq 0 (.t 71) (.c (.lit (.int .i64 5))), (some (69, true))⟩, ⟨some 73, .pick (.t 69) (.t 72) (.c (.lit (.bool false))), (some (65, false))⟩, ⟨some 74, .mv (.t 73), (some (65, false))⟩, ⟨some 75, .fa 4 (.t 3), (some (74, true))⟩, ⟨some 76, .ld false 1 (.t 75), (some (74, true))⟩, ⟨some 77, .len false (.t 76), (some (74, true))⟩, ⟨some 78, .bin .gtr 0 (.t 77) (.c (.lit (.int .i64 0))), (some (74, true))⟩, ⟨some 79, .pick (.t 74) (.t 78) (.c (.lit (.bool false))), (some (65, false))⟩, ⟨some 80, .pick (.t 65) (.c (.lit (.bool true))) (.t 79), none⟩] [30, 31, 32, 33, 34, 35, 36, 37, 38, 39, 40, 41, 42, 43, 44, 45, 46, 47, 48, 49, 50, 51, 52, 53, 54, 55, 56, 57, 58, 59, 60, 61, 62, 63, 64, 65, 66, 67, 68, 69, 70, 71, 72, 73, 74, 75, 76, 77, 78, 79]) (.cond (.t 80) (.seq (.reg false [⟨some 6, .as (.c (.lit (.bool false))), none⟩] []) (.ret)) (.skip))) (.seq (.seq (.reg false [⟨some 81, .fa 0 (.t 3), none⟩, ⟨some 82, .ld false 1 (.t 81), none⟩, ⟨some 83, .bin .eql 0 (.t 82) (.c (.lit (.int .i64 6))), none⟩, ⟨some 84, .mv (.t 83), none⟩, ⟨some 85, .fa 3 (.t 3), (some (84, true))⟩, ⟨some 86, .ld false 1 (.t 85), (some (84, true))⟩, ⟨some 87, .len false (.t 86), (some (84, true))⟩, ⟨some 88, .fa 4 (.t 3), (some (84, true))⟩, ⟨some 89, .ld false 1 (.t 88), (some (84, true))⟩, ⟨some 90, .len false (.t 89), (some (84, true))⟩, ⟨some 91, .bin .neq 0 (.t 87) (.t 90), (some (84, true))⟩, ⟨some 92, .pick (.t 84) (.t 91) (.c (.lit (.bool false))), none⟩] [81, 82, 83, 84, 85, 86, 87, 88, 89, 90, 91]) (.cond (.t 92) (.seq (.reg false [⟨some 6, .as (.c (.lit (.bool false))), none⟩] []) (.ret)) (.skip))) (.seq (.seq (.reg false [⟨some 93, .fa 3 (.t 3), none⟩, ⟨some 94, .ld false 1 (.t 93), none⟩, ⟨some 95, .len false (.t 94), none⟩, ⟨some 96, .mv (.c (.lit (.int .i64 0))), none⟩] [93]) (.block 0 (.loop (.seq (.reg false [⟨some 97, .bin .lss 0 (.t 96) (.t 95), none⟩] []) (.seq (.cond (.t 97) (.skip) (.exit 0)) (.seq (.block 1 (.seq (.reg false [⟨some 98, .mv (.t 96), none⟩, ⟨some 99, .ia 1 (.t 94) (.t 96), none⟩, ⟨some 100, .ld false 1 (.t 99), none⟩, ⟨some 7, .as (.t 98), none⟩, ⟨some 8, .as (.t 100), none⟩] [98, 99, 100]) (.seq (.reg false [⟨some 101, .fa 3 (.t 3), none⟩, ⟨some 102, .ld false 1 (.t 101), none⟩, ⟨some 103, .mv (.t 7), none⟩, ⟨some 104, .slL 1 (.t 102) none (some (.t 103)), none⟩, ⟨some 105, .mv (.t 8), none⟩, ⟨some 106, .call false 83 [(.t 104), (.t 105)], none⟩] [101, 102, 103, 104, 105]) (.cond (.t 106) (.seq (.reg false [⟨some 6, .as (.c (.lit (.bool false))), none⟩] []) (.ret)) (.skip))))) (.reg false [⟨some 107, .bin .add 0 (.t 96) (.c (.lit (.int .i64 1))), none⟩, ⟨some 96, .mv (.t 107), none⟩] [107]))))))) (.seq (.seq (.reg false [⟨some 108, .fa 4 (.t 3), none⟩, ⟨some 109, .ld false 1 (.t 108), none⟩, ⟨some 110, .len false (.t 109), none⟩, ⟨some 111, .mv (.c (.lit (.int .i64 0))), none⟩] [108]) (.block 2 (.loop (.seq (.reg false [⟨some 112, .bin .lss 0 (.t 111) (.t 110), none⟩] []) (.seq (.cond (.t 112) (.skip) (.exit 2)) (.seq (.block 3 (.seq (.reg false [⟨some 113, .ia 5 (.t 109) (.t 111), none⟩, ⟨some 114, .ld true 5 (.t 113), none⟩, ⟨some 10, .alloc (.agg [(.lit (.int .i64 0)), (.lit (.int .i64 0)), (.lit (.string (by8 ""))), (.sl ⟨.nl, true⟩ 1 []), (.sl ⟨.nl, true⟩ 1 [])]), none⟩, ⟨none, .st 5 (.t 10) (.t 114), none⟩] [113, 114]) (.seq (.reg false [⟨some 115, .ld true 5 (.t 10), none⟩, ⟨some 116, .mv (.t 1), none⟩, ⟨some 117, .bin .add 0 (.t 116) (.c (.lit (.int .i64 1))), none⟩, ⟨some 118, .mv (.t 2), none⟩, ⟨some 119, .call false 51 [(.t 115), (.t 117), (.t 118)], none⟩, ⟨some 120, .un .not (.t 119), none⟩] [115, 116, 117, 118, 119]) (.cond (.t 120) (.seq (.reg false [⟨some 6, .as (.c (.lit (.bool false))), none⟩] []) (.ret)) (.skip))))) (.reg false [⟨some 121, .bin .add 0 (.t 111) (.c (.lit (.int .i64 1))), none⟩, ⟨some 111, .mv (.t 121), none⟩] [121]))))))) (.seq (.reg false [⟨some 6, .as (.c (.lit (.bool true))), none⟩] []) (.ret))))))))
theorem is51 : Is Go.Proofs.Try.prog 51 122 v51 [.t 6] := ⟨Go.Proofs.Try.f51, dl [(0, [6]), (1, [11, 12, 13, 14, 15]), (2, [16, 17, 18, 19, 20, 21, 22, 23, 24, 25, 26, 27, 28]), (4, [30, 31, 32, 33, 34, 35, 36, 37, 38, 39, 40, 41, 42, 43, 44, 45, 46, 47, 48, 49, 50, 51, 52, 53, 54, 55, 56, 57, 58, 59, 60, 61, 62, 63, 64, 65, 66, 67, 68, 69, 70, 71, 72, 73, 74, 75, 76, 77, 78, 79]), (6, [81, 82, 83, 84, 85, 86, 87, 88, 89, 90, 91]), (8, [93]), (10, [98, 99, 100]), (11, [101, 102, 103, 104, 105]), (13, [107]), (14, [108]), (16, [113, 114]), (17, [115, 116, 117, 118, 119]), (19, [121])], Go.Proofs.Try.func51, by kernel_rfl, by kernel_rfl, by kernel_rfl, by kernel_rfl⟩
def idxS : List ByteArray → ByteArray → Int
  | [], _ => -1
  | x :: l, s => if x = s then 0 else if idxS l s < 0 then -1 else idxS l s + 1
def goK (f : Tr → Int → Int × Bool) : List Tr → Int → Int × Bool
  | [], l => (l, true)
  | y :: ys, l => if (f y l).2 = true then goK f ys (f y l).1 else ((f y l).1, false)
def preB (x : Tr) (deep l : Int) : Bool :=
  decide (0 ≤ l - 1) && decide (deep ≤ 8) && inR x.kind 0 6 && !(decide (x.kind ≠ 3) && decide (x.n ≠ 0)) && inR x.n 0 999999999 && !(decide (x.kind ≠ 4) && decide (x.s ≠ by8 "")) && !(decide (x.kind ≠ 6) && decide (0 < x.keys.length)) &&
  !(decide (x.kind ≠ 6) && decide (x.kind ≠ 5) && decide (0 < x.kids.length)) && !(decide (x.kind = 6) && decide (x.keys.length ≠ x.kids.length))
def fitL : Nat → Tr → Int → Int → Int × Bool
  | 0, _, _, l => (l, false)
  | m + 1, x, deep, l => if preB x deep l = true then (if keysNew x.keys = true then goK (fun y l => fitL m y (deep + 1) l) x.kids (l - 1) else (l - 1, false)) else (l - 1, false)
def impND (p q : Prop) : Prop := p → q
theorem hasS_take {l : List ByteArray} {s : ByteArray} (h : ∀ (k : Nat) (x : ByteArray), l[k]? = some x → x ≠ s) : hasS l s = false := hasS_false h
section
variable {E : Env} (hE : E.P = Go.Proofs.Try.prog)
include hE
theorem within_fx (x a b : Int) : Fx E 82 [] [.lit (.int .i64 x), .lit (.int .i64 a), .lit (.int .i64 b)] [] (.lit (.bool (inR x a b))) := by
  refine (is82.to hE).fx [] (by simp) rfl rfl ?_
  simp [v82]
  by_cases c1 : a ≤ x
  · simp [c1]
    exact Fin_ret rfl (by simp [inR, c1, reC])
  · simp [c1]
    exact Fin_ret rfl (by simp [inR, c1, reC])
theorem contS_fx (l : List ByteArray) (s : ByteArray) (hl : l.length ≤ 1048576) : Fx E 83 [] [.sl ro 1 (l.map fun x => .lit (.string x)), .lit (.string s)] [] (.lit (.bool (hasS l s))) := by
  have idx : ∃ i : Int, Fx E 98 [] [.sl ro 1 (l.map fun x => .lit (.string x)), .lit (.string s)] [] (.lit (.int .i64 i)) ∧ (0 ≤ i ↔ hasS l s = true) := by
    by_cases hh : ∃ i, ∃ h : i < l.length, l[i] = s ∧ ∀ (k : Nat) (x : ByteArray), k < i → l[k]? = some x → x ≠ s
    · obtain ⟨i0, h0, e0, n0⟩ := hh
      refine ⟨i0, ?_, by simp [hasS_true h0 e0]⟩
      refine (is98.to hE).fx [] (by simp) rfl rfl ?_
      simp [v98]
      refine X_loop (τ := Nat) (fun i => ⟨[(0, .sl ro 1 (l.map fun x => .lit (.string x))), (1, .lit (.string s)), (7, .lit (.int .i64 l.length)), (8, .lit (.int .i64 i))], []⟩) (fun i => i ≤ i0) (fun i => i0 - i) 0 (by simp) (Wk.both (by simp [wkL, wkV.same]) trivial) ?_
      rintro i hi
      have hlt : i < l.length := by omega
      simp [hlt, ro, mkF]
      by_cases c : s = l[i]
      · obtain rfl : i = i0 := by
          rcases Nat.lt_or_ge i i0 with h | h
          · exact absurd c.symm (n0 i _ h (List.getElem?_eq_getElem hlt))
          · omega
        simp [c]
        exact Fin_ret rfl rfl
      · have hne : i ≠ i0 := by rintro rfl; exact c e0.symm
        simp [c]
        exact ⟨i + 1, by omega, by omega, Wk.both (by simp [wkL, wkV.same, ro]; rw [wrapN (by omega)]; exact wkV.same _) trivial⟩
    · have hno : ∀ (k : Nat) (x : ByteArray), l[k]? = some x → x ≠ s := by
        intro k
        induction k using Nat.strongRecOn with
        | ind k ih =>
          rintro x hx rfl
          obtain ⟨h1, h2⟩ := List.getElem?_eq_some_iff.1 hx
          exact hh ⟨k, h1, h2, fun j y hj hy => ih j hj y hy⟩
      refine ⟨-1, ?_, by rw [hasS_false hno]; simp⟩
      refine (is98.to hE).fx [] (by simp) rfl rfl ?_
      simp [v98]
      refine X_loop (τ := Nat) (fun i => ⟨[(0, .sl ro 1 (l.map fun x => .lit (.string x))), (1, .lit (.string s)), (7, .lit (.int .i64 l.length)), (8, .lit (.int .i64 i))], []⟩) (fun i => i ≤ l.length) (fun i => l.length - i) 0 (by simp) (Wk.both (by simp [wkL, wkV.same]) trivial) ?_
      rintro i hi
      by_cases hlt : i < l.length
      · have c : ¬ s = l[i] := fun e => hno i _ (List.getElem?_eq_getElem hlt) e.symm
        simp [hlt, ro, mkF, c]
        exact ⟨i + 1, by omega, by omega, Wk.both (by simp [wkL, wkV.same, ro]; rw [wrapN (by omega)]; exact wkV.same _) trivial⟩
      · simp [hlt]
        exact Fin_ret rfl rfl
  obtain ⟨i, hi, he⟩ := idx
  refine (is83.to hE).fx [] (by simp) rfl rfl ?_
  simp [v83]
  refine vcall_go hi (by simp) (by simp) (by simp) (by simp) ?_
  simp
  exact Fin_ret rfl (by
    cases h : hasS l s <;> simp [h] at he <;> simp [reC, he])
omit hE in
theorem fitL_no {m : Nat} {x : Tr} {deep l : Int} (h : preB x deep l = false) : fitL (m + 1) x deep l = (l - 1, false) := by
  rw [fitL, h]; rfl
omit hE in
theorem fitL_dup {m : Nat} {x : Tr} {deep l : Int} (h : preB x deep l = true) (h2 : keysNew x.keys = false) : fitL (m + 1) x deep l = (l - 1, false) := by
  rw [fitL, if_pos h, h2]; rfl
omit hE in
theorem fitL_go {m : Nat} {x : Tr} {deep l : Int} (h : preB x deep l = true) (h2 : keysNew x.keys = true) : fitL (m + 1) x deep l = goK (fun y l => fitL m y (deep + 1) l) x.kids (l - 1) := by
  rw [fitL, if_pos h, if_pos h2]
omit hE in
theorem own_iff {x : Tr} (hl : x.kids.length ≤ 600) : ownB x = true ↔ (inR x.kind 0 6 = true ∧ (x.kind ≠ 3 → x.n = 0) ∧ inR x.n 0 999999999 = true ∧ (x.kind ≠ 4 → x.s = by8 "") ∧ (x.kind ≠ 6 → x.keys.length = 0) ∧ (x.kind ≠ 6 → x.kind ≠ 5 → x.kids.length = 0) ∧ (x.kind = 6 → x.keys.length = x.kids.length) ∧ keysNew x.keys = true) := by
  have hk0 : x.keys.length = 0 → keysNew x.keys = true := fun h => by rw [List.length_eq_zero_iff.1 h]; rfl
  have hk : (x.kind = 0 ∨ x.kind = 1 ∨ x.kind = 2) ∨ x.kind = 3 ∨ x.kind = 4 ∨ x.kind = 5 ∨ x.kind = 6 ∨ (x.kind < 0 ∨ 6 < x.kind) := by omega
  rcases hk with hk | hk | hk | hk | hk | hk
  · rcases hk with hk | hk | hk <;> simp [ownB, hk, inR] <;> constructor <;> intro h <;> simp_all
  · simp [ownB, hk, inR]; constructor <;> intro h <;> simp_all
  · simp [ownB, hk, inR]; constructor <;> intro h <;> simp_all
  · simp [ownB, hk, inR]; constructor <;> intro h <;> simp_all
  · simp [ownB, hk, inR]; constructor <;> intro h <;> simp_all
  · have h0 : x.kind ≠ 0 ∧ x.kind ≠ 1 ∧ x.kind ≠ 2 ∧ x.kind ≠ 3 ∧ x.kind ≠ 4 ∧ x.kind ≠ 5 ∧ x.kind ≠ 6 := by omega
    simp [ownB, h0, inR]; omega
omit hE in
theorem pre_iff {x : Tr} {deep l : Int} : preB x deep l = true ↔ (1 ≤ l ∧ deep ≤ 8 ∧ inR x.kind 0 6 = true ∧ (x.kind ≠ 3 → x.n = 0) ∧ inR x.n 0 999999999 = true ∧ (x.kind ≠ 4 → x.s = by8 "") ∧ (x.kind ≠ 6 → x.keys.length = 0) ∧ (x.kind ≠ 6 → x.kind ≠ 5 → x.kids.length = 0) ∧ (x.kind = 6 → x.keys.length = x.kids.length)) := by
  simp only [preB, Bool.and_eq_true, Bool.not_eq_true', Bool.and_eq_false_iff, decide_eq_false_iff_not, decide_eq_true_eq, Nat.not_lt, Classical.not_not, ne_eq]
  constructor
  · rintro ⟨⟨⟨⟨⟨⟨⟨⟨h1, h2⟩, h3⟩, h4⟩, h5⟩, h6⟩, h7⟩, h8⟩, h9⟩
    refine ⟨by omega, h2, h3, fun h => by rcases h4 with h4 | h4 <;> first | exact absurd h4 h | exact h4, h5, fun h => by rcases h6 with h6 | h6 <;> first | exact absurd h6 h | exact h6, fun h => by omega, fun h h' => by omega, fun h => by omega⟩
  · rintro ⟨h1, h2, h3, h4, h5, h6, h7, h8, h9⟩
    refine ⟨⟨⟨⟨⟨⟨⟨⟨by omega, h2⟩, h3⟩, ?_⟩, h5⟩, ?_⟩, by omega⟩, by omega⟩, by omega⟩
    · by_cases h : x.kind = 3
      · exact .inl h
      · exact .inr (h4 h)
    · by_cases h : x.kind = 4
      · exact .inl h
      · exact .inr (h6 h)
omit hE in
theorem goK_spec {f : Tr → Int → Int × Bool} {p : Tr → Bool} : ∀ (ys : List Tr) (l : Int), 0 ≤ l → l ≤ 600 → (∀ y ∈ ys, ∀ l, 0 ≤ l → l ≤ 600 → (f y l).2 = (p y && decide ((y.cnt : Int) ≤ l)) ∧ ((f y l).2 = true → (f y l).1 = l - y.cnt)) →
    (goK f ys l).2 = (ys.all p && decide ((Tr.cntL ys : Int) ≤ l)) ∧ ((goK f ys l).2 = true → (goK f ys l).1 = l - Tr.cntL ys)
  | [], l, h0, h1, h => by simp [goK, Tr.cntL_nil, h0]
  | y :: ys, l, h0, h1, h => by
    obtain ⟨a1, a2⟩ := h y List.mem_cons_self l h0 h1
    have hc := Tr.cntL_cons y ys
    cases c : (f y l).2
    · rw [goK, c]
      rw [c] at a1
      refine ⟨?_, fun h => by simp at h⟩
      simp only [Bool.false_eq_true, if_false, List.all_cons]
      cases hp : p y
      · rfl
      · rw [hp] at a1
        have : ¬ (y.cnt : Int) ≤ l := by simpa using a1.symm
        simp only [Bool.true_and]
        have h2 : ¬ (Tr.cntL (y :: ys) : Int) ≤ l := by omega
        simp [h2]
    · have a2 := a2 c
      rw [c] at a1
      have a1 := (Bool.and_eq_true _ _ ▸ a1.symm : _ ∧ _)
      have a3 : (y.cnt : Int) ≤ l := by simpa using a1.2
      have cp := Tr.cnt_pos y
      obtain ⟨b1, b2⟩ := goK_spec (f := f) (p := p) ys (f y l).1 (by omega) (by omega) fun z hz => h z (List.mem_cons_of_mem _ hz)
      rw [goK, if_pos c]
      refine ⟨?_, fun hh => by rw [b2 hh]; omega⟩
      rw [b1, List.all_cons, a1.1, Bool.true_and]
      congr 1
      exact decide_eq_decide.2 (by omega)
omit hE in
theorem fitL_spec : ∀ (m : Nat) (x : Tr) (deep l : Int), 0 ≤ l → l ≤ 600 → x.fitN m → (fitL m x deep l).2 = (rightN m x (8 - deep) && decide ((x.cnt : Int) ≤ l)) ∧ ((fitL m x deep l).2 = true → (fitL m x deep l).1 = l - x.cnt)
  | 0, x, deep, l, h0, h1, hg => hg.elim
  | m + 1, x, deep, l, h0, h1, hg => by
    obtain ⟨g1, g2, g3, g4, g5⟩ := hg
    have hc := Tr.cnt_eq x
    have hlen := Tr.len_cntL x.kids
    by_cases hp : preB x deep l = true
    · by_cases hn : keysNew x.keys = true
      · obtain ⟨p1, p2, p3⟩ := pre_iff.1 hp
        obtain ⟨b1, b2⟩ := goK_spec (f := fun y l => fitL m y (deep + 1) l) (p := fun y => rightN m y (8 - deep - 1)) x.kids (l - 1) (by omega) (by omega) fun y hy l' a b => by
          have := fitL_spec m y (deep + 1) l' a b (g5 y hy)
          rw [show 8 - (deep + 1) = 8 - deep - 1 by omega] at this
          exact this
        rw [fitL, if_pos hp, if_pos hn]
        refine ⟨?_, fun hh => by rw [b2 hh]; omega⟩
        rw [b1, rightN]
        by_cases hle : (x.cnt : Int) ≤ l
        · have ho : ownB x = true := (own_iff (by omega)).2 ⟨p3.1, p3.2.1, p3.2.2.1, p3.2.2.2.1, p3.2.2.2.2.1, p3.2.2.2.2.2.1, p3.2.2.2.2.2.2, hn⟩
          have e1 : (Tr.cntL x.kids : Int) ≤ l - 1 := by omega
          have e2 : (0 : Int) ≤ 8 - deep := by omega
          simp [ho, hle, e1]
          omega
        · have e1 : ¬ (Tr.cntL x.kids : Int) ≤ l - 1 := by omega
          simp [hle, e1]
      · rw [fitL, if_pos hp, if_neg hn]
        refine ⟨?_, fun hh => by simp at hh⟩
        by_cases hle : (x.cnt : Int) ≤ l
        · have ho : ownB x = false := by
            cases h : ownB x
            · rfl
            · exact absurd ((own_iff (by omega)).1 h).2.2.2.2.2.2.2 hn
          simp [rightN, ho]
        · simp [hle]
    · rw [fitL, if_neg hp]
      refine ⟨?_, fun hh => by simp at hh⟩
      by_cases hle : (x.cnt : Int) ≤ l
      · cases hr : rightN (m + 1) x (8 - deep)
        · rfl
        · refine absurd (pre_iff.2 ?_) hp
          simp only [rightN, Bool.and_eq_true, decide_eq_true_eq] at hr
          obtain ⟨q1, q2, q3, q4, q5, q6, q7, q8⟩ := (own_iff (by omega)).1 hr.2.2
          exact ⟨by omega, by omega, q1, q2, q3, q4, q5, q6, q7⟩
      · simp [hle]
set_option maxHeartbeats 20000000 in
set_option maxRecDepth 10000 in
theorem treeFits_fx : ∀ (m : Nat) (x : Tr) (deep l : Int), x.fitN m → 0 ≤ deep → deep + m ≤ 4611686018427387904 → 0 ≤ l → l ≤ 600 → Fx E 51 [[.lit (.int .i64 l)]] [.agg x.av, .lit (.int .i64 deep), .ptr 0 0 0] [[.lit (.int .i64 (fitL m x deep l).1)]] (.lit (.bool (fitL m x deep l).2))
  | 0, x, deep, l, hg, _, _, _, _ => hg.elim
  | m + 1, x, deep, l, hg, h1, h2, h3, h4 => by
    obtain ⟨g1, g2, g3, g4, g5⟩ := hg
    refine (is51.to hE).fxb [] (by simp) rfl ⟨rfl, rfl⟩ rfl (by simp) ?_
    simp [v51, Tr.av_eq x, okC, mkF, putElem, upd]
    rw [wrap_i64 (by omega) (by omega)]
    by_cases c0 : l - 1 < 0
    · simp [c0, mkF]
      rw [fitL_no (by simp [preB]; omega)]
      exact FinB_ret rfl rfl rfl rfl
    · have c0' : 1 ≤ l := by omega
      simp [c0, mkF]
      by_cases c1 : 8 < deep
      · simp [c1, mkF]
        rw [fitL_no (by simp [preB]; omega)]
        exact FinB_ret rfl rfl rfl rfl
      · simp [c1, mkF]
        refine vcall_go (within_fx hE x.kind 0 6) (by simp) (by simp) (by simp) (by simp) ?_
        simp
        have c1 : deep ≤ 8 := by omega
        have c0 : 0 ≤ l - 1 := by omega
        by_cases ck0 : inR x.kind 0 6 = true
        rotate_left
        · have ck0 : inR x.kind 0 6 = false := by simpa using ck0
          simp [ck0, mkF]
          rw [fitL_no (by rw [preB, ck0]; simp)]
          exact FinB_ret rfl rfl rfl rfl
        simp [ck0, mkF]
        have hk : (x.kind ≠ 3 ∧ x.kind ≠ 4 ∧ x.kind ≠ 5 ∧ x.kind ≠ 6 ∧ 0 ≤ x.kind ∧ x.kind ≤ 6) ∨ x.kind = 3 ∨ x.kind = 4 ∨ x.kind = 5 ∨ x.kind = 6 := by
          simp [inR] at ck0; omega
        rcases hk with hk | hk | hk | hk | hk
        · obtain ⟨hk3, hk4, hk5, hk6, hk0, hk1⟩ := hk
          by_cases cn : x.n = 0
          · simp [cn, hk3, hk4, hk5, hk6, mkF, ro]
            refine vcall_go (within_fx hE 0 0 999999999) (by simp) (by simp) (by simp) (by simp) ?_
            simp [inR, hk3, hk4, hk5, hk6, mkF, ro]
            by_cases cs : x.s = by8 ""
            · simp [cs, hk3, hk4, hk5, hk6, mkF, ro]
              by_cases ck : ¬ 0 < x.keys.length
              · simp [ck, hk3, hk4, hk5, hk6, mkF, ro]
                by_cases cd : ¬ 0 < x.kids.length
                · simp [cd, hk3, hk4, hk5, hk6, mkF, ro]
                  have hpre : preB x deep l = true := by simp [preB, inR, hk3, hk4, hk5, hk6, hk0, hk1, c0', c1, cn, cs, ck, cd]
                  refine X_loop (τ := Nat) (fun i => ⟨[(1, .lit (.int .i64 deep)), (2, .ptr 0 0 0), (3, .ptr 1003 0 0), (94, .sl ro 1 (x.keys.map fun x => .lit (.string x))), (95, .lit (.int .i64 x.keys.length)), (96, .lit (.int .i64 i))], [(0, [.lit (.int .i64 (l - 1))]), (1003, [.agg x.av])]⟩) (fun i => i ≤ x.keys.length ∧ ∀ k, k < i → newAt x.keys k = true) (fun i => x.keys.length - i) 0 (by simp) (Wk.both (by simp [wkL, wkV.same, c0, c1, cn, cs, ck, cd, ro]) (by simp [wkB, Tr.av_eq x, c0, c1, cn, cs, ck, cd, ro])) ?_
                  rintro i ⟨hi, hall⟩
                  simp [Tr.av_eq x]
                  by_cases hlt : i < x.keys.length
                  · simp [hlt, hi, ro, mkF, cutB]
                    refine vcall_go (contS_fx hE (x.keys.take i) x.keys[i] (by simp; omega)) (by simp [ro, List.map_take]) (by simp) (by simp) (by simp) ?_
                    simp
                    cases c : hasS (x.keys.take i) x.keys[i]
                    · simp
                      refine ⟨i + 1, ⟨by omega, fun k hk => ?_⟩, by omega, Wk.both (by simp [wkL, wkV.same, ro]; rw [wrapN (by omega)]; exact wkV.same _) (by simp [wkB, Tr.av_eq x, ro])⟩
                      rcases Nat.lt_succ_iff_lt_or_eq.1 hk with h | rfl
                      · exact hall k h
                      · rw [newAt_of hlt, c]; rfl
                    · simp
                      rw [fitL_dup hpre (rangeAll_false hlt (by rw [newAt_of hlt, c]; rfl))]
                      exact FinB_ret rfl rfl rfl rfl
                  · have hfit := fitL_go (m := m) hpre (rangeAll_true fun k hk => hall k (by omega))
                    rw [hfit]
                    generalize hf : (fun y l => fitL m y (deep + 1) l) = f
                    simp [hlt, ro, mkF]
                    refine X_loop (τ := Nat × Int) (fun p => ⟨[(1, .lit (.int .i64 deep)), (2, .ptr 0 0 0), (109, .sl ro 5 (x.kids.map fun x => .agg x.av)), (110, .lit (.int .i64 x.kids.length)), (111, .lit (.int .i64 p.1))], [(0, [.lit (.int .i64 p.2)])]⟩) (fun p => p.1 ≤ x.kids.length ∧ 0 ≤ p.2 ∧ p.2 ≤ 600 ∧ goK f x.kids (l - 1) = goK f (x.kids.drop p.1) p.2) (fun p => x.kids.length - p.1) (0, l - 1) (by simp; omega) (Wk.both (by simp [wkL, wkV.same, ro]) (by simp [wkB, ro])) ?_
                    rintro ⟨i, k⟩ ⟨hi, hk, hk2, he⟩
                    simp only at hi hk hk2 he
                    rw [he]
                    simp
                    by_cases hlt : i < x.kids.length
                    · have hd : x.kids.drop i = x.kids[i] :: x.kids.drop (i + 1) := List.drop_eq_getElem_cons hlt
                      have hfk : f x.kids[i] k = fitL m x.kids[i] (deep + 1) k := by rw [← hf]
                      have hsp := fitL_spec m x.kids[i] (deep + 1) k hk hk2 (g5 _ (List.getElem_mem hlt))
                      have hcp := Tr.cnt_pos x.kids[i]
                      rw [hd, goK, hfk]
                      simp [hlt, ro, mkF, mkF.mkL, okC, Tr.av_eq x.kids[i], putElem, upd]
                      rw [wrap_i64 (by omega) (by omega)]
                      refine vcall_box (n := 0) (treeFits_fx m x.kids[i] (deep + 1) k (g5 _ (List.getElem_mem hlt)) (by omega) (by omega) hk hk2) rfl (by rw [Tr.av_eq x.kids[i]]; rfl) (by simp [argOk]) (by simp [ptrs, dd]) (by simp) rfl (by simp) (by simp) ⟨rfl, rfl⟩ ?_
                      simp
                      cases c : (fitL m x.kids[i] (deep + 1) k).2
                      · simp
                        exact FinB_ret rfl rfl rfl rfl
                      · obtain ⟨sp1, sp2⟩ := hsp
                        rw [c] at sp1
                        have sp2 := sp2 c
                        have sp1 := (Bool.and_eq_true _ _ ▸ sp1.symm : _ ∧ _).2
                        simp only [decide_eq_true_eq] at sp1
                        simp
                        refine ⟨i + 1, (fitL m x.kids[i] (deep + 1) k).1, ⟨by omega, by omega, by omega, rfl⟩, by omega, Wk.both (by simp [wkL, wkV.same, ro]; rw [wrapN (by omega)]; exact wkV.same _) (by simp [wkB, ro])⟩
                    · simp [hlt]
                      obtain rfl : i = x.kids.length := by omega
                      simp [goK]
                      exact FinB_ret rfl rfl rfl rfl
                · have cd : 0 < x.kids.length := by omega
                  simp [cd, hk3, hk4, hk5, hk6, mkF, ro]
                  rw [fitL_no (by simp [preB, inR, hk3, hk4, hk5, hk6, hk0, hk1, c0', c1, cn, cs, ck, cd])]
                  exact FinB_ret rfl rfl rfl rfl
              · have ck : 0 < x.keys.length := by omega
                simp [ck, hk3, hk4, hk5, hk6, mkF, ro]
                rw [fitL_no (by simp [preB, inR, hk3, hk4, hk5, hk6, hk0, hk1, c0', c1, cn, cs, ck])]
                exact FinB_ret rfl rfl rfl rfl
            · simp [cs, hk3, hk4, hk5, hk6, mkF, ro]
              rw [fitL_no (by simp [preB, inR, hk3, hk4, hk5, hk6, hk0, hk1, c0', c1, cn, cs])]
              exact FinB_ret rfl rfl rfl rfl
          · simp [cn, hk3, hk4, hk5, hk6, mkF, ro]
            rw [fitL_no (by simp [preB, inR, hk3, hk4, hk5, hk6, hk0, hk1, c0', c1, cn])]
            exact FinB_ret rfl rfl rfl rfl
        · skip
          simp [hk, mkF, ro]
          refine vcall_go (within_fx hE x.n 0 999999999) (by simp) (by simp) (by simp) (by simp) ?_
          simp
          by_cases cw : inR x.n 0 999999999 = true
          · simp [cw, hk, mkF, ro]
            by_cases cs : x.s = by8 ""
            · simp [cs, hk, mkF, ro]
              by_cases ck : ¬ 0 < x.keys.length
              · simp [ck, hk, mkF, ro]
                by_cases cd : ¬ 0 < x.kids.length
                · simp [cd, hk, mkF, ro]
                  have hpre : preB x deep l = true := by (simp [inR] at cw; simp [preB, inR, hk, c0', c1, cw, cs, ck, cd])
                  refine X_loop (τ := Nat) (fun i => ⟨[(1, .lit (.int .i64 deep)), (2, .ptr 0 0 0), (3, .ptr 1003 0 0), (94, .sl ro 1 (x.keys.map fun x => .lit (.string x))), (95, .lit (.int .i64 x.keys.length)), (96, .lit (.int .i64 i))], [(0, [.lit (.int .i64 (l - 1))]), (1003, [.agg x.av])]⟩) (fun i => i ≤ x.keys.length ∧ ∀ k, k < i → newAt x.keys k = true) (fun i => x.keys.length - i) 0 (by simp) (Wk.both (by simp [wkL, wkV.same, hk, c0, c1, cw, cs, ck, cd, ro]) (by simp [wkB, Tr.av_eq x, hk, c0, c1, cw, cs, ck, cd, ro])) ?_
                  rintro i ⟨hi, hall⟩
                  simp [Tr.av_eq x]
                  by_cases hlt : i < x.keys.length
                  · simp [hlt, hi, ro, mkF, cutB]
                    refine vcall_go (contS_fx hE (x.keys.take i) x.keys[i] (by simp; omega)) (by simp [ro, List.map_take]) (by simp) (by simp) (by simp) ?_
                    simp
                    cases c : hasS (x.keys.take i) x.keys[i]
                    · simp
                      refine ⟨i + 1, ⟨by omega, fun k hk => ?_⟩, by omega, Wk.both (by simp [wkL, wkV.same, ro]; rw [wrapN (by omega)]; exact wkV.same _) (by simp [wkB, Tr.av_eq x, ro])⟩
                      rcases Nat.lt_succ_iff_lt_or_eq.1 hk with h | rfl
                      · exact hall k h
                      · rw [newAt_of hlt, c]; rfl
                    · simp
                      rw [fitL_dup hpre (rangeAll_false hlt (by rw [newAt_of hlt, c]; rfl))]
                      exact FinB_ret rfl rfl rfl rfl
                  · have hfit := fitL_go (m := m) hpre (rangeAll_true fun k hk => hall k (by omega))
                    rw [hfit]
                    generalize hf : (fun y l => fitL m y (deep + 1) l) = f
                    simp [hlt, ro, mkF]
                    refine X_loop (τ := Nat × Int) (fun p => ⟨[(1, .lit (.int .i64 deep)), (2, .ptr 0 0 0), (109, .sl ro 5 (x.kids.map fun x => .agg x.av)), (110, .lit (.int .i64 x.kids.length)), (111, .lit (.int .i64 p.1))], [(0, [.lit (.int .i64 p.2)])]⟩) (fun p => p.1 ≤ x.kids.length ∧ 0 ≤ p.2 ∧ p.2 ≤ 600 ∧ goK f x.kids (l - 1) = goK f (x.kids.drop p.1) p.2) (fun p => x.kids.length - p.1) (0, l - 1) (by simp; omega) (Wk.both (by simp [wkL, wkV.same, ro]) (by simp [wkB, ro])) ?_
                    rintro ⟨i, k⟩ ⟨hi, hk, hk2, he⟩
                    simp only at hi hk hk2 he
                    rw [he]
                    simp
                    by_cases hlt : i < x.kids.length
                    · have hd : x.kids.drop i = x.kids[i] :: x.kids.drop (i + 1) := List.drop_eq_getElem_cons hlt
                      have hfk : f x.kids[i] k = fitL m x.kids[i] (deep + 1) k := by rw [← hf]
                      have hsp := fitL_spec m x.kids[i] (deep + 1) k hk hk2 (g5 _ (List.getElem_mem hlt))
                      have hcp := Tr.cnt_pos x.kids[i]
                      rw [hd, goK, hfk]
                      simp [hlt, ro, mkF, mkF.mkL, okC, Tr.av_eq x.kids[i], putElem, upd]
                      rw [wrap_i64 (by omega) (by omega)]
                      refine vcall_box (n := 0) (treeFits_fx m x.kids[i] (deep + 1) k (g5 _ (List.getElem_mem hlt)) (by omega) (by omega) hk hk2) rfl (by rw [Tr.av_eq x.kids[i]]; rfl) (by simp [argOk]) (by simp [ptrs, dd]) (by simp) rfl (by simp) (by simp) ⟨rfl, rfl⟩ ?_
                      simp
                      cases c : (fitL m x.kids[i] (deep + 1) k).2
                      · simp
                        exact FinB_ret rfl rfl rfl rfl
                      · obtain ⟨sp1, sp2⟩ := hsp
                        rw [c] at sp1
                        have sp2 := sp2 c
                        have sp1 := (Bool.and_eq_true _ _ ▸ sp1.symm : _ ∧ _).2
                        simp only [decide_eq_true_eq] at sp1
                        simp
                        refine ⟨i + 1, (fitL m x.kids[i] (deep + 1) k).1, ⟨by omega, by omega, by omega, rfl⟩, by omega, Wk.both (by simp [wkL, wkV.same, ro]; rw [wrapN (by omega)]; exact wkV.same _) (by simp [wkB, ro])⟩
                    · simp [hlt]
                      obtain rfl : i = x.kids.length := by omega
                      simp [goK]
                      exact FinB_ret rfl rfl rfl rfl
                · have cd : 0 < x.kids.length := by omega
                  simp [cd, hk, mkF, ro]
                  rw [fitL_no (by simp [preB, inR, hk, c0', c1, cw, cs, ck, cd])]
                  exact FinB_ret rfl rfl rfl rfl
              · have ck : 0 < x.keys.length := by omega
                simp [ck, hk, mkF, ro]
                rw [fitL_no (by simp [preB, inR, hk, c0', c1, cw, cs, ck])]
                exact FinB_ret rfl rfl rfl rfl
            · simp [cs, hk, mkF, ro]
              rw [fitL_no (by simp [preB, inR, hk, c0', c1, cw, cs])]
              exact FinB_ret rfl rfl rfl rfl
          · have cw : inR x.n 0 999999999 = false := by simpa using cw
            simp [cw, hk, mkF, ro]
            rw [fitL_no (by rw [preB, cw]; simp)]
            exact FinB_ret rfl rfl rfl rfl
        · skip
          by_cases cn : x.n = 0
          · simp [cn, hk, mkF, ro]
            refine vcall_go (within_fx hE 0 0 999999999) (by simp) (by simp) (by simp) (by simp) ?_
            simp [inR, hk, mkF, ro]
            by_cases ck : ¬ 0 < x.keys.length
            · simp [ck, hk, mkF, ro]
              by_cases cd : ¬ 0 < x.kids.length
              · simp [cd, hk, mkF, ro]
                have hpre : preB x deep l = true := by simp [preB, inR, hk, c0', c1, cn, ck, cd]
                refine X_loop (τ := Nat) (fun i => ⟨[(1, .lit (.int .i64 deep)), (2, .ptr 0 0 0), (3, .ptr 1003 0 0), (94, .sl ro 1 (x.keys.map fun x => .lit (.string x))), (95, .lit (.int .i64 x.keys.length)), (96, .lit (.int .i64 i))], [(0, [.lit (.int .i64 (l - 1))]), (1003, [.agg x.av])]⟩) (fun i => i ≤ x.keys.length ∧ ∀ k, k < i → newAt x.keys k = true) (fun i => x.keys.length - i) 0 (by simp) (Wk.both (by simp [wkL, wkV.same, hk, c0, c1, cn, ck, cd, ro]) (by simp [wkB, Tr.av_eq x, hk, c0, c1, cn, ck, cd, ro])) ?_
                rintro i ⟨hi, hall⟩
                simp [Tr.av_eq x]
                by_cases hlt : i < x.keys.length
                · simp [hlt, hi, ro, mkF, cutB]
                  refine vcall_go (contS_fx hE (x.keys.take i) x.keys[i] (by simp; omega)) (by simp [ro, List.map_take]) (by simp) (by simp) (by simp) ?_
                  simp
                  cases c : hasS (x.keys.take i) x.keys[i]
                  · simp
                    refine ⟨i + 1, ⟨by omega, fun k hk => ?_⟩, by omega, Wk.both (by simp [wkL, wkV.same, ro]; rw [wrapN (by omega)]; exact wkV.same _) (by simp [wkB, Tr.av_eq x, ro])⟩
                    rcases Nat.lt_succ_iff_lt_or_eq.1 hk with h | rfl
                    · exact hall k h
                    · rw [newAt_of hlt, c]; rfl
                  · simp
                    rw [fitL_dup hpre (rangeAll_false hlt (by rw [newAt_of hlt, c]; rfl))]
                    exact FinB_ret rfl rfl rfl rfl
                · have hfit := fitL_go (m := m) hpre (rangeAll_true fun k hk => hall k (by omega))
                  rw [hfit]
                  generalize hf : (fun y l => fitL m y (deep + 1) l) = f
                  simp [hlt, ro, mkF]
                  refine X_loop (τ := Nat × Int) (fun p => ⟨[(1, .lit (.int .i64 deep)), (2, .ptr 0 0 0), (109, .sl ro 5 (x.kids.map fun x => .agg x.av)), (110, .lit (.int .i64 x.kids.length)), (111, .lit (.int .i64 p.1))], [(0, [.lit (.int .i64 p.2)])]⟩) (fun p => p.1 ≤ x.kids.length ∧ 0 ≤ p.2 ∧ p.2 ≤ 600 ∧ goK f x.kids (l - 1) = goK f (x.kids.drop p.1) p.2) (fun p => x.kids.length - p.1) (0, l - 1) (by simp; omega) (Wk.both (by simp [wkL, wkV.same, ro]) (by simp [wkB, ro])) ?_
                  rintro ⟨i, k⟩ ⟨hi, hk, hk2, he⟩
                  simp only at hi hk hk2 he
                  rw [he]
                  simp
                  by_cases hlt : i < x.kids.length
                  · have hd : x.kids.drop i = x.kids[i] :: x.kids.drop (i + 1) := List.drop_eq_getElem_cons hlt
                    have hfk : f x.kids[i] k = fitL m x.kids[i] (deep + 1) k := by rw [← hf]
                    have hsp := fitL_spec m x.kids[i] (deep + 1) k hk hk2 (g5 _ (List.getElem_mem hlt))
                    have hcp := Tr.cnt_pos x.kids[i]
                    rw [hd, goK, hfk]
                    simp [hlt, ro, mkF, mkF.mkL, okC, Tr.av_eq x.kids[i], putElem, upd]
                    rw [wrap_i64 (by omega) (by omega)]
                    refine vcall_box (n := 0) (treeFits_fx m x.kids[i] (deep + 1) k (g5 _ (List.getElem_mem hlt)) (by omega) (by omega) hk hk2) rfl (by rw [Tr.av_eq x.kids[i]]; rfl) (by simp [argOk]) (by simp [ptrs, dd]) (by simp) rfl (by simp) (by simp) ⟨rfl, rfl⟩ ?_
                    simp
                    cases c : (fitL m x.kids[i] (deep + 1) k).2
                    · simp
                      exact FinB_ret rfl rfl rfl rfl
                    · obtain ⟨sp1, sp2⟩ := hsp
                      rw [c] at sp1
                      have sp2 := sp2 c
                      have sp1 := (Bool.and_eq_true _ _ ▸ sp1.symm : _ ∧ _).2
                      simp only [decide_eq_true_eq] at sp1
                      simp
                      refine ⟨i + 1, (fitL m x.kids[i] (deep + 1) k).1, ⟨by omega, by omega, by omega, rfl⟩, by omega, Wk.both (by simp [wkL, wkV.same, ro]; rw [wrapN (by omega)]; exact wkV.same _) (by simp [wkB, ro])⟩
                  · simp [hlt]
                    obtain rfl : i = x.kids.length := by omega
                    simp [goK]
                    exact FinB_ret rfl rfl rfl rfl
              · have cd : 0 < x.kids.length := by omega
                simp [cd, hk, mkF, ro]
                rw [fitL_no (by simp [preB, inR, hk, c0', c1, cn, ck, cd])]
                exact FinB_ret rfl rfl rfl rfl
            · have ck : 0 < x.keys.length := by omega
              simp [ck, hk, mkF, ro]
              rw [fitL_no (by simp [preB, inR, hk, c0', c1, cn, ck])]
              exact FinB_ret rfl rfl rfl rfl
          · simp [cn, hk, mkF, ro]
            rw [fitL_no (by simp [preB, inR, hk, c0', c1, cn])]
            exact FinB_ret rfl rfl rfl rfl
        · skip
          by_cases cn : x.n = 0
          · simp [cn, hk, mkF, ro]
            refine vcall_go (within_fx hE 0 0 999999999) (by simp) (by simp) (by simp) (by simp) ?_
            simp [inR, hk, mkF, ro]
            by_cases cs : x.s = by8 ""
            · simp [cs, hk, mkF, ro]
              by_cases ck : ¬ 0 < x.keys.length
              · simp [ck, hk, mkF, ro]
                have hpre : preB x deep l = true := by simp [preB, inR, hk, c0', c1, cn, cs, ck]
                refine X_loop (τ := Nat) (fun i => ⟨[(1, .lit (.int .i64 deep)), (2, .ptr 0 0 0), (3, .ptr 1003 0 0), (94, .sl ro 1 (x.keys.map fun x => .lit (.string x))), (95, .lit (.int .i64 x.keys.length)), (96, .lit (.int .i64 i))], [(0, [.lit (.int .i64 (l - 1))]), (1003, [.agg x.av])]⟩) (fun i => i ≤ x.keys.length ∧ ∀ k, k < i → newAt x.keys k = true) (fun i => x.keys.length - i) 0 (by simp) (Wk.both (by simp [wkL, wkV.same, hk, c0, c1, cn, cs, ck, ro]) (by simp [wkB, Tr.av_eq x, hk, c0, c1, cn, cs, ck, ro])) ?_
                rintro i ⟨hi, hall⟩
                simp [Tr.av_eq x]
                by_cases hlt : i < x.keys.length
                · simp [hlt, hi, ro, mkF, cutB]
                  refine vcall_go (contS_fx hE (x.keys.take i) x.keys[i] (by simp; omega)) (by simp [ro, List.map_take]) (by simp) (by simp) (by simp) ?_
                  simp
                  cases c : hasS (x.keys.take i) x.keys[i]
                  · simp
                    refine ⟨i + 1, ⟨by omega, fun k hk => ?_⟩, by omega, Wk.both (by simp [wkL, wkV.same, ro]; rw [wrapN (by omega)]; exact wkV.same _) (by simp [wkB, Tr.av_eq x, ro])⟩
                    rcases Nat.lt_succ_iff_lt_or_eq.1 hk with h | rfl
                    · exact hall k h
                    · rw [newAt_of hlt, c]; rfl
                  · simp
                    rw [fitL_dup hpre (rangeAll_false hlt (by rw [newAt_of hlt, c]; rfl))]
                    exact FinB_ret rfl rfl rfl rfl
                · have hfit := fitL_go (m := m) hpre (rangeAll_true fun k hk => hall k (by omega))
                  rw [hfit]
                  generalize hf : (fun y l => fitL m y (deep + 1) l) = f
                  simp [hlt, ro, mkF]
                  refine X_loop (τ := Nat × Int) (fun p => ⟨[(1, .lit (.int .i64 deep)), (2, .ptr 0 0 0), (109, .sl ro 5 (x.kids.map fun x => .agg x.av)), (110, .lit (.int .i64 x.kids.length)), (111, .lit (.int .i64 p.1))], [(0, [.lit (.int .i64 p.2)])]⟩) (fun p => p.1 ≤ x.kids.length ∧ 0 ≤ p.2 ∧ p.2 ≤ 600 ∧ goK f x.kids (l - 1) = goK f (x.kids.drop p.1) p.2) (fun p => x.kids.length - p.1) (0, l - 1) (by simp; omega) (Wk.both (by simp [wkL, wkV.same, ro]) (by simp [wkB, ro])) ?_
                  rintro ⟨i, k⟩ ⟨hi, hk, hk2, he⟩
                  simp only at hi hk hk2 he
                  rw [he]
                  simp
                  by_cases hlt : i < x.kids.length
                  · have hd : x.kids.drop i = x.kids[i] :: x.kids.drop (i + 1) := List.drop_eq_getElem_cons hlt
                    have hfk : f x.kids[i] k = fitL m x.kids[i] (deep + 1) k := by rw [← hf]
                    have hsp := fitL_spec m x.kids[i] (deep + 1) k hk hk2 (g5 _ (List.getElem_mem hlt))
                    have hcp := Tr.cnt_pos x.kids[i]
                    rw [hd, goK, hfk]
                    simp [hlt, ro, mkF, mkF.mkL, okC, Tr.av_eq x.kids[i], putElem, upd]
                    rw [wrap_i64 (by omega) (by omega)]
                    refine vcall_box (n := 0) (treeFits_fx m x.kids[i] (deep + 1) k (g5 _ (List.getElem_mem hlt)) (by omega) (by omega) hk hk2) rfl (by rw [Tr.av_eq x.kids[i]]; rfl) (by simp [argOk]) (by simp [ptrs, dd]) (by simp) rfl (by simp) (by simp) ⟨rfl, rfl⟩ ?_
                    simp
                    cases c : (fitL m x.kids[i] (deep + 1) k).2
                    · simp
                      exact FinB_ret rfl rfl rfl rfl
                    · obtain ⟨sp1, sp2⟩ := hsp
                      rw [c] at sp1
                      have sp2 := sp2 c
                      have sp1 := (Bool.and_eq_true _ _ ▸ sp1.symm : _ ∧ _).2
                      simp only [decide_eq_true_eq] at sp1
                      simp
                      refine ⟨i + 1, (fitL m x.kids[i] (deep + 1) k).1, ⟨by omega, by omega, by omega, rfl⟩, by omega, Wk.both (by simp [wkL, wkV.same, ro]; rw [wrapN (by omega)]; exact wkV.same _) (by simp [wkB, ro])⟩
                  · simp [hlt]
                    obtain rfl : i = x.kids.length := by omega
                    simp [goK]
                    exact FinB_ret rfl rfl rfl rfl
              · have ck : 0 < x.keys.length := by omega
                simp [ck, hk, mkF, ro]
                rw [fitL_no (by simp [preB, inR, hk, c0', c1, cn, cs, ck])]
                exact FinB_ret rfl rfl rfl rfl
            · simp [cs, hk, mkF, ro]
              rw [fitL_no (by simp [preB, inR, hk, c0', c1, cn, cs])]
              exact FinB_ret rfl rfl rfl rfl
          · simp [cn, hk, mkF, ro]
            rw [fitL_no (by simp [preB, inR, hk, c0', c1, cn])]
            exact FinB_ret rfl rfl rfl rfl
        · skip
          by_cases cn : x.n = 0
          · simp [cn, hk, mkF, ro]
            refine vcall_go (within_fx hE 0 0 999999999) (by simp) (by simp) (by simp) (by simp) ?_
            simp [inR, hk, mkF, ro]
            by_cases cs : x.s = by8 ""
            · simp [cs, hk, mkF, ro]
              by_cases ce : x.keys.length = x.kids.length
              · simp [ce, hk, mkF, ro]
                have hpre : preB x deep l = true := by simp [preB, inR, hk, c0', c1, cn, cs, ce]
                refine X_loop (τ := Nat) (fun i => ⟨[(1, .lit (.int .i64 deep)), (2, .ptr 0 0 0), (3, .ptr 1003 0 0), (94, .sl ro 1 (x.keys.map fun x => .lit (.string x))), (95, .lit (.int .i64 x.keys.length)), (96, .lit (.int .i64 i))], [(0, [.lit (.int .i64 (l - 1))]), (1003, [.agg x.av])]⟩) (fun i => i ≤ x.keys.length ∧ ∀ k, k < i → newAt x.keys k = true) (fun i => x.keys.length - i) 0 (by simp) (Wk.both (by simp [wkL, wkV.same, hk, c0, c1, cn, cs, ce, ro]) (by simp [wkB, Tr.av_eq x, hk, c0, c1, cn, cs, ce, ro])) ?_
                rintro i ⟨hi, hall⟩
                simp [Tr.av_eq x]
                by_cases hlt : i < x.keys.length
                · simp [hlt, hi, ro, mkF, cutB]
                  refine vcall_go (contS_fx hE (x.keys.take i) x.keys[i] (by simp; omega)) (by simp [ro, List.map_take]) (by simp) (by simp) (by simp) ?_
                  simp
                  cases c : hasS (x.keys.take i) x.keys[i]
                  · simp
                    refine ⟨i + 1, ⟨by omega, fun k hk => ?_⟩, by omega, Wk.both (by simp [wkL, wkV.same, ro]; rw [wrapN (by omega)]; exact wkV.same _) (by simp [wkB, Tr.av_eq x, ro])⟩
                    rcases Nat.lt_succ_iff_lt_or_eq.1 hk with h | rfl
                    · exact hall k h
                    · rw [newAt_of hlt, c]; rfl
                  · simp
                    rw [fitL_dup hpre (rangeAll_false hlt (by rw [newAt_of hlt, c]; rfl))]
                    exact FinB_ret rfl rfl rfl rfl
                · have hfit := fitL_go (m := m) hpre (rangeAll_true fun k hk => hall k (by omega))
                  rw [hfit]
                  generalize hf : (fun y l => fitL m y (deep + 1) l) = f
                  simp [hlt, ro, mkF]
                  refine X_loop (τ := Nat × Int) (fun p => ⟨[(1, .lit (.int .i64 deep)), (2, .ptr 0 0 0), (109, .sl ro 5 (x.kids.map fun x => .agg x.av)), (110, .lit (.int .i64 x.kids.length)), (111, .lit (.int .i64 p.1))], [(0, [.lit (.int .i64 p.2)])]⟩) (fun p => p.1 ≤ x.kids.length ∧ 0 ≤ p.2 ∧ p.2 ≤ 600 ∧ goK f x.kids (l - 1) = goK f (x.kids.drop p.1) p.2) (fun p => x.kids.length - p.1) (0, l - 1) (by simp; omega) (Wk.both (by simp [wkL, wkV.same, ro]) (by simp [wkB, ro])) ?_
                  rintro ⟨i, k⟩ ⟨hi, hk, hk2, he⟩
                  simp only at hi hk hk2 he
                  rw [he]
                  simp
                  by_cases hlt : i < x.kids.length
                  · have hd : x.kids.drop i = x.kids[i] :: x.kids.drop (i + 1) := List.drop_eq_getElem_cons hlt
                    have hfk : f x.kids[i] k = fitL m x.kids[i] (deep + 1) k := by rw [← hf]
                    have hsp := fitL_spec m x.kids[i] (deep + 1) k hk hk2 (g5 _ (List.getElem_mem hlt))
                    have hcp := Tr.cnt_pos x.kids[i]
                    rw [hd, goK, hfk]
                    simp [hlt, ro, mkF, mkF.mkL, okC, Tr.av_eq x.kids[i], putElem, upd]
                    rw [wrap_i64 (by omega) (by omega)]
                    refine vcall_box (n := 0) (treeFits_fx m x.kids[i] (deep + 1) k (g5 _ (List.getElem_mem hlt)) (by omega) (by omega) hk hk2) rfl (by rw [Tr.av_eq x.kids[i]]; rfl) (by simp [argOk]) (by simp [ptrs, dd]) (by simp) rfl (by simp) (by simp) ⟨rfl, rfl⟩ ?_
                    simp
                    cases c : (fitL m x.kids[i] (deep + 1) k).2
                    · simp
                      exact FinB_ret rfl rfl rfl rfl
                    · obtain ⟨sp1, sp2⟩ := hsp
                      rw [c] at sp1
                      have sp2 := sp2 c
                      have sp1 := (Bool.and_eq_true _ _ ▸ sp1.symm : _ ∧ _).2
                      simp only [decide_eq_true_eq] at sp1
                      simp
                      refine ⟨i + 1, (fitL m x.kids[i] (deep + 1) k).1, ⟨by omega, by omega, by omega, rfl⟩, by omega, Wk.both (by simp [wkL, wkV.same, ro]; rw [wrapN (by omega)]; exact wkV.same _) (by simp [wkB, ro])⟩
                  · simp [hlt]
                    obtain rfl : i = x.kids.length := by omega
                    simp [goK]
                    exact FinB_ret rfl rfl rfl rfl
              · have ce' : ¬ ((x.keys.length : Int) = x.kids.length) := by omega
                simp [ce, ce', hk, mkF, ro]
                rw [fitL_no (by simp [preB, inR, hk, c0', c1, cn, cs, ce])]
                exact FinB_ret rfl rfl rfl rfl
            · simp [cs, hk, mkF, ro]
              rw [fitL_no (by simp [preB, inR, hk, c0', c1, cn, cs])]
              exact FinB_ret rfl rfl rfl rfl
          · simp [cn, hk, mkF, ro]
            rw [fitL_no (by simp [preB, inR, hk, c0', c1, cn])]
            exact FinB_ret rfl rfl rfl rfl
end
end Go.Proofs.Ytpopccnnjpdmlaa.Vm
