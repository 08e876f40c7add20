/- Graphs: packs, sums, keys; what a right graph is: both sides. -/
import Derived.Test.YtgegcfhifojjiaaDoorVy
import Derived.Test.YtgegcfhifojjiaaDoorGd
namespace Go.Proofs.YtgegcfhifojjiaaDoor.Vm
open Go Go.RowKit
set_option linter.unusedVariables false
set_option linter.unusedSimpArgs false
def v42 : VC := .seq (.reg false [⟨some 1, .box 6 (.t 0), none⟩, ⟨some 2, .as (.c (.lit (.bool false))), none⟩] [2]) (.seq (.seq (.reg false [⟨some 3, .as (.c (.lit (.int .i64 0))), none⟩] []) (.block 0 (.loop (.seq (.seq (.reg false [⟨some 4, .mv (.t 3), none⟩, ⟨some 5, .fa 3 (.t 1), none⟩, ⟨some 6, .ld false 1 (.t 5), none⟩, ⟨some 7, .len false (.t 6), none⟩, ⟨some 8, .bin .lss 0 (.t 4) (.t 7), none⟩] [4, 5, 6, 7]) (.cond (.t 8) (.skip) (.exit 0))) (.seq (.block 1 (.seq (.reg true [⟨some 11, .fa 3 (.t 1), none⟩, ⟨some 12, .ld false 1 (.t 11), none⟩, ⟨some 13, .mv (.t 3), none⟩, ⟨some 14, .ia 2 (.t 12) (.t 13), none⟩, ⟨some 15, .fa 0 (.t 14), none⟩, ⟨some 16, .ld false 1 (.t 15), none⟩, ⟨some 17, .call true 43 [(.t 16)], none⟩, ⟨some 18, .fa 3 (.t 1), none⟩, ⟨some 19, .ld false 1 (.t 18), none⟩, ⟨some 20, .mv (.t 3), none⟩, ⟨some 21, .ia 2 (.t 19) (.t 20), none⟩, ⟨some 22, .fa 1 (.t 21), none⟩, ⟨some 23, .ld false 1 (.t 22), none⟩, ⟨some 24, .len true (.t 23), none⟩, ⟨some 25, .bin .neq 0 (.t 17) (.t 24), none⟩, ⟨some 26, .mv (.t 25), none⟩, ⟨some 27, .mv (.t 3), (some (26, false))⟩, ⟨some 28, .bin .gtr 0 (.t 27) (.c (.lit (.int .i64 0))), (some (26, false))⟩, ⟨some 29, .mv (.t 28), (some (26, false))⟩, ⟨some 30, .fa 3 (.t 1), (some (29, true))⟩, ⟨some 31, .ld false 1 (.t 30), (some (29, true))⟩, ⟨some 32, .mv (.t 3), (some (29, true))⟩, ⟨some 33, .bin .sub 0 (.t 32) (.c (.lit (.int .i64 1))), (some (29, true))⟩, ⟨some 34, .ia 2 (.t 31) (.t 33), (some (29, true))⟩, ⟨some 35, .fa 0 (.t 34), (some (29, true))⟩, ⟨some 36, .ld false 1 (.t 35), (some (29, true))⟩, ⟨some 37, .fa 3 (.t 1), (some (29, true))⟩, ⟨some 38, .ld false 1 (.t 37), (some (29, true))⟩, ⟨some 39, .mv (.t 3), (some (29, true))⟩, ⟨some 40, .ia 2 (.t 38) (.t 39), (some (29, true))⟩, ⟨some 41, .fa 0 (.t 40), (some (29, true))⟩, ⟨some 42, .ld false 1 (.t 41), (some (29, true))⟩, ⟨some 43, .bin .geq 0 (.t 36) (.t 42), (some (29, true))⟩, ⟨some 44, .pick (.t 29) (.t 43) (.c (.lit (.bool false))), (some (26, false))⟩, ⟨some 45, .pick (.t 26) (.c (.lit (.bool true))) (.t 44), none⟩] [11, 12, 13, 14, 15, 16, 17, 18, 19, 20, 21, 22, 23, 24, 25, 26, 27, 28, 29, 30, 31, 32, 33, 34, 35, 36, 37, 38, 39, 40, 41, 42, 43, 44]) (.cond (.t 45) (.seq (.reg false [⟨some 2, .as (.c (.lit (.bool false))), none⟩] []) (.ret)) (.skip)))) (.reg false [⟨some 9, .mv (.t 3), none⟩, ⟨some 10, .bin .add 0 (.t 9) (.c (.lit (.int .i64 1))), none⟩, ⟨some 3, .as (.t 10), none⟩] [9, 10])))))) (.seq (.reg false [⟨some 46, .fa 0 (.t 1), none⟩, ⟨some 47, .ld false 1 (.t 46), none⟩, ⟨some 48, .call false 64 [(.t 47)], none⟩, ⟨some 49, .mv (.t 48), none⟩, ⟨some 50, .fa 1 (.t 1), (some (49, true))⟩, ⟨some 51, .ld false 1 (.t 50), (some (49, true))⟩, ⟨some 52, .call false 65 [(.t 51)], (some (49, true))⟩, ⟨some 53, .len false (.t 52), (some (49, true))⟩, ⟨some 54, .bin .eql 0 (.t 53) (.c (.lit (.int .i64 1))), (some (49, true))⟩, ⟨some 55, .pick (.t 49) (.t 54) (.c (.lit (.bool false))), none⟩, ⟨some 56, .mv (.t 55), none⟩, ⟨some 57, .fa 2 (.t 1), (some (56, true))⟩, ⟨some 58, .ld false 1 (.t 57), (some (56, true))⟩, ⟨some 59, .call false 66 [(.t 58)], (some (56, true))⟩, ⟨some 60, .pick (.t 56) (.t 59) (.c (.lit (.bool false))), none⟩, ⟨some 2, .as (.t 60), none⟩] [46, 47, 48, 49, 50, 51, 52, 53, 54, 55, 56, 57, 58, 59, 60]) (.ret)))
theorem is42 : Is Go.Proofs.Tryd.prog 42 61 v42 [.t 2] := ⟨Go.Proofs.Tryd.f42, dl [(0, [2]), (2, [4, 5, 6, 7]), (4, [11, 12, 13, 14, 15, 16, 17, 18, 19, 20, 21, 22, 23, 24, 25, 26, 27, 28, 29, 30, 31, 32, 33, 34, 35, 36, 37, 38, 39, 40, 41, 42, 43, 44]), (3, [9, 10]), (6, [46, 47, 48, 49, 50, 51, 52, 53, 54, 55, 56, 57, 58, 59, 60])], Go.Proofs.Tryd.func42, by kernel_rfl, by kernel_rfl, by kernel_rfl, by kernel_rfl⟩
def v43 : VC := .seq (.reg false [⟨some 2, .as (.c (.lit (.int .i64 0))), none⟩] [2]) (.seq (.seq (.reg false [⟨some 3, .mv (.t 0), none⟩] []) (.block 0 (.seq (.reg false [⟨some 5, .bin .eql 0 (.t 3) (.c (.lit (.string (by8 "sha1")))), none⟩, ⟨some 4, .as (.t 5), none⟩] [5]) (.cond (.t 4) (.seq (.reg false [⟨some 2, .as (.c (.lit (.int .i64 20))), none⟩] []) (.ret)) (.seq (.seq (.reg false [⟨some 7, .bin .eql 0 (.t 3) (.c (.lit (.string (by8 "sha256")))), none⟩, ⟨some 6, .as (.t 7), none⟩] [7]) (.cond (.t 6) (.skip) (.reg false [⟨some 8, .bin .eql 0 (.t 3) (.c (.lit (.string (by8 "h1")))), none⟩, ⟨some 6, .as (.t 8), none⟩] [8]))) (.cond (.t 6) (.seq (.reg false [⟨some 2, .as (.c (.lit (.int .i64 32))), none⟩] []) (.ret)) (.seq (.reg false [⟨some 10, .bin .eql 0 (.t 3) (.c (.lit (.string (by8 "sha512")))), none⟩, ⟨some 9, .as (.t 10), none⟩] [10]) (.cond (.t 9) (.seq (.reg false [⟨some 2, .as (.c (.lit (.int .i64 64))), none⟩] []) (.ret)) (.skip))))))))) (.seq (.reg false [⟨some 2, .as (.c (.lit (.int .i64 (-1)))), none⟩] []) (.ret)))
theorem is43 : Is Go.Proofs.Tryd.prog 43 11 v43 [.t 2] := ⟨Go.Proofs.Tryd.f43, dl [(0, [2]), (2, [5]), (4, [7]), (5, [8]), (7, [10])], Go.Proofs.Tryd.func43, by kernel_rfl, by kernel_rfl, by kernel_rfl, by kernel_rfl⟩
def v66 : VC := .seq (.reg false [⟨some 2, .as (.c (.lit (.bool false))), none⟩] [2]) (.seq (.seq (.reg false [⟨some 3, .as (.c (.lit (.int .i64 0))), none⟩] []) (.block 0 (.loop (.seq (.seq (.reg false [⟨some 4, .mv (.t 3), none⟩, ⟨some 5, .mv (.t 0), none⟩, ⟨some 6, .len true (.t 5), none⟩, ⟨some 7, .bin .lss 0 (.t 4) (.t 6), none⟩] [4, 5, 6]) (.cond (.t 7) (.skip) (.exit 0))) (.seq (.block 1 (.seq (.reg false [⟨some 10, .mv (.t 0), none⟩, ⟨some 11, .mv (.t 3), none⟩, ⟨some 12, .idx (.t 10) (.t 11), none⟩, ⟨some 13, .cvI .i64 (.t 12), none⟩, ⟨some 14, .call false 79 [(.t 13), (.c (.lit (.int .i64 33))), (.c (.lit (.int .i64 126)))], none⟩, ⟨some 15, .un .not (.t 14), none⟩, ⟨some 16, .mv (.t 15), none⟩, ⟨some 17, .mv (.t 0), (some (16, false))⟩, ⟨some 18, .mv (.t 3), (some (16, false))⟩, ⟨some 19, .idx (.t 17) (.t 18), (some (16, false))⟩, ⟨some 20, .bin .eql 0 (.t 19) (.c (.lit (.int .u8 34))), (some (16, false))⟩, ⟨some 21, .pick (.t 16) (.c (.lit (.bool true))) (.t 20), none⟩, ⟨some 22, .mv (.t 21), none⟩, ⟨some 23, .mv (.t 0), (some (22, false))⟩, ⟨some 24, .mv (.t 3), (some (22, false))⟩, ⟨some 25, .idx (.t 23) (.t 24), (some (22, false))⟩, ⟨some 26, .bin .eql 0 (.t 25) (.c (.lit (.int .u8 39))), (some (22, false))⟩, ⟨some 27, .pick (.t 22) (.c (.lit (.bool true))) (.t 26), none⟩, ⟨some 28, .mv (.t 27), none⟩, ⟨some 29, .mv (.t 0), (some (28, false))⟩, ⟨some 30, .mv (.t 3), (some (28, false))⟩, ⟨some 31, .idx (.t 29) (.t 30), (some (28, false))⟩, ⟨some 32, .bin .eql 0 (.t 31) (.c (.lit (.int .u8 44))), (some (28, false))⟩, ⟨some 33, .pick (.t 28) (.c (.lit (.bool true))) (.t 32), none⟩, ⟨some 34, .mv (.t 33), none⟩, ⟨some 35, .mv (.t 0), (some (34, false))⟩, ⟨some 36, .mv (.t 3), (some (34, false))⟩, ⟨some 37, .idx (.t 35) (.t 36), (some (34, false))⟩, ⟨some 38, .bin .eql 0 (.t 37) (.c (.lit (.int .u8 92))), (some (34, false))⟩, ⟨some 39, .pick (.t 34) (.c (.lit (.bool true))) (.t 38), none⟩] [10, 11, 12, 13, 14, 15, 16, 17, 18, 19, 20, 21, 22, 23, 24, 25, 26, 27, 28, 29, 30, 31, 32, 33, 34, 35, 36, 37, 38]) (.cond (.t 39) (.seq (.reg false [⟨some 2, .as (.c (.lit (.bool false))), none⟩] []) (.ret)) (.skip)))) (.reg false [⟨some 8, .mv (.t 3), none⟩, ⟨some 9, .bin .add 0 (.t 8) (.c (.lit (.int .i64 1))), none⟩, ⟨some 3, .as (.t 9), none⟩] [8, 9])))))) (.seq (.reg false [⟨some 40, .mv (.t 0), none⟩, ⟨some 41, .len true (.t 40), none⟩, ⟨some 42, .bin .leq 0 (.t 41) (.c (.lit (.int .i64 100))), none⟩, ⟨some 43, .mv (.t 42), none⟩, ⟨some 44, .mv (.t 0), (some (43, true))⟩, ⟨some 45, .len true (.t 44), (some (43, true))⟩, ⟨some 46, .bin .lss 0 (.t 45) (.c (.lit (.int .i64 20000))), (some (43, true))⟩, ⟨some 47, .pick (.t 43) (.t 46) (.c (.lit (.bool false))), none⟩, ⟨some 2, .as (.t 47), none⟩] [40, 41, 42, 43, 44, 45, 46, 47]) (.ret)))
theorem is66 : Is Go.Proofs.Tryd.prog 66 48 v66 [.t 2] := ⟨Go.Proofs.Tryd.f66, dl [(0, [2]), (2, [4, 5, 6]), (4, [10, 11, 12, 13, 14, 15, 16, 17, 18, 19, 20, 21, 22, 23, 24, 25, 26, 27, 28, 29, 30, 31, 32, 33, 34, 35, 36, 37, 38]), (3, [8, 9]), (6, [40, 41, 42, 43, 44, 45, 46, 47])], Go.Proofs.Tryd.func66, by kernel_rfl, by kernel_rfl, by kernel_rfl, by kernel_rfl⟩
def v49 : VC := .seq (.reg false [⟨some 2, .as (.c (.lit (.int .i64 0))), none⟩] [2]) (.seq (.seq (.reg false [⟨some 3, .mv (.t 0), none⟩] []) (.block 0 (.seq (.reg false [⟨some 5, .bin .eql 0 (.t 3) (.c (.lit (.string (by8 "sha1")))), none⟩, ⟨some 4, .as (.t 5), none⟩] [5]) (.cond (.t 4) (.seq (.reg false [⟨some 2, .as (.c (.lit (.int .i64 20))), none⟩] []) (.ret)) (.seq (.seq (.reg false [⟨some 7, .bin .eql 0 (.t 3) (.c (.lit (.string (by8 "sha256")))), none⟩, ⟨some 6, .as (.t 7), none⟩] [7]) (.cond (.t 6) (.skip) (.reg false [⟨some 8, .bin .eql 0 (.t 3) (.c (.lit (.string (by8 "h1")))), none⟩, ⟨some 6, .as (.t 8), none⟩] [8]))) (.cond (.t 6) (.seq (.reg false [⟨some 2, .as (.c (.lit (.int .i64 32))), none⟩] []) (.ret)) (.seq (.reg false [⟨some 10, .bin .eql 0 (.t 3) (.c (.lit (.string (by8 "sha512")))), none⟩, ⟨some 9, .as (.t 10), none⟩] [10]) (.cond (.t 9) (.seq (.reg false [⟨some 2, .as (.c (.lit (.int .i64 64))), none⟩] []) (.ret)) (.skip))))))))) (.seq (.reg false [⟨some 2, .as (.c (.lit (.int .i64 (-1)))), none⟩] []) (.ret)))
theorem is49 : Is Go.Proofs.Tryd.prog 49 11 v49 [.t 2] := ⟨Go.Proofs.Tryd.f49, dl [(0, [2]), (2, [5]), (4, [7]), (5, [8]), (7, [10])], Go.Proofs.Tryd.func49, by kernel_rfl, by kernel_rfl, by kernel_rfl, by kernel_rfl⟩
def v23 : VC := .seq (.reg false [⟨some 2, .as (.c (.lit (.bool false))), none⟩] [2]) (.seq (.seq (.reg false [⟨some 5, .mv (.t 0), none⟩, ⟨some 6, .len false (.t 5), none⟩, ⟨some 7, .mv (.c (.lit (.int .i64 0))), none⟩] []) (.block 0 (.loop (.seq (.reg false [⟨some 8, .bin .lss 0 (.t 7) (.t 6), none⟩] []) (.seq (.cond (.t 8) (.skip) (.exit 0)) (.seq (.block 1 (.seq (.reg false [⟨some 9, .mv (.t 7), none⟩, ⟨some 10, .ia 2 (.t 5) (.t 7), none⟩, ⟨some 11, .ld true 2 (.t 10), none⟩, ⟨some 4, .alloc (.agg [(.lit (.string (by8 ""))), (.lit (.string (by8 "")))]), none⟩, ⟨some 3, .as (.t 9), none⟩, ⟨none, .st 2 (.t 4) (.t 11), none⟩] [9, 10, 11]) (.seq (.reg true [⟨some 12, .fa 1 (.t 4), none⟩, ⟨some 13, .ld false 1 (.t 12), none⟩, ⟨some 14, .len true (.t 13), none⟩, ⟨some 15, .fa 0 (.t 4), none⟩, ⟨some 16, .ld false 1 (.t 15), none⟩, ⟨some 17, .call true 49 [(.t 16)], none⟩, ⟨some 18, .bin .neq 0 (.t 14) (.t 17), none⟩, ⟨some 19, .mv (.t 18), none⟩, ⟨some 20, .mv (.t 3), (some (19, false))⟩, ⟨some 21, .bin .gtr 0 (.t 20) (.c (.lit (.int .i64 0))), (some (19, false))⟩, ⟨some 22, .mv (.t 21), (some (19, false))⟩, ⟨some 23, .fa 0 (.t 4), (some (22, true))⟩, ⟨some 24, .ld false 1 (.t 23), (some (22, true))⟩, ⟨some 25, .mv (.t 0), (some (22, true))⟩, ⟨some 26, .mv (.t 3), (some (22, true))⟩, ⟨some 27, .bin .sub 0 (.t 26) (.c (.lit (.int .i64 1))), (some (22, true))⟩, ⟨some 28, .ia 2 (.t 25) (.t 27), (some (22, true))⟩, ⟨some 29, .fa 0 (.t 28), (some (22, true))⟩, ⟨some 30, .ld false 1 (.t 29), (some (22, true))⟩, ⟨some 31, .bin .leq 0 (.t 24) (.t 30), (some (22, true))⟩, ⟨some 32, .pick (.t 22) (.t 31) (.c (.lit (.bool false))), (some (19, false))⟩, ⟨some 33, .pick (.t 19) (.c (.lit (.bool true))) (.t 32), none⟩] [12, 13, 14, 15, 16, 17, 18, 19, 20, 21, 22, 23, 24, 25, 26, 27, 28, 29, 30, 31, 32]) (.cond (.t 33) (.seq (.reg false [⟨some 2, .as (.c (.lit (.bool false))), none⟩] []) (.ret)) (.skip))))) (.reg false [⟨some 34, .bin .add 0 (.t 7) (.c (.lit (.int .i64 1))), none⟩, ⟨some 7, .mv (.t 34), none⟩] [34]))))))) (.seq (.reg false [⟨some 2, .as (.c (.lit (.bool true))), none⟩] []) (.ret)))
theorem is23 : Is Go.Proofs.Tryd.prog 23 35 v23 [.t 2] := ⟨Go.Proofs.Tryd.f23, dl [(0, [2]), (3, [9, 10, 11]), (4, [12, 13, 14, 15, 16, 17, 18, 19, 20, 21, 22, 23, 24, 25, 26, 27, 28, 29, 30, 31, 32]), (6, [34])], Go.Proofs.Tryd.func23, by kernel_rfl, by kernel_rfl, by kernel_rfl, by kernel_rfl⟩
/-- all places below a number -/
def allN (n : Nat) (p : Nat → Bool) : Bool := (List.range n).all p
theorem allN_false {n i : Nat} {p : Nat → Bool} (h : i < n) (hp : p i = false) : allN n p = false := by
  unfold allN; rw [List.all_eq_false]; exact ⟨i, List.mem_range.2 h, by simp [hp]⟩
theorem allN_true {n : Nat} {p : Nat → Bool} (h : ∀ i, i < n → p i = true) : allN n p = true := by
  unfold allN; rw [List.all_eq_true]; exact fun i hi => h i (List.mem_range.1 hi)
theorem allN_iff {n : Nat} {p : Nat → Bool} : allN n p = true ↔ ∀ i, i < n → p i = true := by
  unfold allN; rw [List.all_eq_true]; exact ⟨fun h i hi => h i (List.mem_range.2 hi), fun h i hi => h i (List.mem_range.1 hi)⟩
/-- as far as a place -/
def upTo (p : Nat → Bool) (i : Nat) : Prop := ∀ k, k < i → p k = true
theorem upTo.zero (p : Nat → Bool) : upTo p 0 := fun k h => by omega
theorem upTo.next {p : Nat → Bool} {i : Nat} (h : upTo p i) (h2 : p i = true) : upTo p (i + 1) := fun k hk => by
  rcases Nat.lt_succ_iff_lt_or_eq.1 hk with h3 | rfl
  · exact h k h3
  · exact h2
theorem upTo.all {p : Nat → Bool} {n : Nat} (h : upTo p n) : allN n p = true := allN_true h
/-- the order of texts -/
theorem less_irr : ∀ (a : List UInt8), Op.bytesLess a a = false
  | [] => rfl
  | x :: a => by simp [Op.bytesLess, less_irr a]
theorem less_tri : ∀ (a b : List UInt8), (Op.bytesLess a b = true ∧ Op.bytesLess b a = false ∧ a ≠ b) ∨ (a = b) ∨ (Op.bytesLess b a = true ∧ Op.bytesLess a b = false ∧ a ≠ b)
  | [], [] => .inr (.inl rfl)
  | [], y :: b => .inl ⟨rfl, rfl, by simp⟩
  | x :: a, [] => .inr (.inr ⟨rfl, rfl, by simp⟩)
  | x :: a, y :: b => by
    rcases Nat.lt_trichotomy x.toNat y.toNat with h | h | h
    · have h1 : x < y := UInt8.lt_iff_toNat_lt.2 h
      have h2 : ¬ y < x := fun e => by have := UInt8.lt_iff_toNat_lt.1 e; omega
      have h3 : x ≠ y := fun e => by rw [e] at h; omega
      have h4 : (y == x) = false := by simpa using fun e => h3 e.symm
      exact .inl ⟨by simp [Op.bytesLess, h1], by simp [Op.bytesLess, h2, h4], by simp [h3]⟩
    · obtain rfl := UInt8.toNat_inj.1 h
      have h2 : ¬ x < x := fun e => by have := UInt8.lt_iff_toNat_lt.1 e; omega
      rcases less_tri a b with ⟨k1, k2, k3⟩ | rfl | ⟨k1, k2, k3⟩
      · exact .inl ⟨by simp [Op.bytesLess, h2, k1], by simp [Op.bytesLess, h2, k2], by simp [k3]⟩
      · exact .inr (.inl rfl)
      · exact .inr (.inr ⟨by simp [Op.bytesLess, h2, k1], by simp [Op.bytesLess, h2, k2], by simp [k3]⟩)
    · have h1 : y < x := UInt8.lt_iff_toNat_lt.2 h
      have h2 : ¬ x < y := fun e => by have := UInt8.lt_iff_toNat_lt.1 e; omega
      have h3 : x ≠ y := fun e => by rw [e] at h; omega
      have h4 : (x == y) = false := by simpa using h3
      exact .inr (.inr ⟨by simp [Op.bytesLess, h1], by simp [Op.bytesLess, h2, h4], by simp [h3]⟩)
theorem toList_eq (a : ByteArray) : a.toList = a.data.toList := Lib.toList_data a
theorem slt_tri (a b : ByteArray) : (slt a b = true ∧ slt b a = false ∧ a ≠ b) ∨ (a = b ∧ slt a b = false ∧ slt b a = false) ∨ (slt b a = true ∧ slt a b = false ∧ a ≠ b) := by
  unfold slt
  rw [toList_eq, toList_eq]
  rcases less_tri a.data.toList b.data.toList with ⟨h1, h2, h3⟩ | h | ⟨h1, h2, h3⟩
  · exact .inl ⟨h1, h2, fun e => h3 (by rw [e])⟩
  · obtain rfl := ba_ext h
    exact .inr (.inl ⟨rfl, less_irr _, less_irr _⟩)
  · exact .inr (.inr ⟨h1, h2, fun e => h3 (by rw [e])⟩)
theorem geq_slt (a b : ByteArray) : (slt b a || decide (b = a)) = !slt a b := by
  rcases slt_tri a b with ⟨h1, h2, h3⟩ | ⟨h1, h2, h3⟩ | ⟨h1, h2, h3⟩
  · have h4 : ¬ b = a := fun e => h3 e.symm
    simp [h1, h2, h4]
  · subst h1
    simp [h2]
  · simp [h1, h2]
/-- plain bytes -/
def plainB (u : UInt8) : Bool := inR u.toNat 33 126 && !isB u 34 && !isB u 39 && !isB u 44 && !isB u 92
def plainOk (s : ByteArray) : Bool := decide ((s.size : Int) ≤ 100) && allB plainB s
/-- how long a sum is -/
def sumLen (a : ByteArray) : Int := if a = by8 "sha1" then 20 else if a = by8 "sha256" then 32 else if a = by8 "h1" then 32 else if a = by8 "sha512" then 64 else -1
def sm0 : Sm := ⟨by8 "", by8 ""⟩
def sumAt (l : List Sm) (i : Nat) : Bool := decide (((l.getD i sm0).bytes.size : Int) = sumLen (l.getD i sm0).alg) && (decide (i = 0) || slt (l.getD (i - 1) sm0).alg (l.getD i sm0).alg)
def sumsOk (l : List Sm) : Bool := allN l.length (sumAt l)
noncomputable def packOk (p : Pk) : Bool := nameOk p.name && (exactO p.version).isSome && plainOk p.source && sumsOk p.sums
def keyOf (p : Pk) : ByteArray := p.name ++ by8 "@" ++ p.version
def findG (l : List Pk) (key : ByteArray) : Int := fidx (fun p => decide (keyOf p = key)) l
def keyAt (l : List Pk) (ks : List ByteArray) (i : Nat) : Bool := decide (0 ≤ findG l (ks.getD i (by8 ""))) && (decide (i = 0) || slt (ks.getD (i - 1) (by8 "")) (ks.getD i (by8 "")))
def keysOk (l : List Pk) (ks : List ByteArray) : Bool := allN ks.length (keyAt l ks)
def pk0 : Pk := ⟨by8 "", by8 "", by8 "", [], false, []⟩
noncomputable def packAt (l : List Pk) (i : Nat) : Bool := packOk (l.getD i pk0) && (decide (i = 0) || slt (keyOf (l.getD (i - 1) pk0)) (keyOf (l.getD i pk0))) && keysOk l (l.getD i pk0).needs
noncomputable def graphOk (g : Gr) : Bool := allN g.packs.length (packAt g.packs) && decide ((g.packs.length : Int) ≤ 40) && keysOk g.packs g.top
theorem getD_lt {α : Type} {l : List α} {i : Nat} {d : α} (h : i < l.length) : l.getD i d = l[i] := by simp [List.getD, h]
theorem exact_len (s : ByteArray) : ∃ ys : List AV, exactRes s = .sl ⟨.no, true⟩ 2 ys ∧ ys.length = if (exactO s).isSome = true then 1 else 0 := by
  unfold exactRes
  cases exactO s with
  | none => exact ⟨_, rfl, rfl⟩
  | some p => exact ⟨_, rfl, rfl⟩
theorem keyOf_size {p : Pk} (h : p.small) : (keyOf p).size ≤ 2097153 := by
  have e : (by8 "@").size = 1 := by decide +kernel
  obtain ⟨h1, h2, _⟩ := h
  unfold keyOf
  rw [ByteArray.size_append, ByteArray.size_append, e]; omega
section
variable {E : Env} (hE : E.P = Go.Proofs.Tryd.prog) (hZ : ∀ w, E.K w → KZ w)
include hE
theorem specLong_fx (a : ByteArray) : Fx E 43 [] [.lit (.string a)] [] (.lit (.int .i64 (sumLen a))) := by
  refine (is43.to hE).fx [] (by simp) rfl rfl ?_
  simp [v43]
  by_cases c1 : a = by8 "sha1"
  · simp [c1]
    exact Fin_ret rfl (by rw [sumLen, if_pos rfl]; rfl)
  simp [c1]
  by_cases c2 : a = by8 "sha256"
  · simp [c2]
    exact Fin_ret rfl (by rw [sumLen, if_neg (c2 ▸ c1), if_pos rfl]; rfl)
  simp [c2]
  by_cases c3 : a = by8 "h1"
  · simp [c3]
    exact Fin_ret rfl (by rw [sumLen, if_neg (c3 ▸ c1), if_neg (c3 ▸ c2), if_pos rfl]; rfl)
  simp [c3]
  by_cases c4 : a = by8 "sha512"
  · simp [c4]
    exact Fin_ret rfl (by rw [sumLen, if_neg (c4 ▸ c1), if_neg (c4 ▸ c2), if_neg (c4 ▸ c3), if_pos rfl]; rfl)
  · simp [c4]
    exact Fin_ret rfl (by rw [sumLen, if_neg c1, if_neg c2, if_neg c3, if_neg c4]; rfl)
theorem implLong_fx (a : ByteArray) : Fx E 49 [] [.lit (.string a)] [] (.lit (.int .i64 (sumLen a))) := by
  refine (is49.to hE).fx [] (by simp) rfl rfl ?_
  simp [v49]
  by_cases c1 : a = by8 "sha1"
  · simp [c1]
    exact Fin_ret rfl (by rw [sumLen, if_pos rfl]; rfl)
  simp [c1]
  by_cases c2 : a = by8 "sha256"
  · simp [c2]
    exact Fin_ret rfl (by rw [sumLen, if_neg (c2 ▸ c1), if_pos rfl]; rfl)
  simp [c2]
  by_cases c3 : a = by8 "h1"
  · simp [c3]
    exact Fin_ret rfl (by rw [sumLen, if_neg (c3 ▸ c1), if_neg (c3 ▸ c2), if_pos rfl]; rfl)
  simp [c3]
  by_cases c4 : a = by8 "sha512"
  · simp [c4]
    exact Fin_ret rfl (by rw [sumLen, if_neg (c4 ▸ c1), if_neg (c4 ▸ c2), if_neg (c4 ▸ c3), if_pos rfl]; rfl)
  · simp [c4]
    exact Fin_ret rfl (by rw [sumLen, if_neg c1, if_neg c2, if_neg c3, if_neg c4]; rfl)
set_option maxHeartbeats 1000000 in
theorem specPlain_fx (s : ByteArray) (hs : s.size ≤ 9223372036854775806) : Fx E 66 [] [.lit (.string s)] [] (.lit (.bool (plainOk s))) := by
  refine (is66.to hE).fx [] (by simp) rfl rfl ?_
  simp [v66]
  refine X_loop (τ := Nat) (fun i => ⟨[(0, .lit (.string s)), (3, .lit (.int .i64 i))], []⟩) (fun i => i ≤ s.size ∧ upTo (fun k => plainB (bt s k)) i) (fun i => s.size - i) 0 ⟨by omega, upTo.zero _⟩ (Wk.both (by simp [wkL, wkV.same]) trivial) ?_
  rintro i ⟨hi, hall⟩
  simp
  by_cases hlt : i < s.size
  · have hu := (bt s i).toNat_lt
    have no : plainB (bt s i) = false → plainOk s = false := fun h => by rw [plainOk, allB_false hlt h, Bool.and_false]
    simp [hlt]
    rw [wrap_i64 (by omega) (by omega)]
    refine vcall_go (l01In_fx hE (bt s i).toNat 33 126) (by simp) (by simp) (by simp) (by simp) ?_
    simp
    cases c1 : inR (bt s i).toNat 33 126
    · have := no (by simp [plainB, c1])
      simp
      exact Fin_ret rfl (by rw [this]; rfl)
    simp [hlt]
    by_cases c2 : ((bt s i).toNat : Int) = 34
    · have := no (by simp [plainB, isB, c2])
      simp [c2]
      exact Fin_ret rfl (by rw [this]; rfl)
    simp [c2, hlt]
    by_cases c3 : ((bt s i).toNat : Int) = 39
    · have := no (by simp [plainB, isB, c3])
      simp [c3]
      exact Fin_ret rfl (by rw [this]; rfl)
    simp [c3, hlt]
    by_cases c4 : ((bt s i).toNat : Int) = 44
    · have := no (by simp [plainB, isB, c4])
      simp [c4]
      exact Fin_ret rfl (by rw [this]; rfl)
    simp [c4, hlt]
    by_cases c5 : ((bt s i).toNat : Int) = 92
    · have := no (by simp [plainB, isB, c5])
      simp [c5]
      exact Fin_ret rfl (by rw [this]; rfl)
    · simp [c5]
      exact ⟨i + 1, ⟨by omega, hall.next (by simp [plainB, isB, c1, c2, c3, c4, c5])⟩, by omega, Wk.both (by simp [wkL, wkV.same]; rw [wrapN (by omega)]; exact wkV.same _) trivial⟩
  · obtain rfl : i = s.size := by omega
    have hp : allB plainB s = true := allB_true fun k hk => hall k hk
    simp
    by_cases c : (s.size : Int) ≤ 100
    · have c2 : (s.size : Int) < 20000 := by omega
      simp [c, c2]
      exact Fin_ret rfl (by simp [plainOk, hp, c, reC])
    · simp [c]
      exact Fin_ret rfl (by simp [plainOk, c, reC])
set_option maxHeartbeats 2000000 in
theorem implSums_fx (l : List Sm) (hl : l.length ≤ 2097152) (hx : ∀ s ∈ l, s.small) : Fx E 23 [] [.sl ro 2 (l.map fun x => .agg x.av)] [] (.lit (.bool (sumsOk l))) := by
  refine (is23.to hE).fx [] (by simp) rfl rfl ?_
  simp [v23]
  refine X_loop (τ := Nat) (fun i => ⟨[(0, .sl ro 2 (l.map fun x => .agg x.av)), (5, .sl ro 2 (l.map fun x => .agg x.av)), (6, .lit (.int .i64 l.length)), (7, .lit (.int .i64 i))], []⟩) (fun i => i ≤ l.length ∧ upTo (sumAt l) i) (fun i => l.length - i) 0 ⟨by omega, upTo.zero _⟩ (Wk.both (by simp [wkL, wkV.same]) (by simp [wkB])) ?_
  rintro i ⟨hi, hall⟩
  simp
  by_cases hlt : i < l.length
  · have hav : l[i].av = [.lit (.string l[i].alg), .lit (.string l[i].bytes)] := rfl
    have no : sumAt l i = false → sumsOk l = false := allN_false hlt
    have hat : sumAt l i = (decide ((l[i].bytes.size : Int) = sumLen l[i].alg) && (decide (i = 0) || slt (l.getD (i - 1) sm0).alg l[i].alg)) := by rw [sumAt, getD_lt hlt]
    simp [hlt, hav, ro, mkF, mkF.mkL, okC, putElem, upd]
    refine vcall_go (implLong_fx hE l[i].alg) (by simp) (by simp) (by simp) (by simp) ?_
    simp
    by_cases c1 : (l[i].bytes.size : Int) = sumLen l[i].alg
    · simp [c1]
      rcases Nat.eq_zero_or_pos i with rfl | h0
      · have hn := hall.next (by rw [hat]; simp [c1])
        simp
        exact ⟨1, ⟨by omega, hn⟩, by omega, Wk.both (by simp [wkL, wkV.same, ro]; rw [wrap_i64 (by omega) (by omega)]; exact wkV.same _) (by simp [wkB])⟩
      · obtain ⟨k, rfl⟩ : ∃ k, i = k + 1 := ⟨i - 1, by omega⟩
        have hk : k < l.length := by omega
        have hav2 : l[k].av = [.lit (.string l[k].alg), .lit (.string l[k].bytes)] := rfl
        have c2 : (0 : Int) < (k : Int) + 1 := by omega
        have hw : IntKind.i64.wrap (k : Int) = k := wrap_i64 (by omega) (by omega)
        rw [show k + 1 - 1 = k by omega, getD_lt hk] at hat
        simp [c2, hw, hk, hav2, mkF]
        rw [geq_slt]
        cases c3 : slt l[k].alg l[k + 1].alg
        · have := no (by rw [hat, c3]; simp)
          simp
          exact Fin_ret rfl (by rw [this]; rfl)
        · simp
          exact ⟨k + 1 + 1, ⟨by omega, hall.next (by rw [hat, c3]; simp [c1])⟩, by omega, Wk.both (by simp [wkL, wkV.same, ro]; rw [wrap_i64 (by omega) (by omega)]; exact wkV.same _) (by simp [wkB])⟩
    · have := no (by rw [hat]; simp [c1])
      simp [c1]
      exact Fin_ret rfl (by rw [this]; rfl)
  · obtain rfl : i = l.length := by omega
    simp
    exact Fin_ret rfl (by rw [sumsOk, hall.all]; rfl)
set_option maxHeartbeats 4000000 in
theorem specPack_fx (p : Pk) (hp : p.small) : Fx E 42 [] [.agg p.av] [] (.lit (.bool (packOk p))) := by
  obtain ⟨g1, g2, g3, ⟨g4, g5⟩, _, g6⟩ := hp
  have hpv : p.av = [.lit (.string p.name), .lit (.string p.version), .lit (.string p.source), .sl ro 2 (p.sums.map fun x => .agg x.av), .lit (.bool p.dev), .sl ro 1 (p.needs.map fun x => .lit (.string x))] := rfl
  refine (is42.to hE).fx [] (by simp) rfl rfl ?_
  simp [v42, hpv, okC]
  refine X_loop (τ := Nat) (fun i => ⟨[(1, .ptr 1001 0 0), (3, .lit (.int .i64 i))], [(1001, [.agg p.av])]⟩) (fun i => i ≤ p.sums.length ∧ upTo (sumAt p.sums) i) (fun i => p.sums.length - i) 0 ⟨by omega, upTo.zero _⟩ (Wk.both (by simp [wkL, wkV.same]) (by simp [wkB, hpv])) ?_
  rintro i ⟨hi, hall⟩
  simp [hpv]
  by_cases hlt : i < p.sums.length
  · have hav : p.sums[i].av = [.lit (.string p.sums[i].alg), .lit (.string p.sums[i].bytes)] := rfl
    have no : sumAt p.sums i = false → packOk p = false := fun h => by rw [packOk, sumsOk, allN_false hlt h, Bool.and_false]
    have hat : sumAt p.sums i = (decide ((p.sums[i].bytes.size : Int) = sumLen p.sums[i].alg) && (decide (i = 0) || slt (p.sums.getD (i - 1) sm0).alg p.sums[i].alg)) := by rw [sumAt, getD_lt hlt]
    simp [hlt, hav, ro, mkF, mkF.mkL]
    refine vcall_go (specLong_fx hE p.sums[i].alg) (by simp) (by simp) (by simp) (by simp) ?_
    simp [hlt, hav, ro, mkF, mkF.mkL]
    by_cases c1 : sumLen p.sums[i].alg = (p.sums[i].bytes.size : Int)
    · simp [c1]
      rcases Nat.eq_zero_or_pos i with rfl | h0
      · have hn := hall.next (by rw [hat]; simp [c1])
        simp
        exact ⟨1, ⟨by omega, hn⟩, by omega, Wk.both (by simp [wkL, wkV.same]; rw [wrap_i64 (by omega) (by omega)]; exact wkV.same _) (by simp [wkB, hpv, ro])⟩
      · obtain ⟨k, rfl⟩ : ∃ k, i = k + 1 := ⟨i - 1, by omega⟩
        have hk : k < p.sums.length := by omega
        have hav2 : p.sums[k].av = [.lit (.string p.sums[k].alg), .lit (.string p.sums[k].bytes)] := rfl
        have c2 : (0 : Int) < (k : Int) + 1 := by omega
        have hw : IntKind.i64.wrap (k : Int) = k := wrap_i64 (by omega) (by omega)
        have c4 : (0 : Int) ≤ (k : Int) + 1 := by omega
        have c5 : ((k : Int) + 1).toNat = k + 1 := by omega
        rw [show k + 1 - 1 = k by omega, getD_lt hk] at hat
        simp [c2, c4, c5, hw, hk, hlt, hav, hav2, mkF, ro]
        cases c3 : slt p.sums[k].alg p.sums[k + 1].alg
        · have := no (by rw [hat, c3]; simp)
          simp
          exact Fin_ret rfl (by rw [this]; rfl)
        · simp
          exact ⟨k + 1 + 1, ⟨by omega, hall.next (by rw [hat, c3]; simp [c1])⟩, by omega, Wk.both (by simp [wkL, wkV.same]; rw [wrap_i64 (by omega) (by omega)]; exact wkV.same _) (by simp [wkB, hpv, ro])⟩
    · have := no (by rw [hat]; simp; intro h; exact absurd h.symm c1)
      simp [c1]
      exact Fin_ret rfl (by rw [this]; rfl)
  · obtain rfl : i = p.sums.length := by omega
    have hsu : sumsOk p.sums = true := hall.all
    obtain ⟨ys, e1, e2⟩ := exact_len p.version
    have hxf := specExact_fx hE p.version (by omega)
    rw [e1] at hxf
    simp
    refine vcall_go (specName_fx hE p.name (by omega)) (by simp) (by simp) (by simp) (by simp) ?_
    simp
    cases c1 : nameOk p.name
    · simp
      exact Fin_ret rfl (by simp [packOk, c1, reC])
    simp
    refine vcall_go hxf (by simp) (by simp) (by simp) (by simp) ?_
    simp
    cases c2 : (exactO p.version).isSome
    · rw [c2, if_neg (by simp)] at e2
      simp [e2]
      exact Fin_ret rfl (by simp [packOk, c2, reC])
    rw [c2, if_pos rfl] at e2
    simp [e2]
    refine vcall_go (specPlain_fx hE p.source (by omega)) (by simp) (by simp) (by simp) (by simp) ?_
    simp
    exact Fin_ret rfl (by simp [packOk, c1, c2, hsu, reC])
end
end Go.Proofs.YtgegcfhifojjiaaDoor.Vm
