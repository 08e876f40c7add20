/- The walks and laws of this claim: Yv Yw Ye Ya YaL. -/
import Derived.Test.YticockdhfglolaaGreatDoorEa6
namespace Go.Proofs.YticockdhfglolaaGreatDoor.Vm
open Go Go.RowKit
set_option linter.unusedVariables false
set_option linter.unusedSimpArgs false
def v167 : VC := .seq (.reg false [⟨some 4, .as (.c (.lit (.int .i64 0))), none⟩] [4]) (.seq (.block 0 (.seq (.reg false [⟨some 6, .mv (.t 0), none⟩, ⟨some 7, .mv (.t 1), none⟩, ⟨some 8, .bin .lss 0 (.t 6) (.t 7), none⟩, ⟨some 5, .as (.t 8), none⟩] [6, 7, 8]) (.cond (.t 5) (.seq (.reg false [⟨some 4, .as (.c (.lit (.int .i64 (-1)))), none⟩] []) (.ret)) (.seq (.reg false [⟨some 10, .mv (.t 0), none⟩, ⟨some 11, .mv (.t 1), none⟩, ⟨some 12, .bin .gtr 0 (.t 10) (.t 11), none⟩, ⟨some 9, .as (.t 12), none⟩] [10, 11, 12]) (.cond (.t 9) (.seq (.reg false [⟨some 4, .as (.c (.lit (.int .i64 1))), none⟩] []) (.ret)) (.skip)))))) (.seq (.reg false [⟨some 4, .as (.c (.lit (.int .i64 0))), none⟩] []) (.ret)))
theorem is167 : Is Go.Proofs.Tryz.prog 167 13 v167 [.t 4] := ⟨Go.Proofs.Tryz.f167, dl [(0, [4]), (1, [6, 7, 8]), (3, [10, 11, 12])], Go.Proofs.Tryz.func167, by kernel_rfl, by kernel_rfl, by kernel_rfl, by kernel_rfl⟩
def v168 : VC := .seq (.reg false [⟨some 4, .as (.c (.lit (.int .i64 0))), none⟩] [4]) (.seq (.reg false [⟨some 8, .mv (.t 0), none⟩, ⟨some 9, .call false 209 [(.t 8)], none⟩, ⟨some 10, .mv (.t 1), none⟩, ⟨some 11, .call false 209 [(.t 10)], none⟩, ⟨some 5, .as (.t 9), none⟩, ⟨some 6, .as (.t 11), none⟩] [8, 9, 10, 11]) (.seq (.block 0 (.seq (.reg false [⟨some 13, .mv (.t 5), none⟩, ⟨some 14, .mv (.t 13), none⟩, ⟨some 15, .mv (.t 6), (some (14, true))⟩, ⟨some 16, .pick (.t 14) (.t 15) (.c (.lit (.bool false))), none⟩, ⟨some 12, .as (.t 16), none⟩] [13, 14, 15, 16]) (.cond (.t 12) (.seq (.reg false [⟨some 17, .mv (.t 0), none⟩, ⟨some 18, .call false 210 [(.t 17), (.c (.lit (.string (by8 "0"))))], none⟩, ⟨some 19, .mv (.t 1), none⟩, ⟨some 20, .call false 210 [(.t 19), (.c (.lit (.string (by8 "0"))))], none⟩, ⟨some 0, .as (.t 18), none⟩, ⟨some 1, .as (.t 20), none⟩] [17, 18, 19, 20]) (.seq (.reg false [⟨some 21, .mv (.t 0), none⟩, ⟨some 22, .len true (.t 21), none⟩, ⟨some 23, .mv (.t 1), none⟩, ⟨some 24, .len true (.t 23), none⟩, ⟨some 25, .call false 167 [(.t 22), (.t 24)], none⟩, ⟨some 7, .as (.t 25), none⟩] [21, 22, 23, 24, 25]) (.seq (.reg false [⟨some 26, .mv (.t 7), none⟩, ⟨some 27, .bin .neq 0 (.t 26) (.c (.lit (.int .i64 0))), none⟩] [26]) (.cond (.t 27) (.seq (.reg false [⟨some 28, .mv (.t 7), none⟩, ⟨some 4, .as (.t 28), none⟩] [28]) (.ret)) (.skip))))) (.seq (.reg false [⟨some 30, .mv (.t 5), none⟩, ⟨some 29, .as (.t 30), none⟩] [30]) (.cond (.t 29) (.seq (.reg false [⟨some 4, .as (.c (.lit (.int .i64 (-1)))), none⟩] []) (.ret)) (.seq (.reg false [⟨some 32, .mv (.t 6), none⟩, ⟨some 31, .as (.t 32), none⟩] [32]) (.cond (.t 31) (.seq (.reg false [⟨some 4, .as (.c (.lit (.int .i64 1))), none⟩] []) (.ret)) (.skip)))))))) (.seq (.reg false [⟨some 33, .mv (.t 0), none⟩, ⟨some 34, .mv (.t 1), none⟩, ⟨some 35, .call false 211 [(.t 33), (.t 34)], none⟩, ⟨some 4, .as (.t 35), none⟩] [33, 34, 35]) (.ret))))
theorem is168 : Is Go.Proofs.Tryz.prog 168 36 v168 [.t 4] := ⟨Go.Proofs.Tryz.f168, dl [(0, [4]), (1, [8, 9, 10, 11]), (2, [13, 14, 15, 16]), (7, [30]), (9, [32]), (3, [17, 18, 19, 20]), (4, [21, 22, 23, 24, 25]), (5, [26]), (6, [28]), (11, [33, 34, 35])], Go.Proofs.Tryz.func168, by kernel_rfl, by kernel_rfl, by kernel_rfl, by kernel_rfl⟩
def v109 : VC := .seq (.reg false [⟨some 2, .box 4 (.t 0), none⟩, ⟨some 3, .box 4 (.t 1), none⟩, ⟨some 4, .as (.c (.lit (.int .i64 0))), none⟩] [4]) (.seq (.seq (.reg true [⟨some 9, .fa 0 (.t 2), none⟩, ⟨some 10, .ld false 1 (.t 9), none⟩, ⟨some 11, .fa 0 (.t 3), none⟩, ⟨some 12, .ld false 1 (.t 11), none⟩, ⟨some 13, .call true 167 [(.t 10), (.t 12)], none⟩, ⟨some 14, .fa 1 (.t 2), none⟩, ⟨some 15, .ld false 1 (.t 14), none⟩, ⟨some 16, .fa 1 (.t 3), none⟩, ⟨some 17, .ld false 1 (.t 16), none⟩, ⟨some 18, .call true 167 [(.t 15), (.t 17)], none⟩, ⟨some 19, .fa 2 (.t 2), none⟩, ⟨some 20, .ld false 1 (.t 19), none⟩, ⟨some 21, .fa 2 (.t 3), none⟩, ⟨some 22, .ld false 1 (.t 21), none⟩, ⟨some 23, .call true 167 [(.t 20), (.t 22)], none⟩, ⟨some 24, .bsl 1 [(.t 13), (.t 18), (.t 23)], none⟩, ⟨some 25, .len false (.t 24), none⟩, ⟨some 26, .mv (.c (.lit (.int .i64 0))), none⟩] [9, 10, 11, 12, 13, 14, 15, 16, 17, 18, 19, 20, 21, 22, 23]) (.block 0 (.loop (.seq (.reg false [⟨some 27, .bin .lss 0 (.t 26) (.t 25), none⟩] []) (.seq (.cond (.t 27) (.skip) (.exit 0)) (.seq (.block 1 (.seq (.reg false [⟨some 28, .ia 1 (.t 24) (.t 26), none⟩, ⟨some 29, .ld false 1 (.t 28), none⟩, ⟨some 6, .as (.t 29), none⟩] [28, 29]) (.seq (.reg false [⟨some 30, .mv (.t 6), none⟩, ⟨some 31, .bin .neq 0 (.t 30) (.c (.lit (.int .i64 0))), none⟩] [30]) (.cond (.t 31) (.seq (.reg false [⟨some 32, .mv (.t 6), none⟩, ⟨some 4, .as (.t 32), none⟩] [32]) (.ret)) (.skip))))) (.reg false [⟨some 33, .bin .add 0 (.t 26) (.c (.lit (.int .i64 1))), none⟩, ⟨some 26, .mv (.t 33), none⟩] [33]))))))) (.seq (.seq (.reg false [⟨some 34, .fa 3 (.t 2), none⟩, ⟨some 35, .ld false 1 (.t 34), none⟩, ⟨some 36, .len false (.t 35), none⟩, ⟨some 37, .bin .eql 0 (.t 36) (.c (.lit (.int .i64 0))), none⟩, ⟨some 38, .fa 3 (.t 3), none⟩, ⟨some 39, .ld false 1 (.t 38), none⟩, ⟨some 40, .len false (.t 39), none⟩, ⟨some 41, .bin .eql 0 (.t 40) (.c (.lit (.int .i64 0))), none⟩, ⟨some 42, .bin .neq 2 (.t 37) (.t 41), none⟩] [34, 35, 36, 37, 38, 39, 40, 41]) (.cond (.t 42) (.seq (.reg false [⟨some 43, .fa 3 (.t 3), none⟩, ⟨some 44, .ld false 1 (.t 43), none⟩, ⟨some 45, .len false (.t 44), none⟩, ⟨some 46, .fa 3 (.t 2), none⟩, ⟨some 47, .ld false 1 (.t 46), none⟩, ⟨some 48, .len false (.t 47), none⟩, ⟨some 49, .call false 167 [(.t 45), (.t 48)], none⟩, ⟨some 4, .as (.t 49), none⟩] [43, 44, 45, 46, 47, 48, 49]) (.ret)) (.skip))) (.seq (.seq (.reg false [⟨some 50, .fa 3 (.t 2), none⟩, ⟨some 51, .ld false 1 (.t 50), none⟩, ⟨some 52, .len false (.t 51), none⟩, ⟨some 53, .fa 3 (.t 3), none⟩, ⟨some 54, .ld false 1 (.t 53), none⟩, ⟨some 55, .len false (.t 54), none⟩, ⟨some 56, .mn (.t 52) (.t 55), none⟩, ⟨some 57, .mv (.c (.lit (.int .i64 0))), none⟩] [50, 51, 52, 53, 54, 55]) (.block 2 (.loop (.seq (.reg false [⟨some 58, .bin .lss 0 (.t 57) (.t 56), none⟩] []) (.seq (.cond (.t 58) (.skip) (.exit 2)) (.seq (.block 3 (.seq (.reg false [⟨some 59, .mv (.t 57), none⟩, ⟨some 7, .as (.t 59), none⟩] [59]) (.seq (.reg true [⟨some 60, .fa 3 (.t 2), none⟩, ⟨some 61, .ld false 1 (.t 60), none⟩, ⟨some 62, .mv (.t 7), none⟩, ⟨some 63, .ia 1 (.t 61) (.t 62), none⟩, ⟨some 64, .ld false 1 (.t 63), none⟩, ⟨some 65, .fa 3 (.t 3), none⟩, ⟨some 66, .ld false 1 (.t 65), none⟩, ⟨some 67, .mv (.t 7), none⟩, ⟨some 68, .ia 1 (.t 66) (.t 67), none⟩, ⟨some 69, .ld false 1 (.t 68), none⟩, ⟨some 70, .call true 168 [(.t 64), (.t 69)], none⟩, ⟨some 8, .as (.t 70), none⟩] [60, 61, 62, 63, 64, 65, 66, 67, 68, 69, 70]) (.seq (.reg false [⟨some 71, .mv (.t 8), none⟩, ⟨some 72, .bin .neq 0 (.t 71) (.c (.lit (.int .i64 0))), none⟩] [71]) (.cond (.t 72) (.seq (.reg false [⟨some 73, .mv (.t 8), none⟩, ⟨some 4, .as (.t 73), none⟩] [73]) (.ret)) (.skip)))))) (.reg false [⟨some 74, .bin .add 0 (.t 57) (.c (.lit (.int .i64 1))), none⟩, ⟨some 57, .mv (.t 74), none⟩] [74]))))))) (.seq (.reg false [⟨some 75, .fa 3 (.t 2), none⟩, ⟨some 76, .ld false 1 (.t 75), none⟩, ⟨some 77, .len false (.t 76), none⟩, ⟨some 78, .fa 3 (.t 3), none⟩, ⟨some 79, .ld false 1 (.t 78), none⟩, ⟨some 80, .len false (.t 79), none⟩, ⟨some 81, .call false 167 [(.t 77), (.t 80)], none⟩, ⟨some 4, .as (.t 81), none⟩] [75, 76, 77, 78, 79, 80, 81]) (.ret)))))
theorem is109 : Is Go.Proofs.Tryz.prog 109 82 v109 [.t 4] := ⟨Go.Proofs.Tryz.f109, dl [(0, [4]), (1, [9, 10, 11, 12, 13, 14, 15, 16, 17, 18, 19, 20, 21, 22, 23]), (3, [28, 29]), (4, [30]), (5, [32]), (6, [33]), (7, [34, 35, 36, 37, 38, 39, 40, 41]), (8, [43, 44, 45, 46, 47, 48, 49]), (9, [50, 51, 52, 53, 54, 55]), (11, [59]), (12, [60, 61, 62, 63, 64, 65, 66, 67, 68, 69, 70]), (13, [71]), (14, [73]), (15, [74]), (16, [75, 76, 77, 78, 79, 80, 81])], Go.Proofs.Tryz.func109, by kernel_rfl, by kernel_rfl, by kernel_rfl, by kernel_rfl⟩
theorem by48 : by8 "0" = one 48 := by decide +kernel
theorem cmpB_eq : ∀ (a b : List UInt8), Lib.compareBytes a b = if Op.bytesLess a b = true then -1 else if a = b then 0 else 1
  | [], [] => rfl
  | [], b :: br => by simp [Lib.compareBytes, Op.bytesLess]
  | a :: ar, [] => by simp [Lib.compareBytes, Op.bytesLess]
  | a :: ar, b :: br => by
    have ih := cmpB_eq ar br
    unfold Lib.compareBytes
    rcases Nat.lt_trichotomy a.toNat b.toNat with c | c | c
    · have h1 : a < b := UInt8.lt_iff_toNat_lt.2 c
      simp [Op.bytesLess, h1]
    · obtain rfl := UInt8.toNat_inj.1 c
      have h2 : ¬ a < a := fun e => by have := UInt8.lt_iff_toNat_lt.1 e; omega
      rw [if_neg h2, if_neg h2, ih]
      simp [Op.bytesLess, h2]
    · have h1 : ¬ a < b := fun e => by have := UInt8.lt_iff_toNat_lt.1 e; omega
      have h2 : b < a := UInt8.lt_iff_toNat_lt.2 c
      have h3 : a ≠ b := fun e => by rw [e] at c; omega
      have h4 : (a == b) = false := by simpa using h3
      rw [if_neg h1, if_pos h2]
      simp [Op.bytesLess, h1, h3, h4]
theorem cmpB_S (a b : ByteArray) : Lib.compareBytes a.data.toList b.data.toList = cmpS a b := by
  rw [cmpB_eq, cmpS]
  unfold slt
  rw [Lib.toList_data, Lib.toList_data]
  have : (a.data.toList = b.data.toList) = (a = b) := propext ⟨ba_ext, fun h => by rw [h]⟩
  simp only [this]
theorem dropZ_size (s : ByteArray) : (trim0 s).size ≤ s.size := by
  have h : (s.data.toList.dropWhile (· == 48)).length ≤ s.data.toList.length := (List.dropWhile_suffix _).sublist.length_le
  have h1 : (trim0 s).size = (s.data.toList.dropWhile (· == 48)).length := List.size_toArray
  have h2 : s.data.toList.length = s.size := by simp
  omega
section
variable {E : Env} (hE : E.P = Go.Proofs.Tryz.prog)
include hE
theorem implInts_fx (a b : Int) : Fx E 167 [] [.lit (.int .i64 a), .lit (.int .i64 b)] [] (.lit (.int .i64 (cmpI a b))) := by
  refine (is167.to hE).fx [] (by simp) rfl rfl ?_
  simp [v167]
  by_cases c1 : a < b
  · simp [c1]
    exact Fin_ret rfl (by simp [cmpI, c1, reC])
  · simp [c1]
    by_cases c2 : b < a
    · simp [c2]
      exact Fin_ret rfl (by simp [cmpI, c1, c2, reC])
    · simp [c2]
      exact Fin_ret rfl (by simp [cmpI, c1, c2, reC])
theorem trimLeft_fx (s : ByteArray) : Fx E 210 [] [.lit (.string s), .lit (.string (by8 "0"))] [] (.lit (.string (trim0 s))) :=
  Fx_lit (args := [.string s, .string (by8 "0")]) rfl fun w hw => by
    rw [hE, by48]
    refine (Go.Proofs.Tryz.strings_TrimLeft_one s 48 (by decide) w).mono ?_
    rintro e w' ⟨rfl, rfl⟩
    exact ⟨rfl, Below.refl _ _⟩
theorem strCmp_fx (a b : ByteArray) : Fx E 211 [] [.lit (.string a), .lit (.string b)] [] (.lit (.int .i64 (cmpS a b))) :=
  Fx_lit (args := [.string a, .string b]) rfl fun w hw => by
    rw [hE]
    refine (Go.Proofs.Tryz.strings_Compare a b w).mono ?_
    rintro e w' ⟨rfl, rfl⟩
    exact ⟨by rw [cmpB_S], Below.refl _ _⟩
theorem implPre_fx (a b : ByteArray) (ha : a.size ≤ 4294967296) (hb : b.size ≤ 4294967296) : Fx E 168 [] [.lit (.string a), .lit (.string b)] [] (.lit (.int .i64 (cmpQ a b))) := by
  have ta := dropZ_size a
  have tb := dropZ_size b
  refine (is168.to hE).fx [] (by simp) rfl rfl ?_
  simp [v168]
  refine vcall_go (isNumber_fx hE a (by omega)) (by simp) (by simp) (by simp) (by simp) ?_
  simp
  refine vcall_go (isNumber_fx hE b (by omega)) (by simp) (by simp) (by simp) (by simp) ?_
  simp
  cases c1 : numB a <;> cases c2 : numB b
  · simp
    refine vcall_go (strCmp_fx hE a b) (by simp) (by simp) (by simp) (by simp) ?_
    simp
    exact Fin_ret rfl (by simp [cmpQ, c1, c2, reC])
  · simp
    exact Fin_ret rfl (by simp [cmpQ, c1, c2, reC])
  · simp
    exact Fin_ret rfl (by simp [cmpQ, c1, c2, reC])
  · simp
    refine vcall_go (trimLeft_fx hE a) (by simp) (by simp) (by simp) (by simp) ?_
    simp
    refine vcall_go (trimLeft_fx hE b) (by simp) (by simp) (by simp) (by simp) ?_
    simp
    refine vcall_go (implInts_fx hE (trim0 a).size (trim0 b).size) (by simp) (by simp) (by simp) (by simp) ?_
    simp
    by_cases c3 : cmpI (trim0 a).size (trim0 b).size = 0
    · simp [c3]
      refine vcall_go (strCmp_fx hE (trim0 a) (trim0 b)) (by simp) (by simp) (by simp) (by simp) ?_
      simp
      exact Fin_ret rfl (by simp [cmpQ, c1, c2, cmpT, c3, reC])
    · simp [c3]
      exact Fin_ret rfl (by simp [cmpQ, c1, c2, cmpT, c3, reC])
set_option maxHeartbeats 2000000 in
theorem implCmp_fx (a b : Ver) (la : a.pre.length ≤ 4294967296) (lb : b.pre.length ≤ 4294967296) (ha : ∀ p ∈ a.pre, preOk p = true ∧ p.size ≤ 4294967296) (hb : ∀ p ∈ b.pre, preOk p = true ∧ p.size ≤ 4294967296) : Fx E 109 [] [.agg a.av, .agg b.av] [] (.lit (.int .i64 (cmpV a b))) := by
  have hav : a.av = [.lit (.int .i64 a.maj), .lit (.int .i64 a.min), .lit (.int .i64 a.pat), .sl ro 1 (a.pre.map fun x => .lit (.string x))] := rfl
  have hbv : b.av = [.lit (.int .i64 b.maj), .lit (.int .i64 b.min), .lit (.int .i64 b.pat), .sl ro 1 (b.pre.map fun x => .lit (.string x))] := rfl
  have hcv : cmpV a b = if cmpI a.maj b.maj ≠ 0 then cmpI a.maj b.maj else if cmpI a.min b.min ≠ 0 then cmpI a.min b.min else if cmpI a.pat b.pat ≠ 0 then cmpI a.pat b.pat else if a.pre = [] ∨ b.pre = [] then cmpI b.pre.length a.pre.length else cmpL a.pre b.pre := rfl
  refine (is109.to hE).fx [] (by simp) rfl rfl ?_
  simp [v109, hav, hbv, okC]
  refine vcall_go (implInts_fx hE a.maj b.maj) (by simp) (by simp) (by simp) (by simp) ?_
  simp
  refine vcall_go (implInts_fx hE a.min b.min) (by simp) (by simp) (by simp) (by simp) ?_
  simp
  refine vcall_go (implInts_fx hE a.pat b.pat) (by simp) (by simp) (by simp) (by simp) ?_
  obtain ⟨x, hx⟩ : ∃ x, cmpI a.maj b.maj = x := ⟨_, rfl⟩
  obtain ⟨y, hy⟩ : ∃ y, cmpI a.min b.min = y := ⟨_, rfl⟩
  obtain ⟨z, hz⟩ : ∃ z, cmpI a.pat b.pat = z := ⟨_, rfl⟩
  rw [hx, hy, hz] at hcv
  rw [hx, hy, hz]
  simp [okC, frA, frA.frL]
  refine X_loop (τ := Nat) (fun i => ⟨[(2, .ptr 1000000000002 0 0), (3, .ptr 1000000000003 0 0), (24, .sl ⟨.no, true⟩ 1 [.lit (.int .i64 x), .lit (.int .i64 y), .lit (.int .i64 z)]), (25, .lit (.int .i64 3)), (26, .lit (.int .i64 i))], [(1000000000002, [.agg a.av]), (1000000000003, [.agg b.av])]⟩) (CmpI x y z) (fun i => 3 - i) 0 ⟨by omega, fun h => by omega, fun h => by omega, fun h => by omega⟩ (Wk.both (by simp [wkL, wkV.same]; exact wkV_no _ _ _ _) (by simp [wkB, hav, hbv])) ?_
  rintro i ⟨hi, g1, g2, g3⟩
  simp [hav, hbv]
  match i, hi with
  | 0, _ =>
    simp [mkF]
    by_cases c : x = 0
    · have hn : CmpI x y z 1 := ⟨by omega, fun _ => c, fun h => by omega, fun h => by omega⟩
      rw [c] at hn
      simp [c]
      exact ⟨1, hn, by omega, Wk.both (by simp [wkL, wkV.same, c]; rw [wrap_i64 (by omega) (by omega)]; exact wkV.same _) (by simp [wkB, hav, hbv])⟩
    · simp [c]
      exact Fin_ret rfl (by rw [hcv, if_pos c]; rfl)
  | 1, _ =>
    have k1 := g1 (by omega)
    simp [mkF]
    by_cases c : y = 0
    · have hn : CmpI x y z 2 := ⟨by omega, fun _ => k1, fun _ => c, fun h => by omega⟩
      rw [c] at hn
      simp [c]
      exact ⟨2, hn, by omega, Wk.both (by simp [wkL, wkV.same, c]; rw [wrap_i64 (by omega) (by omega)]; exact wkV.same _) (by simp [wkB, hav, hbv])⟩
    · simp [c]
      exact Fin_ret rfl (by rw [hcv, if_neg (by simp [k1]), if_pos c]; rfl)
  | 2, _ =>
    have k1 := g1 (by omega)
    have k2 := g2 (by omega)
    simp [mkF]
    by_cases c : z = 0
    · have hn : CmpI x y z 3 := ⟨by omega, fun _ => k1, fun _ => k2, fun _ => c⟩
      rw [c] at hn
      simp [c]
      exact ⟨3, hn, by omega, Wk.both (by simp [wkL, wkV.same, c]; rw [wrap_i64 (by omega) (by omega)]; exact wkV.same _) (by simp [wkB, hav, hbv])⟩
    · simp [c]
      exact Fin_ret rfl (by rw [hcv, if_neg (by simp [k1]), if_neg (by simp [k2]), if_pos c]; rfl)
  | 3, _ =>
    have k1 := g1 (by omega)
    have k2 := g2 (by omega)
    have k3 := g3 (by omega)
    rw [if_neg (by simp [k1]), if_neg (by simp [k2]), if_neg (by simp [k3])] at hcv
    simp
    by_cases c0 : decide (a.pre = []) = decide (b.pre = [])
    · have hcl0 : cmpV a b = cmpL a.pre b.pre := by
        by_cases ca : a.pre = []
        · have cb : b.pre = [] := by rw [ca] at c0; simpa using c0.symm
          rw [hcv, if_pos (.inl ca), ca, cb]; rfl
        · have cb : ¬ b.pre = [] := fun h => by rw [h] at c0; exact ca (by simpa using c0)
          rw [hcv, if_neg (by rintro (h | h); exact ca h; exact cb h)]
      simp [c0]
      refine X_loop (τ := Nat) (fun i => ⟨[(2, .ptr 1000000000002 0 0), (3, .ptr 1000000000003 0 0), (56, .lit (.int .i64 (min (a.pre.length : Int) b.pre.length))), (57, .lit (.int .i64 i))], [(1000000000002, [.agg a.av]), (1000000000003, [.agg b.av])]⟩) (fun i => i ≤ a.pre.length ∧ i ≤ b.pre.length ∧ cmpL a.pre b.pre = cmpL (a.pre.drop i) (b.pre.drop i)) (fun i => a.pre.length - i) 0 (by simp) (Wk.both (by simp [wkL, wkV.same]) (by simp [wkB, hav, hbv])) ?_
      rintro i ⟨hi, hj, hcl⟩
      simp [hav, hbv]
      by_cases l1 : i < a.pre.length ∧ i < b.pre.length
      · obtain ⟨l1, l2⟩ := l1
        rw [List.drop_eq_getElem_cons l1, List.drop_eq_getElem_cons l2] at hcl
        simp only [cmpL] at hcl
        obtain ⟨pa, za⟩ := ha _ (List.getElem_mem l1)
        obtain ⟨pb, zb⟩ := hb _ (List.getElem_mem l2)
        have hm : (i : Int) < min (a.pre.length : Int) b.pre.length := by omega
        simp [hm, l1, l2, mkF]
        refine vcall_go (implPre_fx hE a.pre[i] b.pre[i] za zb) (by simp) (by simp) (by simp) (by simp) ?_
        rw [cmpQ_eq pa pb]
        simp
        by_cases c3 : cmpP a.pre[i] b.pre[i] = 0
        · rw [if_neg (by simp [c3])] at hcl
          simp [c3]
          exact ⟨i + 1, ⟨by omega, by omega, hcl⟩, by omega, Wk.both (by simp [wkL, wkV.same]; rw [wrapN (by omega)]; exact wkV.same _) (by simp [wkB, hav, hbv])⟩
        · rw [if_pos c3] at hcl
          simp [c3]
          exact Fin_ret rfl (by rw [hcl0, hcl]; rfl)
      · have l1' : i < a.pre.length → ¬ i < b.pre.length := fun h h2 => l1 ⟨h, h2⟩
        have hend : cmpL (a.pre.drop i) (b.pre.drop i) = cmpI a.pre.length b.pre.length := by
          have he : a.pre.drop i = [] ∨ b.pre.drop i = [] := by
            by_cases h : i < a.pre.length
            · exact .inr (List.drop_of_length_le (by have := l1' h; omega))
            · exact .inl (List.drop_of_length_le (by omega))
          rw [cmpL_end he, List.length_drop, List.length_drop]
          have := cmpI_shift ((a.pre.length - i : Nat) : Int) ((b.pre.length - i : Nat) : Int) i
          rw [← this, show ((a.pre.length - i : Nat) : Int) + i = a.pre.length by omega, show ((b.pre.length - i : Nat) : Int) + i = b.pre.length by omega]
        have hm : ¬ (i : Int) < min (a.pre.length : Int) b.pre.length := by
          by_cases h : i < a.pre.length
          · have := l1' h; omega
          · omega
        simp [hm]
        refine vcall_go (implInts_fx hE a.pre.length b.pre.length) (by simp) (by simp) (by simp) (by simp) ?_
        simp
        exact Fin_ret rfl (by rw [hcl0, hcl, hend]; rfl)
    · have hc : a.pre = [] ∨ b.pre = [] := by
        by_cases ca : a.pre = []
        · exact .inl ca
        · by_cases cb : b.pre = []
          · exact .inr cb
          · exact absurd (by simp [ca, cb]) c0
      rw [if_pos hc] at hcv
      have hbq : (decide (a.pre = []) == decide (b.pre = [])) = false := by rw [beq_eq_false_iff_ne]; exact c0
      simp only [hbq, Bool.not_false]
      simp
      refine vcall_go (implInts_fx hE b.pre.length a.pre.length) (by simp) (by simp) (by simp) (by simp) ?_
      simp
      exact Fin_ret rfl (by rw [hcv]; rfl)
end
end Go.Proofs.YticockdhfglolaaGreatDoor.Vm
namespace Go.Proofs.YticockdhfglolaaGreatDoor.Vm
open Go Go.RowKit
set_option linter.unusedVariables false
set_option linter.unusedSimpArgs false
def v62 : VC := .seq (.reg false [⟨some 4, .as (.c (.lit (.int .i64 0))), none⟩] [4]) (.seq (.reg false [⟨some 10, .mv (.t 0), none⟩, ⟨some 11, .call false 107 [(.t 10)], none⟩, ⟨some 9, .mv (.t 11), none⟩, ⟨some 12, .ext (.t 9) 0, none⟩, ⟨some 13, .ext (.t 9) 1, none⟩, ⟨some 5, .alloc (.agg [(.lit (.int .i64 0)), (.lit (.int .i64 0)), (.lit (.int .i64 0)), (.sl ⟨.nl, true⟩ 1 [])]), none⟩, ⟨none, .st 4 (.t 5) (.t 12), none⟩, ⟨some 6, .as (.t 13), none⟩] [10, 11, 9, 12, 13, 6]) (.seq (.reg false [⟨some 15, .mv (.t 1), none⟩, ⟨some 16, .call false 107 [(.t 15)], none⟩, ⟨some 14, .mv (.t 16), none⟩, ⟨some 17, .ext (.t 14) 0, none⟩, ⟨some 18, .ext (.t 14) 1, none⟩, ⟨some 7, .alloc (.agg [(.lit (.int .i64 0)), (.lit (.int .i64 0)), (.lit (.int .i64 0)), (.sl ⟨.nl, true⟩ 1 [])]), none⟩, ⟨none, .st 4 (.t 7) (.t 17), none⟩, ⟨some 8, .as (.t 18), none⟩] [15, 16, 14, 17, 18, 8]) (.seq (.reg false [⟨some 19, .ld true 4 (.t 5), none⟩, ⟨some 20, .ld true 4 (.t 7), none⟩, ⟨some 21, .call false 109 [(.t 19), (.t 20)], none⟩, ⟨some 4, .as (.t 21), none⟩] [19, 20, 21]) (.ret))))
theorem is62 : Is Go.Proofs.Tryz.prog 62 22 v62 [.t 4] := ⟨Go.Proofs.Tryz.f62, dl [(0, [4]), (1, [10, 11, 9, 12, 13, 6]), (2, [15, 16, 14, 17, 18, 8]), (3, [19, 20, 21])], Go.Proofs.Tryz.func62, by kernel_rfl, by kernel_rfl, by kernel_rfl, by kernel_rfl⟩
def v132 : VC := .seq (.reg false [⟨some 2, .box 2 (.t 0), none⟩, ⟨some 3, .box 4 (.t 1), none⟩, ⟨some 4, .as (.c (.lit (.bool false))), none⟩] [4]) (.seq (.reg false [⟨some 10, .fa 0 (.t 2), none⟩, ⟨some 11, .ld false 1 (.t 10), none⟩, ⟨some 12, .call false 57 [(.t 11)], none⟩, ⟨some 9, .mv (.t 12), none⟩, ⟨some 13, .ext (.t 9) 0, none⟩, ⟨some 14, .ext (.t 9) 1, none⟩, ⟨some 5, .alloc (.agg [(.lit (.int .i64 0)), (.lit (.int .i64 0)), (.lit (.int .i64 0)), (.sl ⟨.nl, true⟩ 1 [])]), none⟩, ⟨none, .st 4 (.t 5) (.t 13), none⟩, ⟨some 6, .as (.t 14), none⟩] [10, 11, 12, 9, 13, 14]) (.seq (.reg false [⟨some 16, .fa 1 (.t 2), none⟩, ⟨some 17, .ld false 1 (.t 16), none⟩, ⟨some 18, .call false 57 [(.t 17)], none⟩, ⟨some 15, .mv (.t 18), none⟩, ⟨some 19, .ext (.t 15) 0, none⟩, ⟨some 20, .ext (.t 15) 1, none⟩, ⟨some 7, .alloc (.agg [(.lit (.int .i64 0)), (.lit (.int .i64 0)), (.lit (.int .i64 0)), (.sl ⟨.nl, true⟩ 1 [])]), none⟩, ⟨none, .st 4 (.t 7) (.t 19), none⟩, ⟨some 8, .as (.t 20), none⟩] [16, 17, 18, 15, 19, 20]) (.seq (.seq (.reg false [⟨some 21, .mv (.t 6), none⟩, ⟨some 22, .mv (.t 21), none⟩, ⟨some 23, .ld true 4 (.t 3), (some (22, true))⟩, ⟨some 24, .ld true 4 (.t 5), (some (22, true))⟩, ⟨some 25, .call false 58 [(.t 23), (.t 24)], (some (22, true))⟩, ⟨some 26, .bin .lss 0 (.t 25) (.c (.lit (.int .i64 0))), (some (22, true))⟩, ⟨some 27, .pick (.t 22) (.t 26) (.c (.lit (.bool false))), none⟩, ⟨some 28, .mv (.t 27), none⟩, ⟨some 29, .mv (.t 8), (some (28, false))⟩, ⟨some 30, .mv (.t 29), (some (28, false))⟩, ⟨some 31, .ld true 4 (.t 3), (some (30, true))⟩, ⟨some 32, .ld true 4 (.t 7), (some (30, true))⟩, ⟨some 33, .call false 58 [(.t 31), (.t 32)], (some (30, true))⟩, ⟨some 34, .bin .geq 0 (.t 33) (.c (.lit (.int .i64 0))), (some (30, true))⟩, ⟨some 35, .pick (.t 30) (.t 34) (.c (.lit (.bool false))), (some (28, false))⟩, ⟨some 36, .pick (.t 28) (.c (.lit (.bool true))) (.t 35), none⟩] [21, 22, 23, 24, 25, 26, 27, 28, 29, 30, 31, 32, 33, 34, 35]) (.cond (.t 36) (.seq (.reg false [⟨some 4, .as (.c (.lit (.bool false))), none⟩] []) (.ret)) (.skip))) (.seq (.reg false [⟨some 37, .fa 3 (.t 3), none⟩, ⟨some 38, .ld false 1 (.t 37), none⟩, ⟨some 39, .len false (.t 38), none⟩, ⟨some 40, .bin .eql 0 (.t 39) (.c (.lit (.int .i64 0))), none⟩, ⟨some 41, .mv (.t 40), none⟩, ⟨some 42, .mv (.t 6), (some (41, false))⟩, ⟨some 43, .mv (.t 42), (some (41, false))⟩, ⟨some 44, .fa 3 (.t 5), (some (43, true))⟩, ⟨some 45, .ld false 1 (.t 44), (some (43, true))⟩, ⟨some 46, .len false (.t 45), (some (43, true))⟩, ⟨some 47, .bin .gtr 0 (.t 46) (.c (.lit (.int .i64 0))), (some (43, true))⟩, ⟨some 48, .pick (.t 43) (.t 47) (.c (.lit (.bool false))), (some (41, false))⟩, ⟨some 49, .mv (.t 48), (some (41, false))⟩, ⟨some 50, .fa 0 (.t 5), (some (49, true))⟩, ⟨some 51, .ld false 1 (.t 50), (some (49, true))⟩, ⟨some 52, .fa 0 (.t 3), (some (49, true))⟩, ⟨some 53, .ld false 1 (.t 52), (some (49, true))⟩, ⟨some 54, .bin .eql 0 (.t 51) (.t 53), (some (49, true))⟩, ⟨some 55, .pick (.t 49) (.t 54) (.c (.lit (.bool false))), (some (41, false))⟩, ⟨some 56, .mv (.t 55), (some (41, false))⟩, ⟨some 57, .fa 1 (.t 5), (some (56, true))⟩, ⟨some 58, .ld false 1 (.t 57), (some (56, true))⟩, ⟨some 59, .fa 1 (.t 3), (some (56, true))⟩, ⟨some 60, .ld false 1 (.t 59), (some (56, true))⟩, ⟨some 61, .bin .eql 0 (.t 58) (.t 60), (some (56, true))⟩, ⟨some 62, .pick (.t 56) (.t 61) (.c (.lit (.bool false))), (some (41, false))⟩, ⟨some 63, .mv (.t 62), (some (41, false))⟩, ⟨some 64, .fa 2 (.t 5), (some (63, true))⟩, ⟨some 65, .ld false 1 (.t 64), (some (63, true))⟩, ⟨some 66, .fa 2 (.t 3), (some (63, true))⟩, ⟨some 67, .ld false 1 (.t 66), (some (63, true))⟩, ⟨some 68, .bin .eql 0 (.t 65) (.t 67), (some (63, true))⟩, ⟨some 69, .pick (.t 63) (.t 68) (.c (.lit (.bool false))), (some (41, false))⟩, ⟨some 70, .pick (.t 41) (.c (.lit (.bool true))) (.t 69), none⟩, ⟨some 4, .as (.t 70), none⟩] [37, 38, 39, 40, 41, 42, 43, 44, 45, 46, 47, 48, 49, 50, 51, 52, 53, 54, 55, 56, 57, 58, 59, 60, 61, 62, 63, 64, 65, 66, 67, 68, 69, 70]) (.ret)))))
theorem is132 : Is Go.Proofs.Tryz.prog 132 71 v132 [.t 4] := ⟨Go.Proofs.Tryz.f132, dl [(0, [4]), (1, [10, 11, 12, 9, 13, 14]), (2, [16, 17, 18, 15, 19, 20]), (3, [21, 22, 23, 24, 25, 26, 27, 28, 29, 30, 31, 32, 33, 34, 35]), (5, [37, 38, 39, 40, 41, 42, 43, 44, 45, 46, 47, 48, 49, 50, 51, 52, 53, 54, 55, 56, 57, 58, 59, 60, 61, 62, 63, 64, 65, 66, 67, 68, 69, 70])], Go.Proofs.Tryz.func132, by kernel_rfl, by kernel_rfl, by kernel_rfl, by kernel_rfl⟩
def v80 : VC := .seq (.reg false [⟨some 4, .as (.c (.lit (.bool false))), none⟩] [4]) (.seq (.reg false [⟨some 9, .mv (.t 0), none⟩, ⟨some 10, .call false 57 [(.t 9)], none⟩, ⟨some 8, .mv (.t 10), none⟩, ⟨some 11, .ext (.t 8) 0, none⟩, ⟨some 12, .ext (.t 8) 1, none⟩, ⟨some 5, .alloc (.agg [(.lit (.int .i64 0)), (.lit (.int .i64 0)), (.lit (.int .i64 0)), (.sl ⟨.nl, true⟩ 1 [])]), none⟩, ⟨none, .st 4 (.t 5) (.t 11), none⟩, ⟨some 6, .as (.t 12), none⟩] [9, 10, 8, 11, 12]) (.seq (.seq (.reg false [⟨some 7, .as (.c (.lit (.int .i64 0))), none⟩] []) (.block 0 (.loop (.seq (.seq (.reg false [⟨some 13, .mv (.t 7), none⟩, ⟨some 14, .mv (.t 1), none⟩, ⟨some 15, .len false (.t 14), none⟩, ⟨some 16, .bin .lss 0 (.t 13) (.t 15), none⟩] [13, 14, 15]) (.cond (.t 16) (.skip) (.exit 0))) (.seq (.block 1 (.seq (.reg true [⟨some 19, .mv (.t 6), none⟩, ⟨some 20, .mv (.t 19), none⟩, ⟨some 21, .mv (.t 1), (some (20, true))⟩, ⟨some 22, .call true 131 [(.t 21)], (some (20, true))⟩, ⟨some 23, .pick (.t 20) (.t 22) (.c (.lit (.bool false))), none⟩, ⟨some 24, .mv (.t 23), none⟩, ⟨some 25, .mv (.t 1), (some (24, true))⟩, ⟨some 26, .mv (.t 7), (some (24, true))⟩, ⟨some 27, .ia 2 (.t 25) (.t 26), (some (24, true))⟩, ⟨some 28, .ld true 2 (.t 27), (some (24, true))⟩, ⟨some 29, .ld true 4 (.t 5), (some (24, true))⟩, ⟨some 30, .call true 132 [(.t 28), (.t 29)], (some (24, true))⟩, ⟨some 31, .pick (.t 24) (.t 30) (.c (.lit (.bool false))), none⟩] [19, 20, 21, 22, 23, 24, 25, 26, 27, 28, 29, 30]) (.cond (.t 31) (.seq (.reg false [⟨some 4, .as (.c (.lit (.bool true))), none⟩] []) (.ret)) (.skip)))) (.reg false [⟨some 17, .mv (.t 7), none⟩, ⟨some 18, .bin .add 0 (.t 17) (.c (.lit (.int .i64 1))), none⟩, ⟨some 7, .as (.t 18), none⟩] [17, 18])))))) (.seq (.reg false [⟨some 4, .as (.c (.lit (.bool false))), none⟩] []) (.ret))))
theorem is80 : Is Go.Proofs.Tryz.prog 80 32 v80 [.t 4] := ⟨Go.Proofs.Tryz.f80, dl [(0, [4]), (1, [9, 10, 8, 11, 12]), (3, [13, 14, 15]), (5, [19, 20, 21, 22, 23, 24, 25, 26, 27, 28, 29, 30]), (4, [17, 18])], Go.Proofs.Tryz.func80, by kernel_rfl, by kernel_rfl, by kernel_rfl, by kernel_rfl⟩
def v87 : VC := .seq (.reg false [⟨some 4, .as (.c (.lit (.bool false))), none⟩] [4]) (.seq (.reg false [⟨some 12, .mv (.t 0), none⟩, ⟨some 13, .call false 107 [(.t 12)], none⟩, ⟨some 11, .mv (.t 13), none⟩, ⟨some 14, .ext (.t 11) 0, none⟩, ⟨some 15, .ext (.t 11) 1, none⟩, ⟨some 5, .alloc (.agg [(.lit (.int .i64 0)), (.lit (.int .i64 0)), (.lit (.int .i64 0)), (.sl ⟨.nl, true⟩ 1 [])]), none⟩, ⟨none, .st 4 (.t 5) (.t 14), none⟩, ⟨some 6, .as (.t 15), none⟩] [12, 13, 11, 14, 15]) (.seq (.seq (.reg false [⟨some 16, .mv (.t 6), none⟩, ⟨some 17, .un .not (.t 16), none⟩, ⟨some 18, .mv (.t 17), none⟩, ⟨some 19, .mv (.t 1), (some (18, false))⟩, ⟨some 20, .call false 141 [(.t 19)], (some (18, false))⟩, ⟨some 21, .un .not (.t 20), (some (18, false))⟩, ⟨some 22, .pick (.t 18) (.c (.lit (.bool true))) (.t 21), none⟩] [16, 17, 18, 19, 20, 21]) (.cond (.t 22) (.seq (.reg false [⟨some 4, .as (.c (.lit (.bool false))), none⟩] []) (.ret)) (.skip))) (.seq (.seq (.reg false [⟨some 23, .mv (.t 1), none⟩, ⟨some 24, .len false (.t 23), none⟩, ⟨some 25, .mv (.c (.lit (.int .i64 0))), none⟩] []) (.block 0 (.loop (.seq (.reg false [⟨some 26, .bin .lss 0 (.t 25) (.t 24), none⟩] []) (.seq (.cond (.t 26) (.skip) (.exit 0)) (.seq (.block 1 (.seq (.reg false [⟨some 27, .ia 2 (.t 23) (.t 25), none⟩, ⟨some 28, .ld true 2 (.t 27), none⟩, ⟨some 8, .alloc (.agg [(.lit (.string (by8 ""))), (.lit (.string (by8 "")))]), none⟩, ⟨none, .st 2 (.t 8) (.t 28), none⟩] [27, 28]) (.seq (.seq (.reg false [⟨some 29, .fa 0 (.t 8), none⟩, ⟨some 30, .ld false 1 (.t 29), none⟩, ⟨some 31, .bin .neq 0 (.t 30) (.c (.lit (.string (by8 "")))), none⟩, ⟨some 32, .mv (.t 31), none⟩, ⟨some 33, .mv (.t 0), (some (32, true))⟩, ⟨some 34, .fa 0 (.t 8), (some (32, true))⟩, ⟨some 35, .ld false 1 (.t 34), (some (32, true))⟩, ⟨some 36, .call false 62 [(.t 33), (.t 35)], (some (32, true))⟩, ⟨some 37, .bin .lss 0 (.t 36) (.c (.lit (.int .i64 0))), (some (32, true))⟩, ⟨some 38, .pick (.t 32) (.t 37) (.c (.lit (.bool false))), none⟩, ⟨some 39, .mv (.t 38), none⟩, ⟨some 40, .fa 1 (.t 8), (some (39, false))⟩, ⟨some 41, .ld false 1 (.t 40), (some (39, false))⟩, ⟨some 42, .bin .neq 0 (.t 41) (.c (.lit (.string (by8 "")))), (some (39, false))⟩, ⟨some 43, .mv (.t 42), (some (39, false))⟩, ⟨some 44, .mv (.t 0), (some (43, true))⟩, ⟨some 45, .fa 1 (.t 8), (some (43, true))⟩, ⟨some 46, .ld false 1 (.t 45), (some (43, true))⟩, ⟨some 47, .call false 62 [(.t 44), (.t 46)], (some (43, true))⟩, ⟨some 48, .bin .geq 0 (.t 47) (.c (.lit (.int .i64 0))), (some (43, true))⟩, ⟨some 49, .pick (.t 43) (.t 48) (.c (.lit (.bool false))), (some (39, false))⟩, ⟨some 50, .pick (.t 39) (.c (.lit (.bool true))) (.t 49), none⟩] [29, 30, 31, 32, 33, 34, 35, 36, 37, 38, 39, 40, 41, 42, 43, 44, 45, 46, 47, 48, 49]) (.cond (.t 50) (.exit 1) (.skip))) (.seq (.reg false [⟨some 52, .fa 0 (.t 8), none⟩, ⟨some 53, .ld false 1 (.t 52), none⟩, ⟨some 54, .call false 107 [(.t 53)], none⟩, ⟨some 51, .mv (.t 54), none⟩, ⟨some 55, .ext (.t 51) 0, none⟩, ⟨some 56, .ext (.t 51) 1, none⟩, ⟨some 9, .alloc (.agg [(.lit (.int .i64 0)), (.lit (.int .i64 0)), (.lit (.int .i64 0)), (.sl ⟨.nl, true⟩ 1 [])]), none⟩, ⟨none, .st 4 (.t 9) (.t 55), none⟩, ⟨some 10, .as (.t 56), none⟩] [52, 53, 54, 51, 55, 56, 10]) (.seq (.reg false [⟨some 57, .fa 3 (.t 5), none⟩, ⟨some 58, .ld false 1 (.t 57), none⟩, ⟨some 59, .len false (.t 58), none⟩, ⟨some 60, .bin .eql 0 (.t 59) (.c (.lit (.int .i64 0))), none⟩, ⟨some 61, .mv (.t 60), none⟩, ⟨some 62, .fa 3 (.t 9), (some (61, false))⟩, ⟨some 63, .ld false 1 (.t 62), (some (61, false))⟩, ⟨some 64, .len false (.t 63), (some (61, false))⟩, ⟨some 65, .bin .gtr 0 (.t 64) (.c (.lit (.int .i64 0))), (some (61, false))⟩, ⟨some 66, .mv (.t 65), (some (61, false))⟩, ⟨some 67, .fa 0 (.t 9), (some (66, true))⟩, ⟨some 68, .ld false 1 (.t 67), (some (66, true))⟩, ⟨some 69, .fa 0 (.t 5), (some (66, true))⟩, ⟨some 70, .ld false 1 (.t 69), (some (66, true))⟩, ⟨some 71, .bin .eql 0 (.t 68) (.t 70), (some (66, true))⟩, ⟨some 72, .pick (.t 66) (.t 71) (.c (.lit (.bool false))), (some (61, false))⟩, ⟨some 73, .mv (.t 72), (some (61, false))⟩, ⟨some 74, .fa 1 (.t 9), (some (73, true))⟩, ⟨some 75, .ld false 1 (.t 74), (some (73, true))⟩, ⟨some 76, .fa 1 (.t 5), (some (73, true))⟩, ⟨some 77, .ld false 1 (.t 76), (some (73, true))⟩, ⟨some 78, .bin .eql 0 (.t 75) (.t 77), (some (73, true))⟩, ⟨some 79, .pick (.t 73) (.t 78) (.c (.lit (.bool false))), (some (61, false))⟩, ⟨some 80, .mv (.t 79), (some (61, false))⟩, ⟨some 81, .fa 2 (.t 9), (some (80, true))⟩, ⟨some 82, .ld false 1 (.t 81), (some (80, true))⟩, ⟨some 83, .fa 2 (.t 5), (some (80, true))⟩, ⟨some 84, .ld false 1 (.t 83), (some (80, true))⟩, ⟨some 85, .bin .eql 0 (.t 82) (.t 84), (some (80, true))⟩, ⟨some 86, .pick (.t 80) (.t 85) (.c (.lit (.bool false))), (some (61, false))⟩, ⟨some 87, .pick (.t 61) (.c (.lit (.bool true))) (.t 86), none⟩] [57, 58, 59, 60, 61, 62, 63, 64, 65, 66, 67, 68, 69, 70, 71, 72, 73, 74, 75, 76, 77, 78, 79, 80, 81, 82, 83, 84, 85, 86]) (.cond (.t 87) (.seq (.reg false [⟨some 4, .as (.c (.lit (.bool true))), none⟩] []) (.ret)) (.skip))))))) (.reg false [⟨some 88, .bin .add 0 (.t 25) (.c (.lit (.int .i64 1))), none⟩, ⟨some 25, .mv (.t 88), none⟩] [88]))))))) (.seq (.reg false [⟨some 4, .as (.c (.lit (.bool false))), none⟩] []) (.ret)))))
theorem is87 : Is Go.Proofs.Tryz.prog 87 89 v87 [.t 4] := ⟨Go.Proofs.Tryz.f87, dl [(0, [4]), (1, [12, 13, 11, 14, 15]), (2, [16, 17, 18, 19, 20, 21]), (6, [27, 28]), (7, [29, 30, 31, 32, 33, 34, 35, 36, 37, 38, 39, 40, 41, 42, 43, 44, 45, 46, 47, 48, 49]), (8, [52, 53, 54, 51, 55, 56, 10]), (9, [57, 58, 59, 60, 61, 62, 63, 64, 65, 66, 67, 68, 69, 70, 71, 72, 73, 74, 75, 76, 77, 78, 79, 80, 81, 82, 83, 84, 85, 86]), (11, [88])], Go.Proofs.Tryz.func87, by kernel_rfl, by kernel_rfl, by kernel_rfl, by kernel_rfl⟩
/-- a contract told less finely -/
theorem FxK.mono {E : Env} {K : Nat → Prop} {f : Nat} {bx bx' : List (List AV)} {args : List AV} {r r' : AV} (hF : FxK E K f bx args bx' r) (ho : resOk r' = true) (h : ∀ (x : X) (base : Nat) (v : Value), Rel x base v r → Rel x base v r') : FxK E K f bx args bx' r' :=
  ⟨hF.1, ho, fun x w vs a1 a2 a3 a4 a5 a6 a7 a8 a9 a10 => (hF.2.2 x w vs a1 a2 a3 a4 a5 a6 a7 a8 a9 a10).mono fun e w' ⟨v, x', h1, h2, h3⟩ => ⟨v, x', h1, h _ _ _ h2, h3⟩⟩
theorem Rel.tupMap {x : X} {b : Nat} {v : Value} {cs cs' : List AV} (hl : cs'.length = cs.length) (h : ∀ (j : Nat) (c c' : AV) (u : Value), cs[j]? = some c → cs'[j]? = some c' → Rel x b u c → Rel x b u c') (r : Rel x b v (.tup cs)) : Rel x b v (.tup cs') := by
  cases r with
  | tup vs _ hs hr =>
    refine .tup vs cs' (by rw [hl]; exact hs) fun j v c hv hc => ?_
    have hj : j < cs.length := by have := (List.getElem?_eq_some_iff.1 hc).1; omega
    exact h j _ c v (List.getElem?_eq_getElem hj) hc (hr j v _ hv (List.getElem?_eq_getElem hj))
theorem Rel.aggMap {x : X} {b : Nat} {v : Value} {cs cs' : List AV} (hl : cs'.length = cs.length) (h : ∀ (j : Nat) (c c' : AV) (u : Value), cs[j]? = some c → cs'[j]? = some c' → Rel x b u c → Rel x b u c') (r : Rel x b v (.agg cs)) : Rel x b v (.agg cs') := by
  cases r with
  | agg vs _ hs hr =>
    refine .agg vs cs' (by rw [hl]; exact hs) fun j v c hv hc => ?_
    have hj : j < cs.length := by have := (List.getElem?_eq_some_iff.1 hc).1; omega
    exact h j _ c v (List.getElem?_eq_getElem hj) hc (hr j v _ hv (List.getElem?_eq_getElem hj))
theorem Rel.noAp {x : X} {b : Nat} {v : Value} {ap : Ap} {fr : Bool} {sz : Nat} {xs : List AV} (r : Rel x b v (.sl ⟨ap, fr⟩ sz xs)) : Rel x b v (.sl ⟨.no, fr⟩ sz xs) := by
  have key : ∀ {G : Gh} {N : Nat → Option (Nat × Nat)} {v : Value}, RepD G N v (.sl ⟨ap, fr⟩ sz xs) → RepD G N v (.sl ⟨.no, fr⟩ sz xs) := by
    intro G N v h
    cases h with
    | sl A n cap _ _ _ b o f h1 h2 h3 h4 h5 h6 h7 => exact .sl A n cap _ _ _ b o f h1 h2 h3 h4 h5 h6 fun k hk => by cases hk
  cases r with
  | sl v _ _ _ h1 h2 h3 => exact .sl _ _ _ _ (key h1) (fun hf => key (h2 hf)) trivial
/-- a version as it is read, its row's mark forgotten -/
noncomputable def ver0 (s : ByteArray) : AV := match readVer s with
  | some v => .tup [.agg [.lit (.int .i64 v.maj), .lit (.int .i64 v.min), .lit (.int .i64 v.pat), .sl ⟨.no, true⟩ 1 (v.pre.map fun x => .lit (.string x))], .lit (.bool true)]
  | none => .tup [.agg [.lit (.int .i64 0), .lit (.int .i64 0), .lit (.int .i64 0), .sl ⟨.no, true⟩ 1 []], .lit (.bool false)]
theorem ver0_ok (s : ByteArray) : resOk (ver0 s) = true := by unfold ver0; cases readVer s <;> rfl
theorem ver0_of (s : ByteArray) (x : X) (b : Nat) (v : Value) (r : Rel x b v (verRes s)) : Rel x b v (ver0 s) := by
  have key : ∀ (a1 a2 a3 d : AV) (ap : Ap) (xs : List AV), Rel x b v (.tup [.agg [a1, a2, a3, .sl ⟨ap, true⟩ 1 xs], d]) → Rel x b v (.tup [.agg [a1, a2, a3, .sl ⟨.no, true⟩ 1 xs], d]) := by
    intro a1 a2 a3 d ap xs
    refine Rel.tupMap rfl fun j c c' u hc hc' => ?_
    match j with
    | 0 =>
      obtain rfl := Option.some.inj hc
      obtain rfl := Option.some.inj hc'
      refine Rel.aggMap rfl fun j c c' u hc hc' => ?_
      match j with
      | 0 => obtain rfl := Option.some.inj hc; obtain rfl := Option.some.inj hc'; exact id
      | 1 => obtain rfl := Option.some.inj hc; obtain rfl := Option.some.inj hc'; exact id
      | 2 => obtain rfl := Option.some.inj hc; obtain rfl := Option.some.inj hc'; exact id
      | 3 => obtain rfl := Option.some.inj hc; obtain rfl := Option.some.inj hc'; exact Rel.noAp
      | j + 4 => simp at hc
    | 1 => obtain rfl := Option.some.inj hc; obtain rfl := Option.some.inj hc'; exact id
    | j + 2 => simp at hc
  unfold verRes at r
  unfold ver0
  cases hr : readVer s with
  | none => rw [hr] at r; exact key _ _ _ _ _ _ r
  | some w => rw [hr] at r; exact key _ _ _ _ _ _ r
theorem ver_b {s : ByteArray} {v : Ver} (h : readVer s = some v) : v.pre.length ≤ 5 ∧ ∀ p ∈ v.pre, preOk p = true ∧ p.size ≤ 20 := by
  obtain ⟨h1, _⟩ := ver_back h
  exact ⟨(verOk_b h1).len, fun p hp => ⟨verOk_pre h1 p hp, (verOk_b h1).pre p hp⟩⟩
theorem end_ver {s : ByteArray} (h : endOk s = true) (h2 : s ≠ by8 "") : ∃ v, readVer s = some v := by
  rw [endOk, Bool.or_eq_true, decide_eq_true_eq] at h
  rcases h with h | h
  · exact Option.isSome_iff_exists.1 h
  · exact absurd h h2
theorem readVer_nil : readVer (by8 "") = none := by rw [readVer, cand_nil]; rfl
section
variable {E : Env} (hE : E.P = Go.Proofs.Tryz.prog) (hZ : ∀ w, E.K w → KZ w)
include hE
theorem specVer0_fx (s : ByteArray) (hs : s.size ≤ 1099511627) : Fx E 57 [] [.lit (.string s)] [] (ver0 s) := FxK.mono (specReadVer_fx hE s hs) (ver0_ok s) (ver0_of s)
include hZ in
theorem implVer0_fx (s : ByteArray) (hs : s.size ≤ 1099511627) : Fx E 107 [] [.lit (.string s)] [] (ver0 s) := FxK.mono (implReadVer_fx hE hZ s hs) (ver0_ok s) (ver0_of s)
include hZ in
theorem cmpTexts_fx (a b : ByteArray) (va vb : Ver) (ha : readVer a = some va) (hb : readVer b = some vb) (za : a.size ≤ 1099511627) (zb : b.size ≤ 1099511627) : Fx E 62 [] [.lit (.string a), .lit (.string b)] [] (.lit (.int .i64 (cmpV va vb))) := by
  have h1 := implVer0_fx hE hZ a za
  have h2 := implVer0_fx hE hZ b zb
  obtain ⟨b1, b2⟩ := ver_b ha
  obtain ⟨c1, c2⟩ := ver_b hb
  rw [ver0, ha] at h1
  rw [ver0, hb] at h2
  refine (is62.to hE).fx [] (by simp) rfl rfl ?_
  simp [v62]
  refine vcall_go h1 (by simp) (by simp) (by simp) (by simp) ?_
  simp [okC, putElem, upd]
  refine vcall_go h2 (by simp) (by simp) (by simp) (by simp) ?_
  simp [okC, putElem, upd]
  refine vcall_go (implCmp_fx hE va vb (by omega) (by omega) (fun p hp => ⟨(b2 p hp).1, by have := (b2 p hp).2; omega⟩) (fun p hp => ⟨(c2 p hp).1, by have := (c2 p hp).2; omega⟩)) (by simp [Ver.av, ro]) (by simp) (by simp) (by simp) ?_
  simp
  exact Fin_ret rfl rfl
set_option maxHeartbeats 2000000 in
theorem takes_fx (l h : ByteArray) (s : ByteArray) (v : Ver) (hv : readVer s = some v) (zl : l.size ≤ 1099511627) (zh : h.size ≤ 1099511627) : Fx E 132 [] [bndV l h, .agg v.av] [] (.lit (.bool (takesB v (l, h)))) := by
  have h1 := specVer0_fx hE l zl
  have h2 := specVer0_fx hE h zh
  obtain ⟨b1, b2⟩ := ver_b hv
  have hva : v.av = [.lit (.int .i64 v.maj), .lit (.int .i64 v.min), .lit (.int .i64 v.pat), .sl ro 1 (v.pre.map fun x => .lit (.string x))] := rfl
  refine (is132.to hE).fx [] (by simp [bndV, hva]) rfl rfl ?_
  simp [v132, bndV, hva, okC]
  refine vcall_go h1 (by simp) (by simp) (by simp) (by simp) ?_
  unfold ver0
  cases hl : readVer l with
  | none =>
    have e1 : lowB? l v = false := by rw [lowB?, hl]
    have e3 : sameB l v = false := by rw [sameB, hl]
    simp [okC, putElem, upd]
    refine vcall_go h2 (by simp) (by simp) (by simp) (by simp) ?_
    unfold ver0
    cases hh : readVer h with
    | none =>
      have e2 : highB h v = false := by rw [highB, hh]
      simp [okC, putElem, upd]
      by_cases hp : v.pre = []
      · simp [hp]
        exact Fin_ret rfl (by simp [takesB, e1, e2, e3, hp, reC])
      · simp [hp]
        exact Fin_ret rfl (by simp [takesB, e1, e2, e3, hp, reC])
    | some hv' =>
      obtain ⟨d1, d2⟩ := ver_b hh
      have e2 : highB h v = decide (0 ≤ cmpV v hv') := by rw [highB, hh]
      simp [okC, putElem, upd]
      refine vcall_go (specCmp_fx hE v hv' (by omega) (by omega) (fun p hp => by have := (b2 p hp).2; omega) (fun p hp => by have := (d2 p hp).2; omega)) (by simp [Ver.av, ro]) (by simp) (by simp) (by simp) ?_
      simp
      by_cases c2 : 0 ≤ cmpV v hv'
      · simp [c2]
        exact Fin_ret rfl (by simp [takesB, e1, e2, c2, reC])
      · simp [c2]
        by_cases hp : v.pre = []
        · simp [hp]
          exact Fin_ret rfl (by simp [takesB, e1, e2, e3, hp, c2, reC])
        · simp [hp]
          exact Fin_ret rfl (by simp [takesB, e1, e2, e3, hp, c2, reC])
  | some lv =>
    obtain ⟨c1, c2⟩ := ver_b hl
    have e1 : lowB? l v = decide (cmpV v lv < 0) := by rw [lowB?, hl]
    have e3 : sameB l v = (decide (lv.pre ≠ []) && decide (lv.maj = v.maj) && decide (lv.min = v.min) && decide (lv.pat = v.pat)) := by rw [sameB, hl]
    simp [okC, putElem, upd]
    refine vcall_go h2 (by simp) (by simp) (by simp) (by simp) ?_
    unfold ver0
    have hcl := specCmp_fx hE v lv (by omega) (by omega) (fun p hp => by have := (b2 p hp).2; omega) (fun p hp => by have := (c2 p hp).2; omega)
    cases hh : readVer h with
    | none =>
      have e2 : highB h v = false := by rw [highB, hh]
      simp [okC, putElem, upd]
      refine vcall_go hcl (by simp [Ver.av, ro]) (by simp) (by simp) (by simp) ?_
      simp
      by_cases k1 : cmpV v lv < 0
      · simp [k1]
        exact Fin_ret rfl (by simp [takesB, e1, k1, reC])
      · simp [k1]
        by_cases hp : v.pre = []
        · simp [hp]
          exact Fin_ret rfl (by simp [takesB, e1, e2, e3, hp, k1, reC])
        · simp [hp]
          by_cases p1 : lv.pre = []
          · simp [p1]
            exact Fin_ret rfl (by simp [takesB, e1, e2, e3, hp, p1, k1, reC])
          · have p1' := List.length_pos_iff.2 p1
            simp [p1, p1']
            by_cases p2 : lv.maj = v.maj
            · simp [p2]
              by_cases p3 : lv.min = v.min
              · simp [p3]
                by_cases p4 : lv.pat = v.pat
                · simp [p4]
                  exact Fin_ret rfl (by simp [takesB, e1, e2, e3, hp, p1, p2, p3, p4, k1, reC])
                · simp [p4]
                  exact Fin_ret rfl (by simp [takesB, e1, e2, e3, hp, p1, p2, p3, p4, k1, reC])
              · simp [p3]
                exact Fin_ret rfl (by simp [takesB, e1, e2, e3, hp, p1, p2, p3, k1, reC])
            · simp [p2]
              exact Fin_ret rfl (by simp [takesB, e1, e2, e3, hp, p1, p2, k1, reC])
    | some hv' =>
      obtain ⟨d1, d2⟩ := ver_b hh
      have e2 : highB h v = decide (0 ≤ cmpV v hv') := by rw [highB, hh]
      have hch := specCmp_fx hE v hv' (by omega) (by omega) (fun p hp => by have := (b2 p hp).2; omega) (fun p hp => by have := (d2 p hp).2; omega)
      simp [okC, putElem, upd]
      refine vcall_go hcl (by simp [Ver.av, ro]) (by simp) (by simp) (by simp) ?_
      simp
      by_cases k1 : cmpV v lv < 0
      · simp [k1]
        exact Fin_ret rfl (by simp [takesB, e1, k1, reC])
      · simp [k1]
        refine vcall_go hch (by simp [Ver.av, ro]) (by simp) (by simp) (by simp) ?_
        simp
        by_cases k2 : 0 ≤ cmpV v hv'
        · simp [k2]
          exact Fin_ret rfl (by simp [takesB, e1, e2, k1, k2, reC])
        · simp [k2]
          by_cases hp : v.pre = []
          · simp [hp]
            exact Fin_ret rfl (by simp [takesB, e1, e2, e3, hp, k1, k2, reC])
          · simp [hp]
            by_cases p1 : lv.pre = []
            · simp [p1]
              exact Fin_ret rfl (by simp [takesB, e1, e2, e3, hp, p1, k1, k2, reC])
            · have p1' := List.length_pos_iff.2 p1
              simp [p1, p1']
              by_cases p2 : lv.maj = v.maj
              · simp [p2]
                by_cases p3 : lv.min = v.min
                · simp [p3]
                  by_cases p4 : lv.pat = v.pat
                  · simp [p4]
                    exact Fin_ret rfl (by simp [takesB, e1, e2, e3, hp, p1, p2, p3, p4, k1, k2, reC])
                  · simp [p4]
                    exact Fin_ret rfl (by simp [takesB, e1, e2, e3, hp, p1, p2, p3, p4, k1, k2, reC])
                · simp [p3]
                  exact Fin_ret rfl (by simp [takesB, e1, e2, e3, hp, p1, p2, p3, k1, k2, reC])
              · simp [p2]
                exact Fin_ret rfl (by simp [takesB, e1, e2, e3, hp, p1, p2, k1, k2, reC])
set_option maxHeartbeats 1000000 in
theorem specIn_fx (s : ByteArray) (r : List (ByteArray × ByteArray)) (hs : s.size ≤ 1099511627) (hl : r.length ≤ 1048576) (hx : ∀ b ∈ r, b.1.size ≤ 1073741824 ∧ b.2.size ≤ 1073741824) : Fx E 80 [] [.lit (.string s), .sl ro 2 (r.map fun b => bndV b.1 b.2)] [] (.lit (.bool (inRng s r))) := by
  have h1 := specVer0_fx hE s hs
  refine (is80.to hE).fx [] (by simp) rfl rfl ?_
  simp [v80]
  refine vcall_go h1 (by simp) (by simp) (by simp) (by simp) ?_
  unfold ver0
  cases hv : readVer s with
  | none =>
    have e0 : inRng s r = false := by rw [inRng, hv]
    simp [okC, putElem, upd]
    refine X_loop (τ := Nat) (fun i => ⟨[(1, .sl ro 2 (r.map fun b => bndV b.1 b.2)), (5, .ptr 1000000000005 0 0), (6, .lit (.bool false)), (7, .lit (.int .i64 i))], [(1000000000005, [.agg [.lit (.int .i64 0), .lit (.int .i64 0), .lit (.int .i64 0), .sl ⟨.no, true⟩ 1 []]])]⟩) (fun i => i ≤ r.length) (fun i => r.length - i) 0 (by simp) (Wk.both (by simp [wkL, wkV.same]) (by simp [wkB])) ?_
    rintro i hi
    simp
    by_cases hlt : i < r.length
    · simp [hlt]
      exact ⟨i + 1, by omega, by omega, Wk.both (by simp [wkL, wkV.same]; rw [wrapN (by omega)]; exact wkV.same _) (by simp [wkB])⟩
    · simp [hlt]
      exact Fin_ret rfl (by rw [e0]; rfl)
  | some v =>
    have e0 : inRng s r = (rngOk r && r.any (takesB v)) := by rw [inRng, hv]
    simp [okC, putElem, upd]
    refine X_loop (τ := Nat) (fun i => ⟨[(1, .sl ro 2 (r.map fun b => bndV b.1 b.2)), (5, .ptr 1000000000005 0 0), (6, .lit (.bool true)), (7, .lit (.int .i64 i))], [(1000000000005, [.agg [.lit (.int .i64 v.maj), .lit (.int .i64 v.min), .lit (.int .i64 v.pat), .sl ⟨.no, true⟩ 1 (v.pre.map fun x => .lit (.string x))]])]⟩) (fun i => i ≤ r.length ∧ (rngOk r = true → ∀ j (h : j < r.length), j < i → takesB v r[j] = false)) (fun i => r.length - i) 0 (by simp) (Wk.both (by simp [wkL, wkV.same]) (by simp [wkB])) ?_
    rintro i ⟨hi, hall⟩
    simp
    by_cases hlt : i < r.length
    · obtain ⟨g1, g2⟩ := hx _ (List.getElem_mem hlt)
      simp [hlt]
      refine vcall_go (specRngOk_fx hE r hl hx) (by simp) (by simp) (by simp) (by simp) ?_
      cases c1 : rngOk r
      · simp
        exact ⟨i + 1, by omega, by omega, Wk.both (by simp [wkL, wkV.same]; rw [wrapN (by omega)]; exact wkV.same _) (by simp [wkB])⟩
      · simp [hlt, bndV, mkF]
        refine vcall_go (takes_fx hE r[i].1 r[i].2 s v hv (by omega) (by omega)) (by simp [bndV, Ver.av, ro]) (by simp) (by simp) (by simp) ?_
        cases c2 : takesB v r[i]
        · have c2' : takesB v (r[i].1, r[i].2) = false := c2
          simp [c2']
          refine ⟨i + 1, ⟨by omega, fun j h hj => ?_⟩, by omega, Wk.both (by simp [wkL, wkV.same, bndV]; rw [wrapN (by omega)]; exact wkV.same _) (by simp [wkB])⟩
          rcases Nat.lt_succ_iff_lt_or_eq.1 hj with h3 | rfl
          · exact hall c1 j h h3
          · exact c2
        · have c2' : takesB v (r[i].1, r[i].2) = true := c2
          simp [c2']
          have : r.any (takesB v) = true := List.any_eq_true.2 ⟨r[i], List.getElem_mem hlt, c2⟩
          exact Fin_ret rfl (by rw [e0, c1, this]; rfl)
    · obtain rfl : i = r.length := by omega
      simp
      refine Fin_ret rfl ?_
      have : (rngOk r && r.any (takesB v)) = false := by
        cases c1 : rngOk r
        · rfl
        · have : r.any (takesB v) = false := by
            rw [List.any_eq_false]
            intro x hx
            obtain ⟨j, hj, rfl⟩ := List.getElem_of_mem hx
            simp [hall c1 j hj hj]
          rw [this]; rfl
      rw [e0, this]; rfl
include hZ in
set_option maxHeartbeats 4000000 in
theorem implIn_fx (s : ByteArray) (r : List (ByteArray × ByteArray)) (hs : s.size ≤ 1099511627) (hl : r.length ≤ 1048576) (hx : ∀ b ∈ r, b.1.size ≤ 1073741824 ∧ b.2.size ≤ 1073741824) : Fx E 87 [] [.lit (.string s), .sl ro 2 (r.map fun b => bndV b.1 b.2)] [] (.lit (.bool (inRng s r))) := by
  have h1 := implVer0_fx hE hZ s hs
  refine (is87.to hE).fx [] (by simp) rfl rfl ?_
  simp [v87]
  refine vcall_go h1 (by simp) (by simp) (by simp) (by simp) ?_
  unfold ver0
  cases hv : readVer s with
  | none =>
    have e0 : inRng s r = false := by rw [inRng, hv]
    simp [okC, putElem, upd]
    exact Fin_ret rfl (by rw [e0]; rfl)
  | some v =>
    have e0 : inRng s r = (rngOk r && r.any (takesB v)) := by rw [inRng, hv]
    simp [okC, putElem, upd]
    refine vcall_go (implRngOk_fx hE hZ r hl hx) (by simp) (by simp) (by simp) (by simp) ?_
    cases c1 : rngOk r
    · simp
      exact Fin_ret rfl (by rw [e0, c1]; rfl)
    have hend : ∀ j (h : j < r.length), endOk r[j].1 = true ∧ endOk r[j].2 = true := by
      intro j h
      rw [rngOk, Bool.and_eq_true] at c1
      have := List.all_eq_true.1 c1.1 j (List.mem_range.2 h)
      unfold bndOk at this
      rw [show r.getD j (by8 "", by8 "") = r[j] by simp [List.getD, h], Bool.and_eq_true] at this
      exact this
    simp
    refine X_loop (τ := Nat) (fun i => ⟨[(0, .lit (.string s)), (5, .ptr 1000000000005 0 0), (23, .sl ro 2 (r.map fun b => bndV b.1 b.2)), (24, .lit (.int .i64 r.length)), (25, .lit (.int .i64 i))], [(1000000000005, [.agg [.lit (.int .i64 v.maj), .lit (.int .i64 v.min), .lit (.int .i64 v.pat), .sl ⟨.no, true⟩ 1 (v.pre.map fun x => .lit (.string x))]])]⟩) (fun i => i ≤ r.length ∧ (∀ j (h : j < r.length), j < i → takesB v r[j] = false)) (fun i => r.length - i) 0 (by simp) (Wk.both (by simp [wkL, wkV.same]) (by simp [wkB])) ?_
    rintro i ⟨hi, hall⟩
    simp
    by_cases hlt : i < r.length
    · obtain ⟨g1, g2⟩ := hx _ (List.getElem_mem hlt)
      obtain ⟨d1, d2⟩ := hend i hlt
      obtain ⟨⟨l, h⟩, hb⟩ : ∃ b, r[i] = b := ⟨_, rfl⟩
      have hnx : takesB v (l, h) = false → ∀ j (k : j < r.length), j < i + 1 → takesB v r[j] = false := by
        intro hn j k hj
        rcases Nat.lt_succ_iff_lt_or_eq.1 hj with h3 | rfl
        · exact hall j k h3
        · rw [hb]; exact hn
      have hyes : takesB v (l, h) = true → inRng s r = true := fun hy => by
        rw [e0, c1, List.any_eq_true.2 ⟨r[i], List.getElem_mem hlt, by rw [hb]; exact hy⟩]; rfl
      rw [hb] at g1 g2 d1 d2
      simp only at g1 g2 d1 d2
      simp [hlt, hb, bndV, mkF, mkF.mkL, okC, putElem, upd]

      by_cases k1 : l = by8 ""
      · have e1 : lowB? l v = false := by rw [lowB?, k1, readVer_nil]
        have e3 : sameB l v = false := by rw [sameB, k1, readVer_nil]
        have hl0 := implVer0_fx hE hZ l (by omega)
        rw [ver0, k1, readVer_nil] at hl0
        dsimp only at hl0
        simp [k1]
        by_cases k2 : h = by8 ""
        · have e2 : highB h v = false := by rw [highB, k2, readVer_nil]
          simp [k2]
          refine vcall_go hl0 (by simp) (by simp) (by simp) (by simp) ?_
          simp [okC, putElem, upd]
          by_cases hp : v.pre = []
          · simp [hp]
            exact Fin_ret rfl (by rw [hyes (by simp [takesB, e1, e3, e2, hp])]; rfl)
          · simp [hp]
            exact ⟨i + 1, ⟨by omega, hnx (by simp [takesB, e1, e3, e2, hp])⟩, by omega, Wk.both (by simp [wkL, wkV.same, bndV]; rw [wrapN (by omega)]; exact wkV.same _) (by simp [wkB])⟩
        · obtain ⟨hv', hh⟩ := end_ver d2 k2
          have e2 : highB h v = decide (0 ≤ cmpV v hv') := by rw [highB, hh]
          simp [k2]
          refine vcall_go (cmpTexts_fx hE hZ s h v hv' hv hh hs (by omega)) (by simp) (by simp) (by simp) (by simp) ?_
          simp
          by_cases k3 : 0 ≤ cmpV v hv'
          · simp [k3]
            exact ⟨i + 1, ⟨by omega, hnx (by simp [takesB, e1, e3, e2, k3])⟩, by omega, Wk.both (by simp [wkL, wkV.same, bndV]; rw [wrapN (by omega)]; exact wkV.same _) (by simp [wkB])⟩
          · simp [k3]
            refine vcall_go hl0 (by simp) (by simp) (by simp) (by simp) ?_
            simp [okC, putElem, upd]
            by_cases hp : v.pre = []
            · simp [hp]
              exact Fin_ret rfl (by rw [hyes (by simp [takesB, e1, e3, e2, k3, hp])]; rfl)
            · simp [hp]
              exact ⟨i + 1, ⟨by omega, hnx (by simp [takesB, e1, e3, e2, k3, hp])⟩, by omega, Wk.both (by simp [wkL, wkV.same, bndV]; rw [wrapN (by omega)]; exact wkV.same _) (by simp [wkB])⟩
      · obtain ⟨lv, hlv⟩ := end_ver d1 k1
        have e1 : lowB? l v = decide (cmpV v lv < 0) := by rw [lowB?, hlv]
        have e3 : sameB l v = (decide (lv.pre ≠ []) && decide (lv.maj = v.maj) && decide (lv.min = v.min) && decide (lv.pat = v.pat)) := by rw [sameB, hlv]
        have hl0 := implVer0_fx hE hZ l (by omega)
        rw [ver0, hlv] at hl0
        dsimp only at hl0
        simp [k1]
        refine vcall_go (cmpTexts_fx hE hZ s l v lv hv hlv hs (by omega)) (by simp) (by simp) (by simp) (by simp) ?_
        simp
        by_cases k4 : cmpV v lv < 0
        · simp [k4]
          exact ⟨i + 1, ⟨by omega, hnx (by simp [takesB, e1, k4])⟩, by omega, Wk.both (by simp [wkL, wkV.same, bndV]; rw [wrapN (by omega)]; exact wkV.same _) (by simp [wkB])⟩
        · simp [k4]
          by_cases k2 : h = by8 ""
          · have e2 : highB h v = false := by rw [highB, k2, readVer_nil]
            simp [k2]
            refine vcall_go hl0 (by simp) (by simp) (by simp) (by simp) ?_
            simp [okC, putElem, upd]
            by_cases hp : v.pre = []
            · simp [hp]
              exact Fin_ret rfl (by rw [hyes (by simp [takesB, e1, e3, k4, e2, hp])]; rfl)
            · simp [hp]
              by_cases p1 : lv.pre = []
              · simp [p1]
                exact ⟨i + 1, ⟨by omega, hnx (by simp [takesB, e1, e3, k4, e2, hp, p1])⟩, by omega, Wk.both (by simp [wkL, wkV.same, bndV]; rw [wrapN (by omega)]; exact wkV.same _) (by simp [wkB])⟩
              · have p1' := List.length_pos_iff.2 p1
                simp [p1, p1']
                by_cases p2 : lv.maj = v.maj
                · simp [p2]
                  by_cases p3 : lv.min = v.min
                  · simp [p3]
                    by_cases p4 : lv.pat = v.pat
                    · simp [p4]
                      exact Fin_ret rfl (by rw [hyes (by simp [takesB, e1, e3, k4, e2, hp, p1, p2, p3, p4])]; rfl)
                    · simp [p4]
                      exact ⟨i + 1, ⟨by omega, hnx (by simp [takesB, e1, e3, k4, e2, hp, p1, p2, p3, p4])⟩, by omega, Wk.both (by simp [wkL, wkV.same, bndV]; rw [wrapN (by omega)]; exact wkV.same _) (by simp [wkB])⟩
                  · simp [p3]
                    exact ⟨i + 1, ⟨by omega, hnx (by simp [takesB, e1, e3, k4, e2, hp, p1, p2, p3])⟩, by omega, Wk.both (by simp [wkL, wkV.same, bndV]; rw [wrapN (by omega)]; exact wkV.same _) (by simp [wkB])⟩
                · simp [p2]
                  exact ⟨i + 1, ⟨by omega, hnx (by simp [takesB, e1, e3, k4, e2, hp, p1, p2])⟩, by omega, Wk.both (by simp [wkL, wkV.same, bndV]; rw [wrapN (by omega)]; exact wkV.same _) (by simp [wkB])⟩
          · obtain ⟨hv', hh⟩ := end_ver d2 k2
            have e2 : highB h v = decide (0 ≤ cmpV v hv') := by rw [highB, hh]
            simp [k2]
            refine vcall_go (cmpTexts_fx hE hZ s h v hv' hv hh hs (by omega)) (by simp) (by simp) (by simp) (by simp) ?_
            simp
            by_cases k3 : 0 ≤ cmpV v hv'
            · simp [k3]
              exact ⟨i + 1, ⟨by omega, hnx (by simp [takesB, e1, e3, k4, e2, k3])⟩, by omega, Wk.both (by simp [wkL, wkV.same, bndV]; rw [wrapN (by omega)]; exact wkV.same _) (by simp [wkB])⟩
            · simp [k3]
              refine vcall_go hl0 (by simp) (by simp) (by simp) (by simp) ?_
              simp [okC, putElem, upd]
              by_cases hp : v.pre = []
              · simp [hp]
                exact Fin_ret rfl (by rw [hyes (by simp [takesB, e1, e3, k4, e2, k3, hp])]; rfl)
              · simp [hp]
                by_cases p1 : lv.pre = []
                · simp [p1]
                  exact ⟨i + 1, ⟨by omega, hnx (by simp [takesB, e1, e3, k4, e2, k3, hp, p1])⟩, by omega, Wk.both (by simp [wkL, wkV.same, bndV]; rw [wrapN (by omega)]; exact wkV.same _) (by simp [wkB])⟩
                · have p1' := List.length_pos_iff.2 p1
                  simp [p1, p1']
                  by_cases p2 : lv.maj = v.maj
                  · simp [p2]
                    by_cases p3 : lv.min = v.min
                    · simp [p3]
                      by_cases p4 : lv.pat = v.pat
                      · simp [p4]
                        exact Fin_ret rfl (by rw [hyes (by simp [takesB, e1, e3, k4, e2, k3, hp, p1, p2, p3, p4])]; rfl)
                      · simp [p4]
                        exact ⟨i + 1, ⟨by omega, hnx (by simp [takesB, e1, e3, k4, e2, k3, hp, p1, p2, p3, p4])⟩, by omega, Wk.both (by simp [wkL, wkV.same, bndV]; rw [wrapN (by omega)]; exact wkV.same _) (by simp [wkB])⟩
                    · simp [p3]
                      exact ⟨i + 1, ⟨by omega, hnx (by simp [takesB, e1, e3, k4, e2, k3, hp, p1, p2, p3])⟩, by omega, Wk.both (by simp [wkL, wkV.same, bndV]; rw [wrapN (by omega)]; exact wkV.same _) (by simp [wkB])⟩
                  · simp [p2]
                    exact ⟨i + 1, ⟨by omega, hnx (by simp [takesB, e1, e3, k4, e2, k3, hp, p1, p2])⟩, by omega, Wk.both (by simp [wkL, wkV.same, bndV]; rw [wrapN (by omega)]; exact wkV.same _) (by simp [wkB])⟩
    · obtain rfl : i = r.length := by omega
      simp
      refine Fin_ret rfl ?_
      have : r.any (takesB v) = false := by
        rw [List.any_eq_false]
        intro x hx
        obtain ⟨j, hj, rfl⟩ := List.getElem_of_mem hx
        simp [hall j hj hj]
      rw [e0, this, Bool.and_false]; rfl
end
end Go.Proofs.YticockdhfglolaaGreatDoor.Vm
namespace Go.Proofs.YticockdhfglolaaGreatDoor.Vm
open Go Go.RowKit
set_option linter.unusedVariables false
set_option linter.unusedSimpArgs false
def v44 : VC := .seq (.reg false [⟨some 1, .box 5 (.t 0), none⟩, ⟨some 2, .as (.c (.lit (.bool false))), none⟩] [2]) (.seq (.seq (.reg false [⟨some 3, .as (.c (.lit (.int .i64 0))), none⟩] []) (.block 0 (.loop (.seq (.seq (.reg false [⟨some 12, .mv (.t 3), none⟩, ⟨some 13, .fa 0 (.t 1), none⟩, ⟨some 14, .ld false 1 (.t 13), none⟩, ⟨some 15, .len false (.t 14), none⟩, ⟨some 16, .bin .lss 0 (.t 12) (.t 15), none⟩] [12, 13, 14, 15]) (.cond (.t 16) (.skip) (.exit 0))) (.seq (.block 1 (.seq (.reg false [⟨some 19, .fa 0 (.t 1), none⟩, ⟨some 20, .ld false 1 (.t 19), none⟩, ⟨some 21, .mv (.t 3), none⟩, ⟨some 22, .ia 2 (.t 20) (.t 21), none⟩, ⟨some 23, .ld true 2 (.t 22), none⟩, ⟨some 4, .alloc (.agg [(.lit (.string (by8 ""))), (.lit (.string (by8 "")))]), none⟩, ⟨none, .st 2 (.t 4) (.t 23), none⟩] [19, 20, 21, 22, 23]) (.seq (.reg false [⟨some 25, .fa 1 (.t 4), none⟩, ⟨some 26, .ld false 1 (.t 25), none⟩, ⟨some 27, .call false 78 [(.t 26)], none⟩, ⟨some 24, .mv (.t 27), none⟩, ⟨some 28, .ext (.t 24) 0, none⟩, ⟨some 29, .ext (.t 24) 1, none⟩, ⟨some 5, .as (.t 28), none⟩, ⟨some 6, .as (.t 29), none⟩] [25, 26, 27, 24, 28, 29, 6]) (.seq (.reg true [⟨some 30, .ld true 2 (.t 4), none⟩, ⟨some 31, .call true 79 [(.t 30)], none⟩, ⟨some 32, .un .not (.t 31), none⟩, ⟨some 33, .mv (.t 32), none⟩, ⟨some 34, .fa 0 (.t 4), (some (33, false))⟩, ⟨some 35, .ld false 1 (.t 34), (some (33, false))⟩, ⟨some 36, .fa 0 (.t 1), (some (33, false))⟩, ⟨some 37, .ld false 1 (.t 36), (some (33, false))⟩, ⟨some 38, .ia 2 (.t 37) (.c (.lit (.int .i64 0))), (some (33, false))⟩, ⟨some 39, .fa 0 (.t 38), (some (33, false))⟩, ⟨some 40, .ld false 1 (.t 39), (some (33, false))⟩, ⟨some 41, .bin .neq 0 (.t 35) (.t 40), (some (33, false))⟩, ⟨some 42, .pick (.t 33) (.c (.lit (.bool true))) (.t 41), none⟩, ⟨some 43, .mv (.t 42), none⟩, ⟨some 44, .mv (.t 3), (some (43, false))⟩, ⟨some 45, .bin .gtr 0 (.t 44) (.c (.lit (.int .i64 0))), (some (43, false))⟩, ⟨some 46, .mv (.t 45), (some (43, false))⟩, ⟨some 47, .fa 0 (.t 1), (some (46, true))⟩, ⟨some 48, .ld false 1 (.t 47), (some (46, true))⟩, ⟨some 49, .mv (.t 3), (some (46, true))⟩, ⟨some 50, .bin .sub 0 (.t 49) (.c (.lit (.int .i64 1))), (some (46, true))⟩, ⟨some 51, .ia 2 (.t 48) (.t 50), (some (46, true))⟩, ⟨some 52, .fa 1 (.t 51), (some (46, true))⟩, ⟨some 53, .ld false 1 (.t 52), (some (46, true))⟩, ⟨some 54, .fa 1 (.t 4), (some (46, true))⟩, ⟨some 55, .ld false 1 (.t 54), (some (46, true))⟩, ⟨some 56, .bin .geq 0 (.t 53) (.t 55), (some (46, true))⟩, ⟨some 57, .pick (.t 46) (.t 56) (.c (.lit (.bool false))), (some (43, false))⟩, ⟨some 58, .pick (.t 43) (.c (.lit (.bool true))) (.t 57), none⟩, ⟨some 59, .mv (.t 58), none⟩, ⟨some 60, .fa 1 (.t 1), (some (59, false))⟩, ⟨some 61, .ld false 1 (.t 60), (some (59, false))⟩, ⟨some 62, .mv (.t 5), (some (59, false))⟩, ⟨some 63, .call true 80 [(.t 61), (.t 62)], (some (59, false))⟩, ⟨some 64, .un .not (.t 63), (some (59, false))⟩, ⟨some 65, .pick (.t 59) (.c (.lit (.bool true))) (.t 64), none⟩] [30, 31, 32, 33, 34, 35, 36, 37, 38, 39, 40, 41, 42, 43, 44, 45, 46, 47, 48, 49, 50, 51, 52, 53, 54, 55, 56, 57, 58, 59, 60, 61, 62, 63, 64]) (.cond (.t 65) (.seq (.reg false [⟨some 2, .as (.c (.lit (.bool false))), none⟩] []) (.ret)) (.skip)))))) (.reg false [⟨some 17, .mv (.t 3), none⟩, ⟨some 18, .bin .add 0 (.t 17) (.c (.lit (.int .i64 1))), none⟩, ⟨some 3, .as (.t 18), none⟩] [17, 18])))))) (.seq (.seq (.reg false [⟨some 7, .as (.c (.lit (.int .i64 0))), none⟩] []) (.block 2 (.loop (.seq (.seq (.reg false [⟨some 66, .mv (.t 7), none⟩, ⟨some 67, .fa 4 (.t 1), none⟩, ⟨some 68, .ld false 1 (.t 67), none⟩, ⟨some 69, .len false (.t 68), none⟩, ⟨some 70, .bin .lss 0 (.t 66) (.t 69), none⟩] [66, 67, 68, 69]) (.cond (.t 70) (.skip) (.exit 2))) (.seq (.block 3 (.seq (.reg true [⟨some 73, .fa 4 (.t 1), none⟩, ⟨some 74, .ld false 1 (.t 73), none⟩, ⟨some 75, .mv (.t 7), none⟩, ⟨some 76, .ia 2 (.t 74) (.t 75), none⟩, ⟨some 77, .ld true 2 (.t 76), none⟩, ⟨some 78, .call true 79 [(.t 77)], none⟩, ⟨some 79, .un .not (.t 78), none⟩, ⟨some 80, .mv (.t 79), none⟩, ⟨some 81, .mv (.t 7), (some (80, false))⟩, ⟨some 82, .bin .gtr 0 (.t 81) (.c (.lit (.int .i64 0))), (some (80, false))⟩, ⟨some 83, .mv (.t 82), (some (80, false))⟩, ⟨some 84, .fa 4 (.t 1), (some (83, true))⟩, ⟨some 85, .ld false 1 (.t 84), (some (83, true))⟩, ⟨some 86, .mv (.t 7), (some (83, true))⟩, ⟨some 87, .bin .sub 0 (.t 86) (.c (.lit (.int .i64 1))), (some (83, true))⟩, ⟨some 88, .ia 2 (.t 85) (.t 87), (some (83, true))⟩, ⟨some 89, .fa 0 (.t 88), (some (83, true))⟩, ⟨some 90, .ld false 1 (.t 89), (some (83, true))⟩, ⟨some 91, .fa 4 (.t 1), (some (83, true))⟩, ⟨some 92, .ld false 1 (.t 91), (some (83, true))⟩, ⟨some 93, .mv (.t 7), (some (83, true))⟩, ⟨some 94, .ia 2 (.t 92) (.t 93), (some (83, true))⟩, ⟨some 95, .fa 0 (.t 94), (some (83, true))⟩, ⟨some 96, .ld false 1 (.t 95), (some (83, true))⟩, ⟨some 97, .bin .geq 0 (.t 90) (.t 96), (some (83, true))⟩, ⟨some 98, .pick (.t 83) (.t 97) (.c (.lit (.bool false))), (some (80, false))⟩, ⟨some 99, .pick (.t 80) (.c (.lit (.bool true))) (.t 98), none⟩] [73, 74, 75, 76, 77, 78, 79, 80, 81, 82, 83, 84, 85, 86, 87, 88, 89, 90, 91, 92, 93, 94, 95, 96, 97, 98]) (.cond (.t 99) (.seq (.reg false [⟨some 2, .as (.c (.lit (.bool false))), none⟩] []) (.ret)) (.skip)))) (.reg false [⟨some 71, .mv (.t 7), none⟩, ⟨some 72, .bin .add 0 (.t 71) (.c (.lit (.int .i64 1))), none⟩, ⟨some 7, .as (.t 72), none⟩] [71, 72])))))) (.seq (.reg false [⟨some 101, .fa 1 (.t 1), none⟩, ⟨some 102, .ld false 1 (.t 101), none⟩, ⟨some 103, .call false 57 [(.t 102)], none⟩, ⟨some 100, .mv (.t 103), none⟩, ⟨some 104, .ext (.t 100) 0, none⟩, ⟨some 105, .ext (.t 100) 1, none⟩, ⟨some 8, .alloc (.agg [(.lit (.int .i64 0)), (.lit (.int .i64 0)), (.lit (.int .i64 0)), (.sl ⟨.nl, true⟩ 1 [])]), none⟩, ⟨none, .st 4 (.t 8) (.t 104), none⟩, ⟨some 9, .as (.t 105), none⟩] [101, 102, 103, 100, 104, 105, 8]) (.seq (.reg false [⟨some 107, .fa 3 (.t 1), none⟩, ⟨some 108, .ld false 1 (.t 107), none⟩, ⟨some 109, .call false 81 [(.t 108)], none⟩, ⟨some 106, .mv (.t 109), none⟩, ⟨some 110, .ext (.t 106) 0, none⟩, ⟨some 111, .ext (.t 106) 1, none⟩, ⟨some 10, .as (.t 110), none⟩, ⟨some 11, .as (.t 111), none⟩] [107, 108, 109, 106, 110, 111, 10]) (.seq (.reg false [⟨some 112, .fa 0 (.t 1), none⟩, ⟨some 113, .ld false 1 (.t 112), none⟩, ⟨some 114, .len false (.t 113), none⟩, ⟨some 115, .call false 82 [(.t 114), (.c (.lit (.int .i64 1))), (.c (.lit (.int .i64 8)))], none⟩, ⟨some 116, .mv (.t 115), none⟩, ⟨some 117, .mv (.t 9), (some (116, true))⟩, ⟨some 118, .pick (.t 116) (.t 117) (.c (.lit (.bool false))), none⟩, ⟨some 119, .mv (.t 118), none⟩, ⟨some 120, .mv (.t 11), (some (119, true))⟩, ⟨some 121, .pick (.t 119) (.t 120) (.c (.lit (.bool false))), none⟩, ⟨some 122, .mv (.t 121), none⟩, ⟨some 123, .fa 2 (.t 1), (some (122, true))⟩, ⟨some 124, .ld false 1 (.t 123), (some (122, true))⟩, ⟨some 125, .call false 83 [(.t 124)], (some (122, true))⟩, ⟨some 126, .pick (.t 122) (.t 125) (.c (.lit (.bool false))), none⟩, ⟨some 2, .as (.t 126), none⟩] [112, 113, 114, 115, 116, 117, 118, 119, 120, 121, 122, 123, 124, 125, 126]) (.ret))))))
theorem is44 : Is Go.Proofs.Tryz.prog 44 127 v44 [.t 2] := ⟨Go.Proofs.Tryz.f44, dl [(0, [2]), (2, [12, 13, 14, 15]), (4, [19, 20, 21, 22, 23]), (5, [25, 26, 27, 24, 28, 29, 6]), (6, [30, 31, 32, 33, 34, 35, 36, 37, 38, 39, 40, 41, 42, 43, 44, 45, 46, 47, 48, 49, 50, 51, 52, 53, 54, 55, 56, 57, 58, 59, 60, 61, 62, 63, 64]), (3, [17, 18]), (9, [66, 67, 68, 69]), (11, [73, 74, 75, 76, 77, 78, 79, 80, 81, 82, 83, 84, 85, 86, 87, 88, 89, 90, 91, 92, 93, 94, 95, 96, 97, 98]), (10, [71, 72]), (13, [101, 102, 103, 100, 104, 105, 8]), (14, [107, 108, 109, 106, 110, 111, 10]), (15, [112, 113, 114, 115, 116, 117, 118, 119, 120, 121, 122, 123, 124, 125, 126])], Go.Proofs.Tryz.func44, by kernel_rfl, by kernel_rfl, by kernel_rfl, by kernel_rfl⟩
def v48 : VC := .seq (.reg false [⟨some 1, .box 5 (.t 0), none⟩, ⟨some 2, .as (.c (.lit (.bool false))), none⟩] [2]) (.seq (.seq (.reg false [⟨some 11, .fa 0 (.t 1), none⟩, ⟨some 12, .ld false 1 (.t 11), none⟩, ⟨some 13, .len false (.t 12), none⟩, ⟨some 14, .mv (.c (.lit (.int .i64 0))), none⟩] [11]) (.block 0 (.loop (.seq (.reg false [⟨some 15, .bin .lss 0 (.t 14) (.t 13), none⟩] []) (.seq (.cond (.t 15) (.skip) (.exit 0)) (.seq (.block 1 (.seq (.reg false [⟨some 16, .mv (.t 14), none⟩, ⟨some 17, .ia 2 (.t 12) (.t 14), none⟩, ⟨some 18, .ld true 2 (.t 17), none⟩, ⟨some 4, .alloc (.agg [(.lit (.string (by8 ""))), (.lit (.string (by8 "")))]), none⟩, ⟨some 3, .as (.t 16), none⟩, ⟨none, .st 2 (.t 4) (.t 18), none⟩] [16, 17, 18]) (.seq (.reg false [⟨some 20, .fa 1 (.t 4), none⟩, ⟨some 21, .ld false 1 (.t 20), none⟩, ⟨some 22, .call false 85 [(.t 21)], none⟩, ⟨some 19, .mv (.t 22), none⟩, ⟨some 23, .ext (.t 19) 0, none⟩, ⟨some 24, .ext (.t 19) 1, none⟩, ⟨some 5, .as (.t 23), none⟩, ⟨some 6, .as (.t 24), none⟩] [20, 21, 22, 19, 23, 24, 6]) (.seq (.reg true [⟨some 25, .ld true 2 (.t 4), none⟩, ⟨some 26, .call true 86 [(.t 25)], none⟩, ⟨some 27, .un .not (.t 26), none⟩, ⟨some 28, .mv (.t 27), none⟩, ⟨some 29, .fa 0 (.t 4), (some (28, false))⟩, ⟨some 30, .ld false 1 (.t 29), (some (28, false))⟩, ⟨some 31, .fa 0 (.t 1), (some (28, false))⟩, ⟨some 32, .ld false 1 (.t 31), (some (28, false))⟩, ⟨some 33, .ia 2 (.t 32) (.c (.lit (.int .i64 0))), (some (28, false))⟩, ⟨some 34, .fa 0 (.t 33), (some (28, false))⟩, ⟨some 35, .ld false 1 (.t 34), (some (28, false))⟩, ⟨some 36, .bin .neq 0 (.t 30) (.t 35), (some (28, false))⟩, ⟨some 37, .pick (.t 28) (.c (.lit (.bool true))) (.t 36), none⟩, ⟨some 38, .mv (.t 37), none⟩, ⟨some 39, .mv (.t 3), (some (38, false))⟩, ⟨some 40, .bin .gtr 0 (.t 39) (.c (.lit (.int .i64 0))), (some (38, false))⟩, ⟨some 41, .mv (.t 40), (some (38, false))⟩, ⟨some 42, .fa 1 (.t 4), (some (41, true))⟩, ⟨some 43, .ld false 1 (.t 42), (some (41, true))⟩, ⟨some 44, .fa 0 (.t 1), (some (41, true))⟩, ⟨some 45, .ld false 1 (.t 44), (some (41, true))⟩, ⟨some 46, .mv (.t 3), (some (41, true))⟩, ⟨some 47, .bin .sub 0 (.t 46) (.c (.lit (.int .i64 1))), (some (41, true))⟩, ⟨some 48, .ia 2 (.t 45) (.t 47), (some (41, true))⟩, ⟨some 49, .fa 1 (.t 48), (some (41, true))⟩, ⟨some 50, .ld false 1 (.t 49), (some (41, true))⟩, ⟨some 51, .bin .leq 0 (.t 43) (.t 50), (some (41, true))⟩, ⟨some 52, .pick (.t 41) (.t 51) (.c (.lit (.bool false))), (some (38, false))⟩, ⟨some 53, .pick (.t 38) (.c (.lit (.bool true))) (.t 52), none⟩, ⟨some 54, .mv (.t 53), none⟩, ⟨some 55, .fa 1 (.t 1), (some (54, false))⟩, ⟨some 56, .ld false 1 (.t 55), (some (54, false))⟩, ⟨some 57, .mv (.t 5), (some (54, false))⟩, ⟨some 58, .call true 87 [(.t 56), (.t 57)], (some (54, false))⟩, ⟨some 59, .un .not (.t 58), (some (54, false))⟩, ⟨some 60, .pick (.t 54) (.c (.lit (.bool true))) (.t 59), none⟩] [25, 26, 27, 28, 29, 30, 31, 32, 33, 34, 35, 36, 37, 38, 39, 40, 41, 42, 43, 44, 45, 46, 47, 48, 49, 50, 51, 52, 53, 54, 55, 56, 57, 58, 59]) (.cond (.t 60) (.seq (.reg false [⟨some 2, .as (.c (.lit (.bool false))), none⟩] []) (.ret)) (.skip)))))) (.reg false [⟨some 61, .bin .add 0 (.t 14) (.c (.lit (.int .i64 1))), none⟩, ⟨some 14, .mv (.t 61), none⟩] [61]))))))) (.seq (.seq (.reg false [⟨some 62, .fa 4 (.t 1), none⟩, ⟨some 63, .ld false 1 (.t 62), none⟩, ⟨some 64, .len false (.t 63), none⟩, ⟨some 65, .mv (.c (.lit (.int .i64 0))), none⟩] [62]) (.block 2 (.loop (.seq (.reg false [⟨some 66, .bin .lss 0 (.t 65) (.t 64), none⟩] []) (.seq (.cond (.t 66) (.skip) (.exit 2)) (.seq (.block 3 (.seq (.reg false [⟨some 67, .mv (.t 65), none⟩, ⟨some 68, .ia 2 (.t 63) (.t 65), none⟩, ⟨some 69, .ld true 2 (.t 68), none⟩, ⟨some 8, .alloc (.agg [(.lit (.string (by8 ""))), (.lit (.string (by8 "")))]), none⟩, ⟨some 7, .as (.t 67), none⟩, ⟨none, .st 2 (.t 8) (.t 69), none⟩] [67, 68, 69]) (.seq (.reg true [⟨some 70, .ld true 2 (.t 8), none⟩, ⟨some 71, .call true 86 [(.t 70)], none⟩, ⟨some 72, .un .not (.t 71), none⟩, ⟨some 73, .mv (.t 72), none⟩, ⟨some 74, .mv (.t 7), (some (73, false))⟩, ⟨some 75, .bin .gtr 0 (.t 74) (.c (.lit (.int .i64 0))), (some (73, false))⟩, ⟨some 76, .mv (.t 75), (some (73, false))⟩, ⟨some 77, .fa 0 (.t 8), (some (76, true))⟩, ⟨some 78, .ld false 1 (.t 77), (some (76, true))⟩, ⟨some 79, .fa 4 (.t 1), (some (76, true))⟩, ⟨some 80, .ld false 1 (.t 79), (some (76, true))⟩, ⟨some 81, .mv (.t 7), (some (76, true))⟩, ⟨some 82, .bin .sub 0 (.t 81) (.c (.lit (.int .i64 1))), (some (76, true))⟩, ⟨some 83, .ia 2 (.t 80) (.t 82), (some (76, true))⟩, ⟨some 84, .fa 0 (.t 83), (some (76, true))⟩, ⟨some 85, .ld false 1 (.t 84), (some (76, true))⟩, ⟨some 86, .bin .leq 0 (.t 78) (.t 85), (some (76, true))⟩, ⟨some 87, .pick (.t 76) (.t 86) (.c (.lit (.bool false))), (some (73, false))⟩, ⟨some 88, .pick (.t 73) (.c (.lit (.bool true))) (.t 87), none⟩] [70, 71, 72, 73, 74, 75, 76, 77, 78, 79, 80, 81, 82, 83, 84, 85, 86, 87]) (.cond (.t 88) (.seq (.reg false [⟨some 2, .as (.c (.lit (.bool false))), none⟩] []) (.ret)) (.skip))))) (.reg false [⟨some 89, .bin .add 0 (.t 65) (.c (.lit (.int .i64 1))), none⟩, ⟨some 65, .mv (.t 89), none⟩] [89]))))))) (.seq (.reg false [⟨some 91, .fa 3 (.t 1), none⟩, ⟨some 92, .ld false 1 (.t 91), none⟩, ⟨some 93, .call false 88 [(.t 92)], none⟩, ⟨some 90, .mv (.t 93), none⟩, ⟨some 94, .ext (.t 90) 0, none⟩, ⟨some 95, .ext (.t 90) 1, none⟩, ⟨some 9, .as (.t 94), none⟩, ⟨some 10, .as (.t 95), none⟩] [91, 92, 93, 90, 94, 95, 9]) (.seq (.reg false [⟨some 96, .mv (.t 10), none⟩, ⟨some 97, .mv (.t 96), none⟩, ⟨some 98, .fa 0 (.t 1), (some (97, true))⟩, ⟨some 99, .ld false 1 (.t 98), (some (97, true))⟩, ⟨some 100, .len false (.t 99), (some (97, true))⟩, ⟨some 101, .call false 89 [(.t 100), (.c (.lit (.int .i64 1))), (.c (.lit (.int .i64 8)))], (some (97, true))⟩, ⟨some 102, .pick (.t 97) (.t 101) (.c (.lit (.bool false))), none⟩, ⟨some 103, .mv (.t 102), none⟩, ⟨some 104, .fa 1 (.t 1), (some (103, true))⟩, ⟨some 105, .ld false 1 (.t 104), (some (103, true))⟩, ⟨some 106, .call false 60 [(.t 105)], (some (103, true))⟩, ⟨some 107, .pick (.t 103) (.t 106) (.c (.lit (.bool false))), none⟩, ⟨some 108, .mv (.t 107), none⟩, ⟨some 109, .fa 2 (.t 1), (some (108, true))⟩, ⟨some 110, .ld false 1 (.t 109), (some (108, true))⟩, ⟨some 111, .call false 90 [(.t 110)], (some (108, true))⟩, ⟨some 112, .pick (.t 108) (.t 111) (.c (.lit (.bool false))), none⟩, ⟨some 2, .as (.t 112), none⟩] [96, 97, 98, 99, 100, 101, 102, 103, 104, 105, 106, 107, 108, 109, 110, 111, 112]) (.ret)))))
theorem is48 : Is Go.Proofs.Tryz.prog 48 113 v48 [.t 2] := ⟨Go.Proofs.Tryz.f48, dl [(0, [2]), (1, [11]), (3, [16, 17, 18]), (4, [20, 21, 22, 19, 23, 24, 6]), (5, [25, 26, 27, 28, 29, 30, 31, 32, 33, 34, 35, 36, 37, 38, 39, 40, 41, 42, 43, 44, 45, 46, 47, 48, 49, 50, 51, 52, 53, 54, 55, 56, 57, 58, 59]), (7, [61]), (8, [62]), (10, [67, 68, 69]), (11, [70, 71, 72, 73, 74, 75, 76, 77, 78, 79, 80, 81, 82, 83, 84, 85, 86, 87]), (13, [89]), (14, [91, 92, 93, 90, 94, 95, 9]), (15, [96, 97, 98, 99, 100, 101, 102, 103, 104, 105, 106, 107, 108, 109, 110, 111, 112])], Go.Proofs.Tryz.func48, by kernel_rfl, by kernel_rfl, by kernel_rfl, by kernel_rfl⟩
def Nd.small (x : Nd) : Prop := x.name.size ≤ 1048576 ∧ x.range.size ≤ 1048576
def En.small (x : En) : Prop := (x.heads.length ≤ 1048576 ∧ ∀ y ∈ x.heads, y.small) ∧ x.version.size ≤ 1048576 ∧ x.resolved.size ≤ 1048576 ∧ x.integrity.size ≤ 1048576 ∧ x.needs.length ≤ 1048576 ∧ ∀ y ∈ x.needs, y.small
theorem rng_bd {s : ByteArray} {r : List (ByteArray × ByteArray)} (h : rngO s = some r) : r.length ≤ 8 ∧ ∀ b ∈ r, b.1.size ≤ 1073741824 ∧ b.2.size ≤ 1073741824 := by
  unfold rngO at h
  split at h
  · rename_i hc
    have h1 := mapO_len h
    exact ⟨by omega, fun b hb => by have := map_end h b hb; omega⟩
  · cases h
theorem head_get {l : List Nd} {i : Nat} (h : i < l.length) : l.getD i ⟨by8 "", by8 ""⟩ = l[i] := by simp [List.getD, h]
theorem headAt_eq {e : En} {i : Nat} (h : i < e.heads.length) : headAt e i = (needOk e.heads[i].name e.heads[i].range && decide (e.heads[i].name = (e.heads[0]'(by omega)).name) && (decide (i = 0) || slt ((e.heads[i - 1]'(by omega)).range) e.heads[i].range) && inRng e.version ((rngO e.heads[i].range).getD [])) := by
  unfold headAt headOk
  rw [head_get h, head_get (by omega : i - 1 < e.heads.length), List.getElem?_eq_getElem (by omega : 0 < e.heads.length)]
  simp
theorem depAt_eq {e : En} {i : Nat} (h : i < e.needs.length) : depAt e i = (needOk e.needs[i].name e.needs[i].range && (decide (i = 0) || slt ((e.needs[i - 1]'(by omega)).name) e.needs[i].name)) := by
  unfold depAt
  rw [head_get h, head_get (by omega : i - 1 < e.needs.length)]
theorem ent_head {e : En} {i : Nat} (h : i < e.heads.length) (hn : headAt e i = false) : entOk e = false := by
  have : (List.range e.heads.length).all (headAt e) = false := by rw [List.all_eq_false]; exact ⟨i, List.mem_range.2 h, by simp [hn]⟩
  rw [entOk, this]; rfl
theorem ent_dep {e : En} {i : Nat} (h : i < e.needs.length) (hn : depAt e i = false) : entOk e = false := by
  have : (List.range e.needs.length).all (depAt e) = false := by rw [List.all_eq_false]; exact ⟨i, List.mem_range.2 h, by simp [hn]⟩
  rw [entOk, this]; simp
theorem all_range {n : Nat} {p : Nat → Bool} (h : ∀ j, j < n → p j = true) : (List.range n).all p = true := by rw [List.all_eq_true]; exact fun j hj => h j (List.mem_range.1 hj)
section
variable {E : Env} (hE : E.P = Go.Proofs.Tryz.prog) (hZ : ∀ w, E.K w → KZ w)
include hE
set_option maxHeartbeats 4000000 in
theorem specEnt_fx (e : En) (hs : e.small) : Fx E 44 [] [.agg e.av] [] (.lit (.bool (entOk e))) := by
  obtain ⟨⟨s1, s2⟩, s3, s4, s5, s6, s7⟩ := hs
  have hav : e.av = [.sl ro 2 (e.heads.map fun x => .agg x.av), .lit (.string e.version), .lit (.string e.resolved), .lit (.string e.integrity), .sl ro 2 (e.needs.map fun x => .agg x.av)] := rfl
  have hnv : ∀ x : Nd, x.av = [.lit (.string x.name), .lit (.string x.range)] := fun _ => rfl
  refine (is44.to hE).fx [] (by simp) rfl rfl ?_
  simp [v44, hav, okC]
  refine X_loop (τ := Nat) (fun i => ⟨[(1, .ptr 1000000000001 0 0), (3, .lit (.int .i64 i))], [(1000000000001, [.agg e.av])]⟩) (fun i => i ≤ e.heads.length ∧ ∀ j, j < i → headAt e j = true) (fun i => e.heads.length - i) 0 (by simp) (Wk.both (by simp [wkL, wkV.same, hnv]) (by simp [wkB, hav, hnv])) ?_
  rintro i ⟨hi, hall⟩
  simp [hav]
  by_cases hlt : i < e.heads.length
  · have hat := headAt_eq hlt
    have no := ent_head hlt
    obtain ⟨z1, z2⟩ := s2 _ (List.getElem_mem hlt)
    have h0 : 0 < e.heads.length := by omega
    simp [hlt, hnv, mkF, mkF.mkL, okC, putElem, upd]
    refine vcall_go (specRange_fx hE e.heads[i].range (by omega)) (by simp) (by simp) (by simp) (by simp) ?_
    unfold rngRes
    cases hr : rngO e.heads[i].range with
    | none =>
      have hn : needOk e.heads[i].name e.heads[i].range = false := by rw [needOk, hr]; simp
      rw [hn] at hat
      simp
      refine vcall_go (specNeed_fx hE e.heads[i].name e.heads[i].range (by omega) (by omega)) (by simp [bndV]) (by simp) (by simp) (by simp) ?_
      simp [hn]
      exact Fin_ret rfl (by rw [no (by rw [hat]; rfl)]; rfl)
    | some r =>
      obtain ⟨r1, r2⟩ := rng_bd hr
      simp
      refine vcall_go (specNeed_fx hE e.heads[i].name e.heads[i].range (by omega) (by omega)) (by simp [bndV]) (by simp) (by simp) (by simp) ?_
      cases hn : needOk e.heads[i].name e.heads[i].range
      · simp
        exact Fin_ret rfl (by rw [no (by rw [hat, hn]; rfl)]; rfl)
      simp [hlt, h0, hnv, mkF, mkF.mkL]
      by_cases c1 : e.heads[i].name = e.heads[0].name
      · simp [c1]
        have hfin : ∀ (b : Bool), b = inRng e.version r → (decide (i = 0) || slt ((e.heads[i - 1]'(by omega)).range) e.heads[i].range) = true → headAt e i = b := by
          intro b h1 h2
          rw [hat, hn, h2, hr, h1]
          simp [c1]
        by_cases c2 : 0 < i
        · have hw : IntKind.i64.wrap ((i : Int) - 1) = ((i - 1 : Nat) : Int) := by rw [wrap_i64 (by omega) (by omega)]; omega
          have hlt1 : i - 1 < e.heads.length := by omega
          simp [c2, hw, hlt1, hnv, mkF, mkF.mkL]
          by_cases c3 : slt (e.heads[i - 1]).range e.heads[i].range = true
          · have hc : (decide (i = 0) || slt (e.heads[i - 1]).range e.heads[i].range) = true := by rw [c3]; simp
            simp [c3]
            refine vcall_go (specIn_fx hE e.version r (by omega) (by omega) r2) (by simp) (by simp) (by simp) (by simp) ?_
            cases c4 : inRng e.version r
            · simp
              exact Fin_ret rfl (by rw [no (hfin _ c4.symm hc)]; rfl)
            · simp
              refine ⟨i + 1, ⟨by omega, fun j hj => ?_⟩, by omega, Wk.both (by simp [wkL, wkV.same, hnv]; rw [wrapN (by omega)]; exact wkV.same _) (by simp [wkB, hav, hnv])⟩
              rcases Nat.lt_succ_iff_lt_or_eq.1 hj with h | rfl
              · exact hall j h
              · exact hfin _ c4.symm hc
          · have c3' : slt (e.heads[i - 1]).range e.heads[i].range = false := by simpa using c3
            simp [c3']
            exact Fin_ret rfl (by rw [no (by rw [hat]; simp [c3]; intro _ _ h; omega)]; rfl)
        · have hc : (decide (i = 0) || slt ((e.heads[i - 1]'(by omega)).range) e.heads[i].range) = true := by rw [show decide (i = 0) = true by simp; omega]; rfl
          simp [c2]
          refine vcall_go (specIn_fx hE e.version r (by omega) (by omega) r2) (by simp) (by simp) (by simp) (by simp) ?_
          cases c4 : inRng e.version r
          · simp
            exact Fin_ret rfl (by rw [no (hfin _ c4.symm hc)]; rfl)
          · simp
            refine ⟨i + 1, ⟨by omega, fun j hj => ?_⟩, by omega, Wk.both (by simp [wkL, wkV.same, hnv]; rw [wrapN (by omega)]; exact wkV.same _) (by simp [wkB, hav, hnv])⟩
            rcases Nat.lt_succ_iff_lt_or_eq.1 hj with h | rfl
            · exact hall j h
            · exact hfin _ c4.symm hc
      · simp [c1]
        exact Fin_ret rfl (by rw [no (by rw [hat]; simp [c1])]; rfl)
  obtain rfl : i = e.heads.length := by omega
  have hH : (List.range e.heads.length).all (headAt e) = true := all_range hall
  clear hall hi hlt
  simp
  refine X_loop (τ := Nat) (fun i => ⟨[(1, .ptr 1000000000001 0 0), (7, .lit (.int .i64 i))], [(1000000000001, [.agg e.av])]⟩) (fun i => i ≤ e.needs.length ∧ ∀ j, j < i → depAt e j = true) (fun i => e.needs.length - i) 0 (by simp) (Wk.both (by simp [wkL, wkV.same, hnv]) (by simp [wkB, hav, hnv])) ?_
  rintro i ⟨hi, hall⟩
  simp [hav]
  by_cases hlt : i < e.needs.length
  · have hat := depAt_eq hlt
    have no := ent_dep hlt
    obtain ⟨z1, z2⟩ := s7 _ (List.getElem_mem hlt)
    simp [hlt, hnv, mkF, mkF.mkL, okC, putElem, upd]
    refine vcall_go (specNeed_fx hE e.needs[i].name e.needs[i].range (by omega) (by omega)) (by simp [bndV]) (by simp) (by simp) (by simp) ?_
    cases hn : needOk e.needs[i].name e.needs[i].range
    · simp
      exact Fin_ret rfl (by rw [no (by rw [hat, hn]; rfl)]; rfl)
    simp
    by_cases c2 : 0 < i
    · have hw : IntKind.i64.wrap ((i : Int) - 1) = ((i - 1 : Nat) : Int) := by rw [wrap_i64 (by omega) (by omega)]; omega
      have hlt1 : i - 1 < e.needs.length := by omega
      simp [c2, hw, hlt, hlt1, hnv, mkF, mkF.mkL]
      by_cases c3 : slt (e.needs[i - 1]).name e.needs[i].name = true
      · simp [c3]
        refine ⟨i + 1, ⟨by omega, fun j hj => ?_⟩, by omega, Wk.both (by simp [wkL, wkV.same, hnv]; rw [wrapN (by omega)]; exact wkV.same _) (by simp [wkB, hav, hnv])⟩
        rcases Nat.lt_succ_iff_lt_or_eq.1 hj with h | rfl
        · exact hall j h
        · exact (by rw [hat, hn, c3]; simp)
      · have c3' : slt (e.needs[i - 1]).name e.needs[i].name = false := by simpa using c3
        simp [c3']
        exact Fin_ret rfl (by rw [no (by rw [hat]; simp [c3]; intro _ h; omega)]; rfl)
    · simp [c2]
      refine ⟨i + 1, ⟨by omega, fun j hj => ?_⟩, by omega, Wk.both (by simp [wkL, wkV.same, hnv]; rw [wrapN (by omega)]; exact wkV.same _) (by simp [wkB, hav, hnv])⟩
      rcases Nat.lt_succ_iff_lt_or_eq.1 hj with h | rfl
      · exact hall j h
      · exact (by rw [hat, hn, show decide (j = 0) = true by simp; omega]; rfl)
  obtain rfl : i = e.needs.length := by omega
  have hN : (List.range e.needs.length).all (depAt e) = true := all_range hall
  have hent : entOk e = (inR e.heads.length 1 8 && (isVer e.version && ((giI e.integrity).isSome && plainOk e.resolved))) := by rw [entOk, hH, hN]; rfl
  clear hall hi hlt hH hN
  simp
  refine vcall_go (specVer0_fx hE e.version (by omega)) (by simp) (by simp) (by simp) (by simp) ?_
  unfold ver0
  cases hv : readVer e.version
  all_goals
    have hiv : isVer e.version = (readVer e.version).isSome := rfl
    rw [hv] at hiv
    simp [okC, putElem, upd]
    refine vcall_go (specGetI_fx hE e.integrity s5) (by simp) (by simp) (by simp) (by simp) ?_
    unfold giRes
    cases hg : giI e.integrity
  all_goals
    rw [hg, hiv] at hent
    simp
    refine vcall_go (l01In_fx hE e.heads.length 1 8) (by simp) (by simp) (by simp) (by simp) ?_
    cases c1 : inR e.heads.length 1 8
    · simp
      exact Fin_ret rfl (by rw [hent, c1]; rfl)
    simp
  · exact Fin_ret rfl (by rw [hent, c1]; rfl)
  · exact Fin_ret rfl (by rw [hent, c1]; rfl)
  · exact Fin_ret rfl (by rw [hent, c1]; rfl)
  · refine vcall_go (specPlain_fx hE e.resolved (by omega)) (by simp) (by simp) (by simp) (by simp) ?_
    simp
    exact Fin_ret rfl (by rw [hent, c1]; simp [reC])
include hZ in
set_option maxHeartbeats 4000000 in
theorem implEnt_fx (e : En) (hs : e.small) : Fx E 48 [] [.agg e.av] [] (.lit (.bool (entOk e))) := by
  obtain ⟨⟨s1, s2⟩, s3, s4, s5, s6, s7⟩ := hs
  have hav : e.av = [.sl ro 2 (e.heads.map fun x => .agg x.av), .lit (.string e.version), .lit (.string e.resolved), .lit (.string e.integrity), .sl ro 2 (e.needs.map fun x => .agg x.av)] := rfl
  have hnv : ∀ x : Nd, x.av = [.lit (.string x.name), .lit (.string x.range)] := fun _ => rfl
  refine (is48.to hE).fx [] (by simp) rfl rfl ?_
  simp [v48, hav, okC]
  refine X_loop (τ := Nat) (fun i => ⟨[(1, .ptr 1000000000001 0 0), (12, .sl ro 2 (e.heads.map fun x => .agg x.av)), (13, .lit (.int .i64 e.heads.length)), (14, .lit (.int .i64 i))], [(1000000000001, [.agg e.av])]⟩) (fun i => i ≤ e.heads.length ∧ ∀ j, j < i → headAt e j = true) (fun i => e.heads.length - i) 0 (by simp) (Wk.both (by simp [wkL, wkV.same, hnv]) (by simp [wkB, hav, hnv])) ?_
  rintro i ⟨hi, hall⟩
  simp [hav]
  by_cases hlt : i < e.heads.length
  · have hat := headAt_eq hlt
    have no := ent_head hlt
    obtain ⟨z1, z2⟩ := s2 _ (List.getElem_mem hlt)
    have h0 : 0 < e.heads.length := by omega
    simp [hlt, hnv, mkF, mkF.mkL, okC, putElem, upd]
    refine vcall_go (implRange_fx hE hZ e.heads[i].range (by omega)) (by simp) (by simp) (by simp) (by simp) ?_
    unfold rngRes
    cases hr : rngO e.heads[i].range with
    | none =>
      have hn : needOk e.heads[i].name e.heads[i].range = false := by rw [needOk, hr]; simp
      rw [hn] at hat
      simp
      refine vcall_go (implNeed_fx hE hZ e.heads[i].name e.heads[i].range (by omega) (by omega)) (by simp [bndV]) (by simp) (by simp) (by simp) ?_
      simp [hn]
      exact Fin_ret rfl (by rw [no (by rw [hat]; rfl)]; rfl)
    | some r =>
      obtain ⟨r1, r2⟩ := rng_bd hr
      simp
      refine vcall_go (implNeed_fx hE hZ e.heads[i].name e.heads[i].range (by omega) (by omega)) (by simp [bndV]) (by simp) (by simp) (by simp) ?_
      cases hn : needOk e.heads[i].name e.heads[i].range
      · simp
        exact Fin_ret rfl (by rw [no (by rw [hat, hn]; rfl)]; rfl)
      simp [hlt, h0, hnv, mkF, mkF.mkL]
      by_cases c1 : e.heads[i].name = e.heads[0].name
      · simp [c1]
        have hfin : ∀ (b : Bool), b = inRng e.version r → (decide (i = 0) || slt ((e.heads[i - 1]'(by omega)).range) e.heads[i].range) = true → headAt e i = b := by
          intro b h1 h2
          rw [hat, hn, h2, hr, h1]
          simp [c1]
        by_cases c2 : 0 < i
        · have hw : IntKind.i64.wrap ((i : Int) - 1) = ((i - 1 : Nat) : Int) := by rw [wrap_i64 (by omega) (by omega)]; omega
          have hlt1 : i - 1 < e.heads.length := by omega
          simp [c2, hw, hlt1, hnv, mkF, mkF.mkL]
          by_cases c3 : slt (e.heads[i - 1]).range e.heads[i].range = true
          · have hc : (decide (i = 0) || slt (e.heads[i - 1]).range e.heads[i].range) = true := by rw [c3]; simp
            simp [geq_slt, c3]
            refine vcall_go (implIn_fx hE hZ e.version r (by omega) (by omega) r2) (by simp) (by simp) (by simp) (by simp) ?_
            cases c4 : inRng e.version r
            · simp
              exact Fin_ret rfl (by rw [no (hfin _ c4.symm hc)]; rfl)
            · simp
              refine ⟨i + 1, ⟨by omega, fun j hj => ?_⟩, by omega, Wk.both (by simp [wkL, wkV.same, hnv]; rw [wrapN (by omega)]; exact wkV.same _) (by simp [wkB, hav, hnv])⟩
              rcases Nat.lt_succ_iff_lt_or_eq.1 hj with h | rfl
              · exact hall j h
              · exact hfin _ c4.symm hc
          · have c3' : slt (e.heads[i - 1]).range e.heads[i].range = false := by simpa using c3
            simp [geq_slt, c3']
            exact Fin_ret rfl (by rw [no (by rw [hat]; simp [c3]; intro _ _ h; omega)]; rfl)
        · have hc : (decide (i = 0) || slt ((e.heads[i - 1]'(by omega)).range) e.heads[i].range) = true := by rw [show decide (i = 0) = true by simp; omega]; rfl
          simp [c2]
          refine vcall_go (implIn_fx hE hZ e.version r (by omega) (by omega) r2) (by simp) (by simp) (by simp) (by simp) ?_
          cases c4 : inRng e.version r
          · simp
            exact Fin_ret rfl (by rw [no (hfin _ c4.symm hc)]; rfl)
          · simp
            refine ⟨i + 1, ⟨by omega, fun j hj => ?_⟩, by omega, Wk.both (by simp [wkL, wkV.same, hnv]; rw [wrapN (by omega)]; exact wkV.same _) (by simp [wkB, hav, hnv])⟩
            rcases Nat.lt_succ_iff_lt_or_eq.1 hj with h | rfl
            · exact hall j h
            · exact hfin _ c4.symm hc
      · simp [c1]
        exact Fin_ret rfl (by rw [no (by rw [hat]; simp [c1])]; rfl)
  obtain rfl : i = e.heads.length := by omega
  have hH : (List.range e.heads.length).all (headAt e) = true := all_range hall
  clear hall hi hlt
  simp
  refine X_loop (τ := Nat) (fun i => ⟨[(1, .ptr 1000000000001 0 0), (63, .sl ro 2 (e.needs.map fun x => .agg x.av)), (64, .lit (.int .i64 e.needs.length)), (65, .lit (.int .i64 i))], [(1000000000001, [.agg e.av])]⟩) (fun i => i ≤ e.needs.length ∧ ∀ j, j < i → depAt e j = true) (fun i => e.needs.length - i) 0 (by simp) (Wk.both (by simp [wkL, wkV.same, hnv]) (by simp [wkB, hav, hnv])) ?_
  rintro i ⟨hi, hall⟩
  simp [hav]
  by_cases hlt : i < e.needs.length
  · have hat := depAt_eq hlt
    have no := ent_dep hlt
    obtain ⟨z1, z2⟩ := s7 _ (List.getElem_mem hlt)
    simp [hlt, hnv, mkF, mkF.mkL, okC, putElem, upd]
    refine vcall_go (implNeed_fx hE hZ e.needs[i].name e.needs[i].range (by omega) (by omega)) (by simp [bndV]) (by simp) (by simp) (by simp) ?_
    cases hn : needOk e.needs[i].name e.needs[i].range
    · simp
      exact Fin_ret rfl (by rw [no (by rw [hat, hn]; rfl)]; rfl)
    simp
    by_cases c2 : 0 < i
    · have hw : IntKind.i64.wrap ((i : Int) - 1) = ((i - 1 : Nat) : Int) := by rw [wrap_i64 (by omega) (by omega)]; omega
      have hlt1 : i - 1 < e.needs.length := by omega
      simp [c2, hw, hlt, hlt1, hnv, mkF, mkF.mkL]
      by_cases c3 : slt (e.needs[i - 1]).name e.needs[i].name = true
      · simp [geq_slt, c3]
        refine ⟨i + 1, ⟨by omega, fun j hj => ?_⟩, by omega, Wk.both (by simp [wkL, wkV.same, hnv]; rw [wrapN (by omega)]; exact wkV.same _) (by simp [wkB, hav, hnv])⟩
        rcases Nat.lt_succ_iff_lt_or_eq.1 hj with h | rfl
        · exact hall j h
        · exact (by rw [hat, hn, c3]; simp)
      · have c3' : slt (e.needs[i - 1]).name e.needs[i].name = false := by simpa using c3
        simp [geq_slt, c3']
        exact Fin_ret rfl (by rw [no (by rw [hat]; simp [c3]; intro _ h; omega)]; rfl)
    · simp [c2]
      refine ⟨i + 1, ⟨by omega, fun j hj => ?_⟩, by omega, Wk.both (by simp [wkL, wkV.same, hnv]; rw [wrapN (by omega)]; exact wkV.same _) (by simp [wkB, hav, hnv])⟩
      rcases Nat.lt_succ_iff_lt_or_eq.1 hj with h | rfl
      · exact hall j h
      · exact (by rw [hat, hn, show decide (j = 0) = true by simp; omega]; rfl)
  obtain rfl : i = e.needs.length := by omega
  have hN : (List.range e.needs.length).all (depAt e) = true := all_range hall
  have hent : entOk e = (inR e.heads.length 1 8 && (isVer e.version && ((giI e.integrity).isSome && plainOk e.resolved))) := by rw [entOk, hH, hN]; rfl
  clear hall hi hlt hH hN
  simp
  refine vcall_go (implGetI_fx hE (fun w h => (hZ w h).km) e.integrity s5) (by simp) (by simp) (by simp) (by simp) ?_
  unfold giRes
  cases hg : giI e.integrity
  · rw [hg] at hent
    simp
    exact Fin_ret rfl (by rw [hent]; simp [reC])
  rw [hg] at hent
  simp
  refine vcall_go (within_fx hE e.heads.length 1 8) (by simp) (by simp) (by simp) (by simp) ?_
  cases c1 : inR e.heads.length 1 8
  · simp
    exact Fin_ret rfl (by rw [hent, c1]; rfl)
  simp
  refine vcall_go (isVersion_fx hE hZ e.version (by omega)) (by simp) (by simp) (by simp) (by simp) ?_
  cases c2 : isVer e.version
  · simp
    exact Fin_ret rfl (by rw [hent, c1, c2]; rfl)
  simp
  refine vcall_go (implPlain_fx hE e.resolved (by omega)) (by simp) (by simp) (by simp) (by simp) ?_
  simp
  exact Fin_ret rfl (by rw [hent, c1, c2]; simp [reC])
end
end Go.Proofs.YticockdhfglolaaGreatDoor.Vm
namespace Go.Proofs.YticockdhfglolaaGreatDoor.Vm
open Go Go.RowKit
set_option linter.unusedVariables false
set_option linter.unusedSimpArgs false
def v45 : VC := .seq (.reg false [⟨some 1, .box 2 (.t 0), none⟩, ⟨some 2, .as (.c (.lit (.string (by8 "")))), none⟩] [2]) (.seq (.reg false [⟨some 3, .fa 0 (.t 1), none⟩, ⟨some 4, .ld false 1 (.t 3), none⟩, ⟨some 5, .bin .add 0 (.t 4) (.c (.lit (.string (by8 "@")))), none⟩, ⟨some 6, .fa 1 (.t 1), none⟩, ⟨some 7, .ld false 1 (.t 6), none⟩, ⟨some 8, .bin .add 0 (.t 5) (.t 7), none⟩, ⟨some 2, .as (.t 8), none⟩] [3, 4, 5, 6, 7, 8]) (.ret))
theorem is45 : Is Go.Proofs.Tryz.prog 45 9 v45 [.t 2] := ⟨Go.Proofs.Tryz.f45, dl [(0, [2]), (1, [3, 4, 5, 6, 7, 8])], Go.Proofs.Tryz.func45, by kernel_rfl, by kernel_rfl, by kernel_rfl, by kernel_rfl⟩
def v21 : VC := .seq (.reg false [⟨some 2, .as (.c (.lit (.bool false))), none⟩] [2]) (.seq (.seq (.reg false [⟨some 3, .as (.c (.lit (.int .i64 0))), none⟩] []) (.block 0 (.loop (.seq (.seq (.reg false [⟨some 5, .mv (.t 3), none⟩, ⟨some 6, .mv (.t 0), none⟩, ⟨some 7, .len false (.t 6), none⟩, ⟨some 8, .bin .lss 0 (.t 5) (.t 7), none⟩] [5, 6, 7]) (.cond (.t 8) (.skip) (.exit 0))) (.seq (.block 1 (.seq (.seq (.reg true [⟨some 11, .mv (.t 0), none⟩, ⟨some 12, .mv (.t 3), none⟩, ⟨some 13, .ia 5 (.t 11) (.t 12), none⟩, ⟨some 14, .ld true 5 (.t 13), none⟩, ⟨some 15, .call true 44 [(.t 14)], none⟩, ⟨some 16, .un .not (.t 15), none⟩, ⟨some 17, .mv (.t 16), none⟩, ⟨some 18, .mv (.t 3), (some (17, false))⟩, ⟨some 19, .bin .gtr 0 (.t 18) (.c (.lit (.int .i64 0))), (some (17, false))⟩, ⟨some 20, .mv (.t 19), (some (17, false))⟩, ⟨some 21, .mv (.t 0), (some (20, true))⟩, ⟨some 22, .mv (.t 3), (some (20, true))⟩, ⟨some 23, .bin .sub 0 (.t 22) (.c (.lit (.int .i64 1))), (some (20, true))⟩, ⟨some 24, .ia 5 (.t 21) (.t 23), (some (20, true))⟩, ⟨some 25, .fa 0 (.t 24), (some (20, true))⟩, ⟨some 26, .ld false 1 (.t 25), (some (20, true))⟩, ⟨some 27, .ia 2 (.t 26) (.c (.lit (.int .i64 0))), (some (20, true))⟩, ⟨some 28, .ld true 2 (.t 27), (some (20, true))⟩, ⟨some 29, .call true 45 [(.t 28)], (some (20, true))⟩, ⟨some 30, .mv (.t 0), (some (20, true))⟩, ⟨some 31, .mv (.t 3), (some (20, true))⟩, ⟨some 32, .ia 5 (.t 30) (.t 31), (some (20, true))⟩, ⟨some 33, .fa 0 (.t 32), (some (20, true))⟩, ⟨some 34, .ld false 1 (.t 33), (some (20, true))⟩, ⟨some 35, .ia 2 (.t 34) (.c (.lit (.int .i64 0))), (some (20, true))⟩, ⟨some 36, .ld true 2 (.t 35), (some (20, true))⟩, ⟨some 37, .call true 45 [(.t 36)], (some (20, true))⟩, ⟨some 38, .bin .geq 0 (.t 29) (.t 37), (some (20, true))⟩, ⟨some 39, .pick (.t 20) (.t 38) (.c (.lit (.bool false))), (some (17, false))⟩, ⟨some 40, .pick (.t 17) (.c (.lit (.bool true))) (.t 39), none⟩] [11, 12, 13, 14, 15, 16, 17, 18, 19, 20, 21, 22, 23, 24, 25, 26, 27, 28, 29, 30, 31, 32, 33, 34, 35, 36, 37, 38, 39]) (.cond (.t 40) (.seq (.reg false [⟨some 2, .as (.c (.lit (.bool false))), none⟩] []) (.ret)) (.skip))) (.seq (.reg false [⟨some 4, .as (.c (.lit (.int .i64 0))), none⟩] []) (.block 2 (.loop (.seq (.seq (.reg false [⟨some 41, .mv (.t 4), none⟩, ⟨some 42, .mv (.t 0), none⟩, ⟨some 43, .mv (.t 3), none⟩, ⟨some 44, .ia 5 (.t 42) (.t 43), none⟩, ⟨some 45, .fa 0 (.t 44), none⟩, ⟨some 46, .ld false 1 (.t 45), none⟩, ⟨some 47, .len false (.t 46), none⟩, ⟨some 48, .bin .lss 0 (.t 41) (.t 47), none⟩] [41, 42, 43, 44, 45, 46, 47]) (.cond (.t 48) (.skip) (.exit 2))) (.seq (.block 3 (.seq (.reg false [⟨some 51, .mv (.t 0), none⟩, ⟨some 52, .mv (.t 0), none⟩, ⟨some 53, .mv (.t 3), none⟩, ⟨some 54, .ia 5 (.t 52) (.t 53), none⟩, ⟨some 55, .fa 0 (.t 54), none⟩, ⟨some 56, .ld false 1 (.t 55), none⟩, ⟨some 57, .mv (.t 4), none⟩, ⟨some 58, .ia 2 (.t 56) (.t 57), none⟩, ⟨some 59, .ld true 2 (.t 58), none⟩, ⟨some 60, .call false 46 [(.t 51), (.t 59)], none⟩, ⟨some 61, .mv (.t 3), none⟩, ⟨some 62, .bin .neq 0 (.t 60) (.t 61), none⟩] [51, 52, 53, 54, 55, 56, 57, 58, 59, 60, 61]) (.cond (.t 62) (.seq (.reg false [⟨some 2, .as (.c (.lit (.bool false))), none⟩] []) (.ret)) (.skip)))) (.reg false [⟨some 49, .mv (.t 4), none⟩, ⟨some 50, .bin .add 0 (.t 49) (.c (.lit (.int .i64 1))), none⟩, ⟨some 4, .as (.t 50), none⟩] [49, 50])))))))) (.reg false [⟨some 9, .mv (.t 3), none⟩, ⟨some 10, .bin .add 0 (.t 9) (.c (.lit (.int .i64 1))), none⟩, ⟨some 3, .as (.t 10), none⟩] [9, 10])))))) (.seq (.reg false [⟨some 63, .mv (.t 0), none⟩, ⟨some 64, .len false (.t 63), none⟩, ⟨some 65, .bin .leq 0 (.t 64) (.c (.lit (.int .i64 40))), none⟩, ⟨some 2, .as (.t 65), none⟩] [63, 64, 65]) (.ret)))
theorem is21 : Is Go.Proofs.Tryz.prog 21 66 v21 [.t 2] := ⟨Go.Proofs.Tryz.f21, dl [(0, [2]), (2, [5, 6, 7]), (4, [11, 12, 13, 14, 15, 16, 17, 18, 19, 20, 21, 22, 23, 24, 25, 26, 27, 28, 29, 30, 31, 32, 33, 34, 35, 36, 37, 38, 39]), (7, [41, 42, 43, 44, 45, 46, 47]), (9, [51, 52, 53, 54, 55, 56, 57, 58, 59, 60, 61]), (8, [49, 50]), (3, [9, 10]), (11, [63, 64, 65])], Go.Proofs.Tryz.func21, by kernel_rfl, by kernel_rfl, by kernel_rfl, by kernel_rfl⟩
def v23 : VC := .seq (.reg false [⟨some 2, .as (.c (.lit (.bool false))), none⟩] [2]) (.seq (.reg false [⟨some 8, .bsl 2 [], none⟩, ⟨some 3, .as (.t 8), none⟩] [8]) (.seq (.seq (.reg false [⟨some 9, .mv (.t 0), none⟩, ⟨some 10, .len false (.t 9), none⟩, ⟨some 11, .mv (.c (.lit (.int .i64 0))), none⟩] []) (.block 0 (.loop (.seq (.reg false [⟨some 12, .bin .lss 0 (.t 11) (.t 10), none⟩] []) (.seq (.cond (.t 12) (.skip) (.exit 0)) (.seq (.block 1 (.seq (.reg false [⟨some 13, .mv (.t 11), none⟩, ⟨some 14, .ia 5 (.t 9) (.t 11), none⟩, ⟨some 15, .ld true 5 (.t 14), none⟩, ⟨some 5, .alloc (.agg [(.sl ⟨.nl, true⟩ 1 []), (.lit (.string (by8 ""))), (.lit (.string (by8 ""))), (.lit (.string (by8 ""))), (.sl ⟨.nl, true⟩ 1 [])]), none⟩, ⟨some 4, .as (.t 13), none⟩, ⟨none, .st 5 (.t 5) (.t 15), none⟩] [13, 14, 15]) (.seq (.seq (.reg true [⟨some 16, .ld true 5 (.t 5), none⟩, ⟨some 17, .call true 48 [(.t 16)], none⟩, ⟨some 18, .un .not (.t 17), none⟩, ⟨some 19, .mv (.t 18), none⟩, ⟨some 20, .mv (.t 4), (some (19, false))⟩, ⟨some 21, .bin .gtr 0 (.t 20) (.c (.lit (.int .i64 0))), (some (19, false))⟩, ⟨some 22, .mv (.t 21), (some (19, false))⟩, ⟨some 23, .fa 0 (.t 5), (some (22, true))⟩, ⟨some 24, .ld false 1 (.t 23), (some (22, true))⟩, ⟨some 25, .ia 2 (.t 24) (.c (.lit (.int .i64 0))), (some (22, true))⟩, ⟨some 26, .ld true 2 (.t 25), (some (22, true))⟩, ⟨some 27, .call true 49 [(.t 26)], (some (22, true))⟩, ⟨some 28, .mv (.t 0), (some (22, true))⟩, ⟨some 29, .mv (.t 4), (some (22, true))⟩, ⟨some 30, .bin .sub 0 (.t 29) (.c (.lit (.int .i64 1))), (some (22, true))⟩, ⟨some 31, .ia 5 (.t 28) (.t 30), (some (22, true))⟩, ⟨some 32, .fa 0 (.t 31), (some (22, true))⟩, ⟨some 33, .ld false 1 (.t 32), (some (22, true))⟩, ⟨some 34, .ia 2 (.t 33) (.c (.lit (.int .i64 0))), (some (22, true))⟩, ⟨some 35, .ld true 2 (.t 34), (some (22, true))⟩, ⟨some 36, .call true 49 [(.t 35)], (some (22, true))⟩, ⟨some 37, .bin .leq 0 (.t 27) (.t 36), (some (22, true))⟩, ⟨some 38, .pick (.t 22) (.t 37) (.c (.lit (.bool false))), (some (19, false))⟩, ⟨some 39, .pick (.t 19) (.c (.lit (.bool true))) (.t 38), none⟩] [16, 17, 18, 19, 20, 21, 22, 23, 24, 25, 26, 27, 28, 29, 30, 31, 32, 33, 34, 35, 36, 37, 38]) (.cond (.t 39) (.seq (.reg false [⟨some 2, .as (.c (.lit (.bool false))), none⟩] []) (.ret)) (.skip))) (.seq (.reg false [⟨some 40, .fa 0 (.t 5), none⟩, ⟨some 41, .ld false 1 (.t 40), none⟩, ⟨some 42, .len false (.t 41), none⟩, ⟨some 43, .mv (.c (.lit (.int .i64 0))), none⟩] [40]) (.block 2 (.loop (.seq (.reg false [⟨some 44, .bin .lss 0 (.t 43) (.t 42), none⟩] []) (.seq (.cond (.t 44) (.skip) (.exit 2)) (.seq (.block 3 (.seq (.reg false [⟨some 45, .ia 2 (.t 41) (.t 43), none⟩, ⟨some 46, .ld true 2 (.t 45), none⟩, ⟨some 7, .alloc (.agg [(.lit (.string (by8 ""))), (.lit (.string (by8 "")))]), none⟩, ⟨none, .st 2 (.t 7) (.t 46), none⟩] [45, 46]) (.seq (.seq (.reg false [⟨some 47, .mv (.t 3), none⟩, ⟨some 48, .ld true 2 (.t 7), none⟩, ⟨some 49, .call false 50 [(.t 47), (.t 48)], none⟩] [47, 48]) (.cond (.t 49) (.seq (.reg false [⟨some 2, .as (.c (.lit (.bool false))), none⟩] []) (.ret)) (.skip))) (.reg false [⟨some 50, .mv (.t 3), none⟩, ⟨some 51, .ld true 2 (.t 7), none⟩, ⟨some 52, .bsl 2 [(.t 51)], none⟩, ⟨some 53, .app 2 32 (.t 50) (.t 52), none⟩, ⟨some 3, .as (.t 53), none⟩] [50, 51, 52, 53])))) (.reg false [⟨some 54, .bin .add 0 (.t 43) (.c (.lit (.int .i64 1))), none⟩, ⟨some 43, .mv (.t 54), none⟩] [54])))))))))) (.reg false [⟨some 55, .bin .add 0 (.t 11) (.c (.lit (.int .i64 1))), none⟩, ⟨some 11, .mv (.t 55), none⟩] [55]))))))) (.seq (.reg false [⟨some 56, .mv (.t 0), none⟩, ⟨some 57, .len false (.t 56), none⟩, ⟨some 58, .bin .leq 0 (.t 57) (.c (.lit (.int .i64 40))), none⟩, ⟨some 2, .as (.t 58), none⟩] [56, 57, 58]) (.ret))))
theorem is23 : Is Go.Proofs.Tryz.prog 23 59 v23 [.t 2] := ⟨Go.Proofs.Tryz.f23, dl [(0, [2]), (1, [8]), (4, [13, 14, 15]), (5, [16, 17, 18, 19, 20, 21, 22, 23, 24, 25, 26, 27, 28, 29, 30, 31, 32, 33, 34, 35, 36, 37, 38]), (7, [40]), (9, [45, 46]), (10, [47, 48]), (12, [50, 51, 52, 53]), (13, [54]), (14, [55]), (15, [56, 57, 58])], Go.Proofs.Tryz.func23, by kernel_rfl, by kernel_rfl, by kernel_rfl, by kernel_rfl⟩
theorem ent_len {e : En} (h : entOk e = true) : 1 ≤ e.heads.length ∧ e.heads.length ≤ 8 := by
  rw [entOk, Bool.and_eq_true, Bool.and_eq_true, Bool.and_eq_true] at h
  have := h.2.2.1
  simp only [inR, Bool.and_eq_true, decide_eq_true_eq] at this
  omega
theorem en_get {l : List En} {i : Nat} (h : i < l.length) : l.getD i ⟨[], by8 "", by8 "", by8 "", []⟩ = l[i] := by simp [List.getD, h]
theorem entAt_eq {l : List En} {i : Nat} (h : i < l.length) : entAt l i = (entOk l[i] && (decide (i = 0) || slt (keyN (hd0 (l[i - 1]'(by omega)))) (keyN (hd0 l[i]))) && l[i].heads.all fun h => decide (h ∉ hdsL (l.take i))) := by
  unfold entAt atE
  rw [en_get h, en_get (by omega : i - 1 < l.length)]
theorem hd0_get {e : En} (h : 0 < e.heads.length) : hd0 e = e.heads[0] := head_get h
theorem entAt_ok {l : List En} {i : Nat} (h : i < l.length) (ha : entAt l i = true) : entOk l[i] = true := by
  rw [entAt_eq h, Bool.and_eq_true, Bool.and_eq_true] at ha
  exact ha.1.1
theorem ents_no {l : List En} {i : Nat} (h : i < l.length) (hn : entAt l i = false) : entsOk l = false := by
  have : (List.range l.length).all (entAt l) = false := by rw [List.all_eq_false]; exact ⟨i, List.mem_range.2 h, by simp [hn]⟩
  rw [entsOk, this]; rfl
theorem hds_no {l : List En} {i k : Nat} (h : i < l.length) (hk : k < l[i].heads.length) (hm : l[i].heads[k] ∈ hdsL (l.take i)) : entAt l i = false := by
  rw [entAt_eq h]
  have : (l[i].heads.all fun h => decide (h ∉ hdsL (l.take i))) = false := by
    rw [List.all_eq_false]
    exact ⟨_, List.getElem_mem hk, by simpa using hm⟩
  rw [this, Bool.and_false]
theorem hds_len : ∀ {l : List En}, (∀ e ∈ l, e.heads.length ≤ 8) → (hdsL l).length ≤ 8 * l.length
  | [], _ => by simp [hdsL]
  | e :: l, h => by
    have ih := hds_len (l := l) fun x hx => h x (List.mem_cons_of_mem _ hx)
    have h1 := h e List.mem_cons_self
    have : hdsL (e :: l) = e.heads ++ hdsL l := rfl
    rw [this, List.length_append, List.length_cons]; omega
section
variable {E : Env} (hE : E.P = Go.Proofs.Tryz.prog) (hZ : ∀ w, E.K w → KZ w)
include hE
theorem keyN_fx (x : Nd) (h : x.small) : Fx E 45 [] [.agg x.av] [] (.lit (.string (keyN x))) := by
  obtain ⟨h1, h2⟩ := h
  have hnv : x.av = [.lit (.string x.name), .lit (.string x.range)] := rfl
  have e : (by8 "@").size = 1 := by decide +kernel
  refine (is45.to hE).fx [] (by simp) rfl rfl ?_
  simp [v45, hnv, okC]
  refine ⟨by omega, by omega, ?_⟩
  exact Fin_ret rfl rfl
theorem textN_fx (x : Nd) (h : x.small) : Fx E 49 [] [.agg x.av] [] (.lit (.string (keyN x))) := needText_fx hE x.name x.range (by have := h.1; omega) (by have := h.2; omega)
set_option maxHeartbeats 4000000 in
theorem specEnts_fx (l : List En) (hl : l.length ≤ 1048576) (hs : ∀ e ∈ l, e.small) : Fx E 21 [] [.sl ro 5 (l.map fun x => .agg x.av)] [] (.lit (.bool (entsOk l))) := by
  have hst : ∀ i (h : i < l.length), l[i].small := fun i h => hs _ (List.getElem_mem h)
  have hev : ∀ e : En, e.av = [.sl ro 2 (e.heads.map fun x => .agg x.av), .lit (.string e.version), .lit (.string e.resolved), .lit (.string e.integrity), .sl ro 2 (e.needs.map fun x => .agg x.av)] := fun _ => rfl
  have hnv : ∀ x : Nd, x.av = [.lit (.string x.name), .lit (.string x.range)] := fun _ => rfl
  refine (is21.to hE).fx [] (by simp) rfl rfl ?_
  simp [v21, okC, frA, frA.frL]
  refine X_loop (τ := Nat) (fun i => ⟨[(0, .sl ro 5 (l.map fun x => .agg x.av)), (3, .lit (.int .i64 i))], []⟩) (fun i => i ≤ l.length ∧ ∀ j, j < i → entAt l j = true) (fun i => l.length - i) 0 (by simp) (Wk.both (by simp [wkL, wkV.same, hdsL]) trivial) ?_
  rintro i ⟨hi, hall⟩
  have hhl : (hdsL (l.take i)).length ≤ 8 * i := by
    have := hds_len (l := l.take i) fun e he => by
      obtain ⟨j, hj, rfl⟩ := List.getElem_of_mem he
      rw [List.length_take] at hj
      rw [List.getElem_take]
      exact (ent_len (entAt_ok (by omega) (hall j (by omega)))).2
    rw [List.length_take] at this
    omega
  simp
  by_cases hlt : i < l.length
  · have hat := entAt_eq hlt
    have no := ents_no hlt
    have hav := hev l[i]
    simp [hlt, hav, mkF, mkF.mkL, okC, putElem, upd]
    refine vcall_go (specEnt_fx hE l[i] (hst i hlt)) (by simp [hav]) (by simp) (by simp) (by simp) ?_
    cases hn : entOk l[i]
    · simp
      exact Fin_ret rfl (by rw [no (by rw [hat, hn]; rfl)]; rfl)
    obtain ⟨n1, n2⟩ := ent_len hn
    have h0 : 0 < l[i].heads.length := by omega
    have hn0v := hnv (l[i].heads[0])
    simp
    by_cases c2 : 0 < i
    · have hw : IntKind.i64.wrap ((i : Int) - 1) = ((i - 1 : Nat) : Int) := by rw [wrap_i64 (by omega) (by omega)]; omega
      have hlt1 : i - 1 < l.length := by omega
      have hn1 := entAt_ok hlt1 (hall _ (by omega))
      obtain ⟨m1, m2⟩ := ent_len hn1
      have h1 : 0 < l[i - 1].heads.length := by omega
      have hav1 := hev l[i - 1]
      have hn1v := hnv (l[i - 1].heads[0])
      simp [c2, hw, hlt, hlt1, hav, hav1, hn1v, hn0v, h0, h1, mkF, mkF.mkL, okC]
      refine vcall_go (keyN_fx hE (l[i - 1].heads[0]) ((hst _ hlt1).1.2 _ (List.getElem_mem _))) (by simp [hn1v]) (by simp) (by simp) (by simp) ?_
      simp [hlt, hav, hn0v, h0, mkF, mkF.mkL, okC]
      refine vcall_go (keyN_fx hE (l[i].heads[0]) ((hst _ hlt).1.2 _ (List.getElem_mem _))) (by simp [hn0v]) (by simp) (by simp) (by simp) ?_
      have hk1 : hd0 l[i - 1] = l[i - 1].heads[0] := hd0_get h1
      have hk0 : hd0 l[i] = l[i].heads[0] := hd0_get h0
      by_cases c3 : slt (keyN (l[i - 1].heads[0])) (keyN (l[i].heads[0])) = true
      · have hc : (decide (i = 0) || slt (keyN (hd0 l[i - 1])) (keyN (hd0 l[i]))) = true := by rw [hk1, hk0, c3]; simp
        simp [c3]
        refine X_loop (τ := Nat) (fun k => ⟨[(0, .sl ro 5 (l.map fun x => .agg x.av)), (3, .lit (.int .i64 i)), (4, .lit (.int .i64 k))], []⟩) (fun k => k ≤ l[i].heads.length ∧ ∀ m (h : m < l[i].heads.length), m < k → l[i].heads[m] ∉ hdsL (l.take i)) (fun k => l[i].heads.length - k) 0 (by simp) (Wk.both (by simp [wkL, wkV.same]) trivial) ?_
        rintro k ⟨hk, hks⟩
        simp [hlt, hav, mkF, mkF.mkL]
        by_cases hkl : k < l[i].heads.length
        · have hnk := hnv (l[i].heads[k])
          simp [hkl, hlt, hav, hnk, mkF, mkF.mkL, okC]
          refine vcall_go (specRes_fx hE l l[i].heads[k] hl (fun e he => (hs e he).1.1)) (by simp [hnk]) (by simp) (by simp) (by simp) ?_
          have hri := resE_iff hlt (List.getElem_mem hkl)
          by_cases c5 : l[i].heads[k] ∈ hdsL (l.take i)
          · have hne : ¬ fidx (fun e => hasN e.heads l[i].heads[k]) l = i := fun h => (hri.1 h) c5
            simp [hne]
            exact Fin_ret rfl (by rw [no (hds_no hlt hkl c5)]; rfl)
          · have hne : fidx (fun e => hasN e.heads l[i].heads[k]) l = i := hri.2 c5
            simp [hne]
            refine ⟨k + 1, ⟨by omega, fun m h hm => ?_⟩, by omega, Wk.both (by simp [wkL, wkV.same]; rw [wrapN (by omega)]; exact wkV.same _) trivial⟩
            rcases Nat.lt_succ_iff_lt_or_eq.1 hm with h2 | rfl
            · exact hks m h h2
            · exact c5
        · obtain rfl : k = l[i].heads.length := by omega
          simp
          refine ⟨i + 1, ⟨by omega, fun j hj => ?_⟩, by omega, Wk.both (by simp [wkL, wkV.same]; rw [wrapN (by omega)]; exact wkV.same _) trivial⟩
          rcases Nat.lt_succ_iff_lt_or_eq.1 hj with h | rfl
          · exact hall j h
          · rw [hat, hn, hc, Bool.true_and, Bool.true_and, List.all_eq_true]
            intro x hx
            obtain ⟨m, hm, rfl⟩ := List.getElem_of_mem hx
            simpa using hks m hm hm
      · have c3' : slt (keyN (l[i - 1].heads[0])) (keyN (l[i].heads[0])) = false := by simpa using c3
        simp [c3']
        exact Fin_ret rfl (by rw [no (by rw [hat, hk1, hk0, c3', hn]; simp; intro h; omega)]; rfl)
    · have hc : (decide (i = 0) || slt (keyN (hd0 (l[i - 1]'(by omega)))) (keyN (hd0 l[i]))) = true := by rw [show decide (i = 0) = true by simp; omega]; rfl
      simp [c2]
      refine X_loop (τ := Nat) (fun k => ⟨[(0, .sl ro 5 (l.map fun x => .agg x.av)), (3, .lit (.int .i64 i)), (4, .lit (.int .i64 k))], []⟩) (fun k => k ≤ l[i].heads.length ∧ ∀ m (h : m < l[i].heads.length), m < k → l[i].heads[m] ∉ hdsL (l.take i)) (fun k => l[i].heads.length - k) 0 (by simp) (Wk.both (by simp [wkL, wkV.same]) trivial) ?_
      rintro k ⟨hk, hks⟩
      simp [hlt, hav, mkF, mkF.mkL]
      by_cases hkl : k < l[i].heads.length
      · have hnk := hnv (l[i].heads[k])
        simp [hkl, hlt, hav, hnk, mkF, mkF.mkL, okC]
        refine vcall_go (specRes_fx hE l l[i].heads[k] hl (fun e he => (hs e he).1.1)) (by simp [hnk]) (by simp) (by simp) (by simp) ?_
        have hri := resE_iff hlt (List.getElem_mem hkl)
        by_cases c5 : l[i].heads[k] ∈ hdsL (l.take i)
        · have hne : ¬ fidx (fun e => hasN e.heads l[i].heads[k]) l = i := fun h => (hri.1 h) c5
          simp [hne]
          exact Fin_ret rfl (by rw [no (hds_no hlt hkl c5)]; rfl)
        · have hne : fidx (fun e => hasN e.heads l[i].heads[k]) l = i := hri.2 c5
          simp [hne]
          refine ⟨k + 1, ⟨by omega, fun m h hm => ?_⟩, by omega, Wk.both (by simp [wkL, wkV.same]; rw [wrapN (by omega)]; exact wkV.same _) trivial⟩
          rcases Nat.lt_succ_iff_lt_or_eq.1 hm with h2 | rfl
          · exact hks m h h2
          · exact c5
      · obtain rfl : k = l[i].heads.length := by omega
        simp
        refine ⟨i + 1, ⟨by omega, fun j hj => ?_⟩, by omega, Wk.both (by simp [wkL, wkV.same]; rw [wrapN (by omega)]; exact wkV.same _) trivial⟩
        rcases Nat.lt_succ_iff_lt_or_eq.1 hj with h | rfl
        · exact hall j h
        · rw [hat, hn, hc, Bool.true_and, Bool.true_and, List.all_eq_true]
          intro x hx
          obtain ⟨m, hm, rfl⟩ := List.getElem_of_mem hx
          simpa using hks m hm hm
  · obtain rfl : i = l.length := by omega
    have hA : (List.range l.length).all (entAt l) = true := all_range hall
    simp
    exact Fin_ret rfl (by rw [entsOk, hA]; simp [reC]; omega)
include hZ in
set_option maxHeartbeats 4000000 in
theorem implEnts_fx (l : List En) (hl : l.length ≤ 1048576) (hs : ∀ e ∈ l, e.small) : Fx E 23 [] [.sl ro 5 (l.map fun x => .agg x.av)] [] (.lit (.bool (entsOk l))) := by
  have hst : ∀ i (h : i < l.length), l[i].small := fun i h => hs _ (List.getElem_mem h)
  have hev : ∀ e : En, e.av = [.sl ro 2 (e.heads.map fun x => .agg x.av), .lit (.string e.version), .lit (.string e.resolved), .lit (.string e.integrity), .sl ro 2 (e.needs.map fun x => .agg x.av)] := fun _ => rfl
  have hnv : ∀ x : Nd, x.av = [.lit (.string x.name), .lit (.string x.range)] := fun _ => rfl
  refine (is23.to hE).fx [] (by simp) rfl rfl ?_
  simp [v23, okC, frA, frA.frL]
  refine X_loop (τ := Nat) (fun i => ⟨[(0, .sl ro 5 (l.map fun x => .agg x.av)), (3, .sl ⟨.cl 512, true⟩ 2 ((hdsL (l.take i)).map fun x => .agg x.av)), (9, .sl ro 5 (l.map fun x => .agg x.av)), (10, .lit (.int .i64 l.length)), (11, .lit (.int .i64 i))], []⟩) (fun i => i ≤ l.length ∧ ∀ j, j < i → entAt l j = true) (fun i => l.length - i) 0 (by simp) (Wk.both (by simp [wkL, wkV.same, hdsL]) trivial) ?_
  rintro i ⟨hi, hall⟩
  have hhl : (hdsL (l.take i)).length ≤ 8 * i := by
    have := hds_len (l := l.take i) fun e he => by
      obtain ⟨j, hj, rfl⟩ := List.getElem_of_mem he
      rw [List.length_take] at hj
      rw [List.getElem_take]
      exact (ent_len (entAt_ok (by omega) (hall j (by omega)))).2
    rw [List.length_take] at this
    omega
  simp
  by_cases hlt : i < l.length
  · have hat := entAt_eq hlt
    have no := ents_no hlt
    have hav := hev l[i]
    simp [hlt, hav, mkF, mkF.mkL, okC, putElem, upd]
    refine vcall_go (implEnt_fx hE hZ l[i] (hst i hlt)) (by simp [hav]) (by simp) (by simp) (by simp) ?_
    cases hn : entOk l[i]
    · simp
      exact Fin_ret rfl (by rw [no (by rw [hat, hn]; rfl)]; rfl)
    obtain ⟨n1, n2⟩ := ent_len hn
    have h0 : 0 < l[i].heads.length := by omega
    have hn0v := hnv (l[i].heads[0])
    simp
    by_cases c2 : 0 < i
    · have hw : IntKind.i64.wrap ((i : Int) - 1) = ((i - 1 : Nat) : Int) := by rw [wrap_i64 (by omega) (by omega)]; omega
      have hlt1 : i - 1 < l.length := by omega
      have hn1 := entAt_ok hlt1 (hall _ (by omega))
      obtain ⟨m1, m2⟩ := ent_len hn1
      have h1 : 0 < l[i - 1].heads.length := by omega
      have hav1 := hev l[i - 1]
      have hn1v := hnv (l[i - 1].heads[0])
      simp [c2, hw, hlt, hlt1, hav, hav1, hn1v, hn0v, h0, h1, mkF, mkF.mkL, okC]
      refine vcall_go (textN_fx hE (l[i].heads[0]) ((hst _ hlt).1.2 _ (List.getElem_mem _))) (by simp [hn0v]) (by simp) (by simp) (by simp) ?_
      simp [hlt, hlt1, hav1, hw, hn1v, h1, mkF, mkF.mkL, okC]
      refine vcall_go (textN_fx hE (l[i - 1].heads[0]) ((hst _ hlt1).1.2 _ (List.getElem_mem _))) (by simp [hn1v]) (by simp) (by simp) (by simp) ?_
      have hk1 : hd0 l[i - 1] = l[i - 1].heads[0] := hd0_get h1
      have hk0 : hd0 l[i] = l[i].heads[0] := hd0_get h0
      by_cases c3 : slt (keyN (l[i - 1].heads[0])) (keyN (l[i].heads[0])) = true
      · have hc : (decide (i = 0) || slt (keyN (hd0 l[i - 1])) (keyN (hd0 l[i]))) = true := by rw [hk1, hk0, c3]; simp
        simp [geq_slt, c3]
        refine X_loop (τ := Nat) (fun k => ⟨[(0, .sl ro 5 (l.map fun x => .agg x.av)), (3, .sl ⟨.cl 512, true⟩ 2 ((hdsL (l.take i) ++ l[i].heads.take k).map fun x => .agg x.av)), (5, .ptr 1000000000005 0 0), (9, .sl ro 5 (l.map fun x => .agg x.av)), (10, .lit (.int .i64 l.length)), (11, .lit (.int .i64 i)), (41, .sl ro 2 (l[i].heads.map fun x => .agg x.av)), (42, .lit (.int .i64 l[i].heads.length)), (43, .lit (.int .i64 k))], [(1000000000005, [.agg l[i].av])]⟩) (fun k => k ≤ l[i].heads.length ∧ ∀ m (h : m < l[i].heads.length), m < k → l[i].heads[m] ∉ hdsL (l.take i)) (fun k => l[i].heads.length - k) 0 (by simp) (Wk.both (by simp [wkL, wkV.same, hav, ro]) (by simp [wkB, hav, ro])) ?_
        rintro k ⟨hk, hks⟩
        simp [hav]
        by_cases hkl : k < l[i].heads.length
        · have hnk := hnv (l[i].heads[k])
          have hct := contN_fx hE (hdsL (l.take i) ++ l[i].heads.take k) l[i].heads[k] (by rw [List.length_append, List.length_take]; omega)
          rw [List.map_append] at hct
          simp [hkl, hnk, mkF, mkF.mkL, okC, putElem, upd]
          refine vcall_go hct (by simp [hnk]) (by simp) (by simp) (by simp) ?_
          have hcq : hasN (hdsL (l.take i) ++ l[i].heads.take k) l[i].heads[k] = decide (l[i].heads[k] ∈ hdsL (l.take i)) := by
            rw [Bool.eq_iff_iff, hasN_iff, List.mem_append, decide_eq_true_eq]
            refine ⟨fun h => ?_, .inl⟩
            rcases h with h | h
            · exact h
            · obtain ⟨m, hm, he⟩ := List.getElem_of_mem h
              rw [List.length_take] at hm
              rw [List.getElem_take] at he
              exact absurd he (heads_ne hn (by omega) hkl)
          rw [hcq]
          by_cases c5 : l[i].heads[k] ∈ hdsL (l.take i)
          · simp [c5]
            exact Fin_ret rfl (by rw [no (hds_no hlt hkl c5)]; rfl)
          · have htk : (l[i].heads.take (k + 1)) = l[i].heads.take k ++ [l[i].heads[k]] := List.take_succ_eq_append_getElem hkl
            simp [c5, hnk, mkF, mkF.mkL, okC, putElem, upd, fill, frA, frA.frL, AS.dem, mapV, dem, dem.demL, ro]
            have hmk : List.take (k + 1) (l[i].heads.map fun x => AV.agg x.av) = List.take k (l[i].heads.map fun x => AV.agg x.av) ++ [.agg [.lit (.string (l[i].heads[k]).name), .lit (.string (l[i].heads[k]).range)]] := by
              rw [← List.map_take, htk, List.map_append, List.map_take]; rfl
            refine ⟨by omega, k + 1, ⟨by omega, fun m h hm => ?_⟩, by omega, Wk.both (by simp [wkL, wkV.same, hmk]; rw [wrapN (by omega)]; exact wkV.same _) (by simp [wkB, hav, ro])⟩
            rcases Nat.lt_succ_iff_lt_or_eq.1 hm with h2 | rfl
            · exact hks m h h2
            · exact c5
        · obtain rfl : k = l[i].heads.length := by omega
          have e1 : List.take l[i].heads.length (l[i].heads.map fun x => AV.agg x.av) = l[i].heads.map fun x => AV.agg x.av := List.take_of_length_le (by simp)
          simp
          refine ⟨i + 1, ⟨by omega, fun j hj => ?_⟩, by omega, Wk.both (by simp [wkL, wkV.same, hdsL_take hlt, e1]; rw [wrapN (by omega)]; exact wkV.same _) trivial⟩
          rcases Nat.lt_succ_iff_lt_or_eq.1 hj with h | rfl
          · exact hall j h
          · rw [hat, hn, hc, Bool.true_and, Bool.true_and, List.all_eq_true]
            intro x hx
            obtain ⟨m, hm, rfl⟩ := List.getElem_of_mem hx
            simpa using hks m hm hm
      · have c3' : slt (keyN (l[i - 1].heads[0])) (keyN (l[i].heads[0])) = false := by simpa using c3
        simp [geq_slt, c3']
        exact Fin_ret rfl (by rw [no (by rw [hat, hk1, hk0, c3', hn]; simp; intro h; omega)]; rfl)
    · have hc : (decide (i = 0) || slt (keyN (hd0 (l[i - 1]'(by omega)))) (keyN (hd0 l[i]))) = true := by rw [show decide (i = 0) = true by simp; omega]; rfl
      simp [c2]
      refine X_loop (τ := Nat) (fun k => ⟨[(0, .sl ro 5 (l.map fun x => .agg x.av)), (3, .sl ⟨.cl 512, true⟩ 2 ((hdsL (l.take i) ++ l[i].heads.take k).map fun x => .agg x.av)), (5, .ptr 1000000000005 0 0), (9, .sl ro 5 (l.map fun x => .agg x.av)), (10, .lit (.int .i64 l.length)), (11, .lit (.int .i64 i)), (41, .sl ro 2 (l[i].heads.map fun x => .agg x.av)), (42, .lit (.int .i64 l[i].heads.length)), (43, .lit (.int .i64 k))], [(1000000000005, [.agg l[i].av])]⟩) (fun k => k ≤ l[i].heads.length ∧ ∀ m (h : m < l[i].heads.length), m < k → l[i].heads[m] ∉ hdsL (l.take i)) (fun k => l[i].heads.length - k) 0 (by simp) (Wk.both (by simp [wkL, wkV.same, hav, ro]) (by simp [wkB, hav, ro])) ?_
      rintro k ⟨hk, hks⟩
      simp [hav]
      by_cases hkl : k < l[i].heads.length
      · have hnk := hnv (l[i].heads[k])
        have hct := contN_fx hE (hdsL (l.take i) ++ l[i].heads.take k) l[i].heads[k] (by rw [List.length_append, List.length_take]; omega)
        rw [List.map_append] at hct
        simp [hkl, hnk, mkF, mkF.mkL, okC, putElem, upd]
        refine vcall_go hct (by simp [hnk]) (by simp) (by simp) (by simp) ?_
        have hcq : hasN (hdsL (l.take i) ++ l[i].heads.take k) l[i].heads[k] = decide (l[i].heads[k] ∈ hdsL (l.take i)) := by
          rw [Bool.eq_iff_iff, hasN_iff, List.mem_append, decide_eq_true_eq]
          refine ⟨fun h => ?_, .inl⟩
          rcases h with h | h
          · exact h
          · obtain ⟨m, hm, he⟩ := List.getElem_of_mem h
            rw [List.length_take] at hm
            rw [List.getElem_take] at he
            exact absurd he (heads_ne hn (by omega) hkl)
        rw [hcq]
        by_cases c5 : l[i].heads[k] ∈ hdsL (l.take i)
        · simp [c5]
          exact Fin_ret rfl (by rw [no (hds_no hlt hkl c5)]; rfl)
        · have htk : (l[i].heads.take (k + 1)) = l[i].heads.take k ++ [l[i].heads[k]] := List.take_succ_eq_append_getElem hkl
          simp [c5, hnk, mkF, mkF.mkL, okC, putElem, upd, fill, frA, frA.frL, AS.dem, mapV, dem, dem.demL, ro]
          have hmk : List.take (k + 1) (l[i].heads.map fun x => AV.agg x.av) = List.take k (l[i].heads.map fun x => AV.agg x.av) ++ [.agg [.lit (.string (l[i].heads[k]).name), .lit (.string (l[i].heads[k]).range)]] := by
            rw [← List.map_take, htk, List.map_append, List.map_take]; rfl
          refine ⟨by omega, k + 1, ⟨by omega, fun m h hm => ?_⟩, by omega, Wk.both (by simp [wkL, wkV.same, hmk]; rw [wrapN (by omega)]; exact wkV.same _) (by simp [wkB, hav, ro])⟩
          rcases Nat.lt_succ_iff_lt_or_eq.1 hm with h2 | rfl
          · exact hks m h h2
          · exact c5
      · obtain rfl : k = l[i].heads.length := by omega
        have e1 : List.take l[i].heads.length (l[i].heads.map fun x => AV.agg x.av) = l[i].heads.map fun x => AV.agg x.av := List.take_of_length_le (by simp)
        simp
        refine ⟨i + 1, ⟨by omega, fun j hj => ?_⟩, by omega, Wk.both (by simp [wkL, wkV.same, hdsL_take hlt, e1]; rw [wrapN (by omega)]; exact wkV.same _) trivial⟩
        rcases Nat.lt_succ_iff_lt_or_eq.1 hj with h | rfl
        · exact hall j h
        · rw [hat, hn, hc, Bool.true_and, Bool.true_and, List.all_eq_true]
          intro x hx
          obtain ⟨m, hm, rfl⟩ := List.getElem_of_mem hx
          simpa using hks m hm hm
  · obtain rfl : i = l.length := by omega
    have hA : (List.range l.length).all (entAt l) = true := all_range hall
    simp
    exact Fin_ret rfl (by rw [entsOk, hA]; simp [reC]; omega)
end
end Go.Proofs.YticockdhfglolaaGreatDoor.Vm
namespace Go.Proofs.YticockdhfglolaaGreatDoor.Vm
open Go Go.RowKit
set_option linter.unusedVariables false
set_option linter.unusedSimpArgs false
def v5 : VC := .seq (.reg false [⟨some 2, .as (.c (.lit (.bool false))), none⟩] [2]) (.seq (.reg false [⟨some 3, .as (.c (.lit (.int .i64 1048576))), none⟩] []) (.seq (.reg false [⟨some 7, .mv (.t 0), none⟩, ⟨some 8, .mv (.t 3), none⟩, ⟨some 9, .call false 20 [(.t 7), (.t 8)], none⟩, ⟨some 3, .as (.t 9), none⟩] [7, 8, 9]) (.seq (.seq (.reg false [⟨some 10, .mv (.t 3), none⟩, ⟨some 11, .bin .lss 0 (.t 10) (.c (.lit (.int .i64 0))), none⟩] [10]) (.cond (.t 11) (.seq (.reg false [⟨some 2, .as (.c (.lit (.bool true))), none⟩] []) (.ret)) (.skip))) (.seq (.reg false [⟨some 12, .mv (.t 0), none⟩, ⟨some 13, .call false 22 [(.t 12)], none⟩, ⟨some 14, .call false 21 [(.t 13)], none⟩, ⟨some 4, .as (.t 14), none⟩] [12, 13, 14]) (.seq (.reg false [⟨some 15, .mv (.t 0), none⟩, ⟨some 16, .call false 22 [(.t 15)], none⟩, ⟨some 5, .as (.t 16), none⟩] [15, 16]) (.seq (.reg false [⟨some 17, .mv (.t 5), none⟩, ⟨some 18, .call false 23 [(.t 17)], none⟩, ⟨some 6, .as (.t 18), none⟩] [17, 18]) (.seq (.seq (.reg false [⟨some 19, .mv (.t 6), none⟩, ⟨some 20, .mv (.t 4), none⟩, ⟨some 21, .bin .neq 2 (.t 19) (.t 20), none⟩] [19, 20]) (.cond (.t 21) (.seq (.reg false [⟨some 2, .as (.c (.lit (.bool false))), none⟩] []) (.ret)) (.skip))) (.seq (.seq (.reg false [⟨some 22, .mv (.t 5), none⟩, ⟨some 23, .mv (.t 0), none⟩, ⟨some 24, .call false 22 [(.t 23)], none⟩, ⟨some 25, .call false 24 [(.t 22), (.t 24)], none⟩, ⟨some 26, .un .not (.t 25), none⟩] [22, 23, 24, 25]) (.cond (.t 26) (.seq (.reg false [⟨some 2, .as (.c (.lit (.bool false))), none⟩] []) (.ret)) (.skip))) (.seq (.reg false [⟨some 2, .as (.c (.lit (.bool true))), none⟩] []) (.ret))))))))))
theorem is5 : Is Go.Proofs.Tryz.prog 5 27 v5 [.t 2] := ⟨Go.Proofs.Tryz.f5, dl [(0, [2]), (2, [7, 8, 9]), (3, [10]), (5, [12, 13, 14]), (6, [15, 16]), (7, [17, 18]), (8, [19, 20]), (10, [22, 23, 24, 25])], Go.Proofs.Tryz.func5, by kernel_rfl, by kernel_rfl, by kernel_rfl, by kernel_rfl⟩
theorem Nd.small_of (x : Nd) (l : Int) (h : 0 ≤ l) (h2 : l ≤ 1048576) (hs : 0 ≤ x.sz l) : x.small := by
  unfold Nd.sz at hs
  obtain ⟨l1, e1⟩ : ∃ y, l - x.name.size = y := ⟨_, rfl⟩
  rw [e1] at hs
  by_cases c1 : l1 < 0
  · rw [szIf_neg c1] at hs; omega
  rw [szIf_pos c1] at hs
  obtain ⟨l2, e2⟩ : ∃ y, l1 - x.range.size = y := ⟨_, rfl⟩
  rw [e2] at hs
  by_cases c2 : l2 < 0
  · rw [szIf_neg c2] at hs; omega
  rw [szIf_pos c2] at hs
  exact ⟨by omega, by omega⟩
theorem En.small_of (x : En) (l : Int) (h : 0 ≤ l) (h2 : l ≤ 1048576) (hs : 0 ≤ x.sz l) : x.small := by
  unfold En.sz at hs
  obtain ⟨l1, e1⟩ : ∃ y, szL Nd.sz x.heads l = y := ⟨_, rfl⟩
  rw [e1] at hs
  by_cases c1 : l1 < 0
  · rw [szIf_neg c1] at hs; omega
  rw [szIf_pos c1] at hs
  have b1 := szL_bnd (f := Nd.sz) (xs := x.heads) (l := l) Nd.sz_le (by omega)
  have k1 : l1 ≤ l := by rw [← e1]; exact szL_le (fun x _ l h => x.sz_le l h) (by omega)
  obtain ⟨l2, e2⟩ : ∃ y, l1 - x.version.size = y := ⟨_, rfl⟩
  rw [e2] at hs
  by_cases c2 : l2 < 0
  · rw [szIf_neg c2] at hs; omega
  rw [szIf_pos c2] at hs
  obtain ⟨l3, e3⟩ : ∃ y, l2 - x.resolved.size = y := ⟨_, rfl⟩
  rw [e3] at hs
  by_cases c3 : l3 < 0
  · rw [szIf_neg c3] at hs; omega
  rw [szIf_pos c3] at hs
  obtain ⟨l4, e4⟩ : ∃ y, l3 - x.integrity.size = y := ⟨_, rfl⟩
  rw [e4] at hs
  by_cases c4 : l4 < 0
  · rw [szIf_neg c4] at hs; omega
  rw [szIf_pos c4] at hs
  obtain ⟨l5, e5⟩ : ∃ y, szL Nd.sz x.needs l4 = y := ⟨_, rfl⟩
  rw [e5] at hs
  by_cases c5 : l5 < 0
  · rw [szIf_neg c5] at hs; omega
  rw [szIf_pos c5] at hs
  have b5 := szL_bnd (f := Nd.sz) (xs := x.needs) (l := l4) Nd.sz_le (by omega)
  exact ⟨⟨by omega, fun y hy => by obtain ⟨m, m1, m2, m3⟩ := b1.2 y hy; exact y.small_of m m1 (by omega) m3⟩, by omega, by omega, by omega, by omega, fun y hy => by obtain ⟨m, m1, m2, m3⟩ := b5.2 y hy; exact y.small_of m m1 (by omega) m3⟩
theorem Ens.small_of {l : List En} (h : 0 ≤ szL En.sz l 1048576) : l.length ≤ 1048576 ∧ ∀ e ∈ l, e.small := by
  have b := szL_bnd (f := En.sz) (xs := l) (l := 1048576) En.sz_le h
  exact ⟨by omega, fun e he => by obtain ⟨m, m1, m2, m3⟩ := b.2 e he; exact e.small_of m m1 m2 m3⟩
theorem Nd.eq_refl (x : Nd) : x.eq x = true := by simp [Nd.eq]
theorem En.eq_refl (x : En) : x.eq x = true := by simp [En.eq, all2_same Nd.eq_refl]
section
variable {E : Env} (hE : E.P = Go.Proofs.Tryz.prog) (hZ : ∀ w, E.K w → KZ w)
include hE hZ
set_option maxHeartbeats 1000000 in
theorem entsLaw_fx (l : List En) (hg : GoodL En.good l) : Fx E 5 [] [.sl ro 5 (l.map fun x => .agg x.av)] [] (.lit (.bool true)) := by
  obtain ⟨g1, g2⟩ := hg
  refine (is5.to hE).fx [] (by simp) rfl rfl ?_
  simp [v5]
  refine vcall_go (szEntryS_fx hE l 1048576 g2 (by omega) (by omega) g1) (by simp) (by simp) (by simp) (by simp) ?_
  simp
  by_cases c1 : szL En.sz l 1048576 < 0
  · simp [c1]
    exact Fin_ret rfl rfl
  obtain ⟨s1, s2⟩ := Ens.small_of (l := l) (by omega)
  have hx : ∀ x ∈ l, x.heads.length ≤ 1048576 ∧ x.needs.length ≤ 1048576 := fun x hm => ⟨(s2 x hm).1.1, (s2 x hm).2.2.2.2.1⟩
  have hto := toEntryS_fx hE l s1 hx
  simp [c1]
  refine vcall_go hto (by simp) (by simp) (by simp) (by simp) ?_
  simp
  refine vcall_go (specEnts_fx hE l s1 s2) (by simp) (by simp) (by simp) (by simp) ?_
  simp
  refine vcall_go hto (by simp) (by simp) (by simp) (by simp) ?_
  simp
  refine vcall_go (implEnts_fx hE hZ l s1 s2) (by simp) (by simp) (by simp) (by simp) ?_
  simp
  refine vcall_go hto (by simp) (by simp) (by simp) (by simp) ?_
  simp
  refine vcall_go (eqEntryS_fx hE l l s1 hx) (by simp) (by simp) (by simp) (by simp) ?_
  simp [all2_same En.eq_refl]
  exact Fin_ret rfl rfl
end
end Go.Proofs.YticockdhfglolaaGreatDoor.Vm
