/- Base64: both sides. -/
import Derived.Test.YtgegcfhifojjiaaDoorJl
namespace Go.Proofs.YtgegcfhifojjiaaDoor.Vm
open Go Go.RowKit
set_option linter.unusedVariables false
set_option linter.unusedSimpArgs false
def v40 : VC := .seq (.reg false [⟨some 0, .as (.c (.lit (.string (by8 "")))), none⟩] [0]) (.seq (.reg false [⟨some 0, .as (.c (.lit (.string (by8 "ABCDEFGHIJKLMNOPQRSTUVWXYZabcdefghijklmnopqrstuvwxyz0123456789+/")))), none⟩] []) (.ret))
theorem is40 : Is Go.Proofs.Tryd.prog 40 1 v40 [.t 0] := ⟨Go.Proofs.Tryd.f40, dl [(0, [0])], Go.Proofs.Tryd.func40, by kernel_rfl, by kernel_rfl, by kernel_rfl, by kernel_rfl⟩
def v41 : VC := .seq (.reg false [⟨some 2, .as (.c (.lit (.string (by8 "")))), none⟩] [2]) (.seq (.reg false [⟨some 10, .bsl 1 [], none⟩, ⟨some 3, .as (.t 10), none⟩] [10]) (.seq (.reg false [⟨some 11, .call false 40 [], none⟩, ⟨some 4, .as (.t 11), none⟩] [11]) (.seq (.seq (.reg false [⟨some 5, .as (.c (.lit (.int .i64 0))), none⟩] []) (.block 0 (.loop (.seq (.seq (.reg false [⟨some 12, .mv (.t 5), none⟩, ⟨some 13, .mv (.t 0), none⟩, ⟨some 14, .len true (.t 13), none⟩, ⟨some 15, .bin .lss 0 (.t 12) (.t 14), none⟩] [12, 13, 14]) (.cond (.t 15) (.skip) (.exit 0))) (.seq (.block 1 (.seq (.reg false [⟨some 6, .as (.c (.lit (.int .i64 0))), none⟩, ⟨some 7, .as (.c (.lit (.int .i64 0))), none⟩] []) (.seq (.seq (.reg false [⟨some 18, .mv (.t 5), none⟩, ⟨some 8, .as (.t 18), none⟩] [18]) (.block 2 (.loop (.seq (.seq (.reg false [⟨some 19, .mv (.t 8), none⟩, ⟨some 20, .mv (.t 5), none⟩, ⟨some 21, .bin .add 0 (.t 20) (.c (.lit (.int .i64 3))), none⟩, ⟨some 22, .bin .lss 0 (.t 19) (.t 21), none⟩] [19, 20, 21]) (.cond (.t 22) (.skip) (.exit 2))) (.seq (.block 3 (.seq (.reg false [⟨some 25, .mv (.t 6), none⟩, ⟨some 26, .bin .mul 0 (.t 25) (.c (.lit (.int .i64 256))), none⟩, ⟨some 6, .as (.t 26), none⟩] [25, 26]) (.seq (.reg false [⟨some 27, .mv (.t 8), none⟩, ⟨some 28, .mv (.t 0), none⟩, ⟨some 29, .len true (.t 28), none⟩, ⟨some 30, .bin .lss 0 (.t 27) (.t 29), none⟩] [27, 28, 29]) (.cond (.t 30) (.seq (.reg false [⟨some 31, .mv (.t 6), none⟩, ⟨some 32, .mv (.t 0), none⟩, ⟨some 33, .mv (.t 8), none⟩, ⟨some 34, .idx (.t 32) (.t 33), none⟩, ⟨some 35, .cvI .i64 (.t 34), none⟩, ⟨some 36, .bin .add 0 (.t 31) (.t 35), none⟩, ⟨some 6, .as (.t 36), none⟩] [31, 32, 33, 34, 35, 36]) (.reg false [⟨some 37, .mv (.t 7), none⟩, ⟨some 38, .bin .add 0 (.t 37) (.c (.lit (.int .i64 1))), none⟩, ⟨some 7, .as (.t 38), none⟩] [37, 38])) (.skip))))) (.reg false [⟨some 23, .mv (.t 8), none⟩, ⟨some 24, .bin .add 0 (.t 23) (.c (.lit (.int .i64 1))), none⟩, ⟨some 8, .as (.t 24), none⟩] [23, 24])))))) (.seq (.reg false [⟨some 9, .as (.c (.lit (.int .i64 0))), none⟩] []) (.block 4 (.loop (.seq (.seq (.reg false [⟨some 39, .mv (.t 9), none⟩, ⟨some 40, .bin .lss 0 (.t 39) (.c (.lit (.int .i64 4))), none⟩] [39]) (.cond (.t 40) (.skip) (.exit 4))) (.seq (.block 5 (.seq (.reg false [⟨some 43, .mv (.t 9), none⟩, ⟨some 44, .mv (.t 7), none⟩, ⟨some 45, .bin .gtr 0 (.t 43) (.t 44), none⟩] [43, 44]) (.cond (.t 45) (.reg false [⟨some 46, .mv (.t 3), none⟩, ⟨some 47, .bsl 1 [(.c (.lit (.int .u8 61)))], none⟩, ⟨some 48, .app 1 1 (.t 46) (.t 47), none⟩, ⟨some 3, .as (.t 48), none⟩] [46, 47, 48]) (.reg false [⟨some 49, .mv (.t 3), none⟩, ⟨some 50, .mv (.t 4), none⟩, ⟨some 51, .mv (.t 6), none⟩, ⟨some 52, .mv (.t 9), none⟩, ⟨some 53, .bin .mul 0 (.c (.lit (.int .i64 6))) (.t 52), none⟩, ⟨some 54, .bin .sub 0 (.c (.lit (.int .i64 18))) (.t 53), none⟩, ⟨some 55, .bin .shr 0 (.t 51) (.t 54), none⟩, ⟨some 56, .bin .and 0 (.t 55) (.c (.lit (.int .i64 63))), none⟩, ⟨some 57, .idx (.t 50) (.t 56), none⟩, ⟨some 58, .bsl 1 [(.t 57)], none⟩, ⟨some 59, .app 1 1 (.t 49) (.t 58), none⟩, ⟨some 3, .as (.t 59), none⟩] [49, 50, 51, 52, 53, 54, 55, 56, 57, 58, 59])))) (.reg false [⟨some 41, .mv (.t 9), none⟩, ⟨some 42, .bin .add 0 (.t 41) (.c (.lit (.int .i64 1))), none⟩, ⟨some 9, .as (.t 42), none⟩] [41, 42]))))))))) (.reg false [⟨some 16, .mv (.t 5), none⟩, ⟨some 17, .bin .add 0 (.t 16) (.c (.lit (.int .i64 3))), none⟩, ⟨some 5, .as (.t 17), none⟩] [16, 17])))))) (.seq (.reg false [⟨some 60, .mv (.t 3), none⟩, ⟨some 61, .b2s (.t 60), none⟩, ⟨some 2, .as (.t 61), none⟩] [60, 61]) (.ret)))))
theorem is41 : Is Go.Proofs.Tryd.prog 41 62 v41 [.t 2] := ⟨Go.Proofs.Tryd.f41, dl [(0, [2]), (1, [10]), (2, [11]), (4, [12, 13, 14]), (7, [18]), (8, [19, 20, 21]), (10, [25, 26]), (11, [27, 28, 29]), (12, [31, 32, 33, 34, 35, 36]), (13, [37, 38]), (9, [23, 24]), (15, [39]), (17, [43, 44]), (19, [49, 50, 51, 52, 53, 54, 55, 56, 57, 58, 59]), (18, [46, 47, 48]), (16, [41, 42]), (5, [16, 17]), (20, [60, 61])], Go.Proofs.Tryd.func41, by kernel_rfl, by kernel_rfl, by kernel_rfl, by kernel_rfl⟩
def v48 : VC := .seq (.reg false [⟨some 2, .as (.c (.lit (.string (by8 "")))), none⟩] [2]) (.seq (.reg false [⟨some 9, .bsl 1 [], none⟩, ⟨some 3, .as (.t 9), none⟩] [9]) (.seq (.seq (.reg false [⟨some 4, .as (.c (.lit (.int .i64 0))), none⟩] []) (.block 0 (.loop (.seq (.seq (.reg false [⟨some 10, .mv (.t 4), none⟩, ⟨some 11, .mv (.t 0), none⟩, ⟨some 12, .len true (.t 11), none⟩, ⟨some 13, .bin .lss 0 (.t 10) (.t 12), none⟩] [10, 11, 12]) (.cond (.t 13) (.skip) (.exit 0))) (.seq (.block 1 (.seq (.reg false [⟨some 16, .mv (.t 0), none⟩, ⟨some 17, .mv (.t 4), none⟩, ⟨some 18, .mv (.t 4), none⟩, ⟨some 19, .bin .add 0 (.t 18) (.c (.lit (.int .i64 3))), none⟩, ⟨some 20, .mv (.t 0), none⟩, ⟨some 21, .len true (.t 20), none⟩, ⟨some 22, .mn (.t 19) (.t 21), none⟩, ⟨some 23, .slS (.t 16) (some (.t 17)) (some (.t 22)), none⟩, ⟨some 5, .as (.t 23), none⟩] [16, 17, 18, 19, 20, 21, 22, 23]) (.seq (.reg false [⟨some 6, .as (.c (.lit (.int .i64 0))), none⟩] []) (.seq (.seq (.reg false [⟨some 24, .mv (.c (.lit (.int .i64 0))), none⟩] []) (.block 2 (.loop (.seq (.reg false [⟨some 25, .bin .lss 0 (.t 24) (.c (.lit (.int .i64 3))), none⟩] []) (.seq (.cond (.t 25) (.skip) (.exit 2)) (.seq (.block 3 (.seq (.reg false [⟨some 26, .mv (.t 24), none⟩, ⟨some 7, .as (.t 26), none⟩] [26]) (.seq (.reg false [⟨some 27, .mv (.t 6), none⟩, ⟨some 28, .bin .shl 0 (.t 27) (.c (.lit (.int .u64 8))), none⟩, ⟨some 6, .as (.t 28), none⟩] [27, 28]) (.seq (.reg false [⟨some 29, .mv (.t 7), none⟩, ⟨some 30, .mv (.t 5), none⟩, ⟨some 31, .len true (.t 30), none⟩, ⟨some 32, .bin .lss 0 (.t 29) (.t 31), none⟩] [29, 30, 31]) (.cond (.t 32) (.reg false [⟨some 33, .mv (.t 6), none⟩, ⟨some 34, .mv (.t 5), none⟩, ⟨some 35, .mv (.t 7), none⟩, ⟨some 36, .idx (.t 34) (.t 35), none⟩, ⟨some 37, .cvI .i64 (.t 36), none⟩, ⟨some 38, .bin .or 0 (.t 33) (.t 37), none⟩, ⟨some 6, .as (.t 38), none⟩] [33, 34, 35, 36, 37, 38]) (.skip)))))) (.reg false [⟨some 39, .bin .add 0 (.t 24) (.c (.lit (.int .i64 1))), none⟩, ⟨some 24, .mv (.t 39), none⟩] [39]))))))) (.seq (.reg false [⟨some 40, .mv (.c (.lit (.int .i64 0))), none⟩] []) (.block 4 (.loop (.seq (.reg false [⟨some 41, .bin .lss 0 (.t 40) (.c (.lit (.int .i64 4))), none⟩] []) (.seq (.cond (.t 41) (.skip) (.exit 4)) (.seq (.block 5 (.seq (.reg false [⟨some 42, .mv (.t 40), none⟩, ⟨some 8, .as (.t 42), none⟩] [42]) (.seq (.reg false [⟨some 43, .mv (.t 8), none⟩, ⟨some 44, .mv (.t 5), none⟩, ⟨some 45, .len true (.t 44), none⟩, ⟨some 46, .bin .leq 0 (.t 43) (.t 45), none⟩] [43, 44, 45]) (.cond (.t 46) (.reg false [⟨some 47, .mv (.t 3), none⟩, ⟨some 48, .mv (.t 6), none⟩, ⟨some 49, .mv (.t 8), none⟩, ⟨some 50, .bin .mul 0 (.c (.lit (.int .i64 6))) (.t 49), none⟩, ⟨some 51, .bin .sub 0 (.c (.lit (.int .i64 18))) (.t 50), none⟩, ⟨some 52, .bin .shr 0 (.t 48) (.t 51), none⟩, ⟨some 53, .bin .and 0 (.t 52) (.c (.lit (.int .i64 63))), none⟩, ⟨some 54, .idx (.c (.lit (.string (by8 "ABCDEFGHIJKLMNOPQRSTUVWXYZabcdefghijklmnopqrstuvwxyz0123456789+/")))) (.t 53), none⟩, ⟨some 55, .bsl 1 [(.t 54)], none⟩, ⟨some 56, .app 1 1 (.t 47) (.t 55), none⟩, ⟨some 3, .as (.t 56), none⟩] [47, 48, 49, 50, 51, 52, 53, 54, 55, 56]) (.reg false [⟨some 57, .mv (.t 3), none⟩, ⟨some 58, .bsl 1 [(.c (.lit (.int .u8 61)))], none⟩, ⟨some 59, .app 1 1 (.t 57) (.t 58), none⟩, ⟨some 3, .as (.t 59), none⟩] [57, 58, 59]))))) (.reg false [⟨some 60, .bin .add 0 (.t 40) (.c (.lit (.int .i64 1))), none⟩, ⟨some 40, .mv (.t 60), none⟩] [60]))))))))))) (.reg false [⟨some 14, .mv (.t 4), none⟩, ⟨some 15, .bin .add 0 (.t 14) (.c (.lit (.int .i64 3))), none⟩, ⟨some 4, .as (.t 15), none⟩] [14, 15])))))) (.seq (.reg false [⟨some 61, .mv (.t 3), none⟩, ⟨some 62, .b2s (.t 61), none⟩, ⟨some 2, .as (.t 62), none⟩] [61, 62]) (.ret))))
theorem is48 : Is Go.Proofs.Tryd.prog 48 63 v48 [.t 2] := ⟨Go.Proofs.Tryd.f48, dl [(0, [2]), (1, [9]), (3, [10, 11, 12]), (5, [16, 17, 18, 19, 20, 21, 22, 23]), (9, [26]), (10, [27, 28]), (11, [29, 30, 31]), (12, [33, 34, 35, 36, 37, 38]), (13, [39]), (16, [42]), (17, [43, 44, 45]), (19, [57, 58, 59]), (18, [47, 48, 49, 50, 51, 52, 53, 54, 55, 56]), (20, [60]), (4, [14, 15]), (21, [61, 62])], Go.Proofs.Tryd.func48, by kernel_rfl, by kernel_rfl, by kernel_rfl, by kernel_rfl⟩
def sgn : ByteArray := by8 "ABCDEFGHIJKLMNOPQRSTUVWXYZabcdefghijklmnopqrstuvwxyz0123456789+/"
theorem sgn_size : sgn.size = 64 := by decide +kernel
/-- the number of up to three bytes from a place -/
def nv (s : ByteArray) (i : Nat) : Nat → Nat
  | 0 => 0
  | k + 1 => nv s i k * 256 + (bt s (i + k)).toNat
theorem nv_lt (s : ByteArray) (i : Nat) : ∀ k, nv s i k < 256 ^ k
  | 0 => by simp [nv]
  | k + 1 => by
    have := nv_lt s i k
    have := (bt s (i + k)).toNat_lt
    simp only [nv, Nat.pow_succ]
    omega
/-- the sign at a place of a group of four -/
def ch (s : ByteArray) (i j : Nat) : UInt8 := if min 3 (s.size - i) < j then 61 else bt sgn (nv s i 3 / 2 ^ (18 - 6 * j) % 64)
def grp (s : ByteArray) (i j : Nat) : List UInt8 := (List.range j).map (ch s i)
theorem grp_succ (s : ByteArray) (i j : Nat) : grp s i (j + 1) = grp s i j ++ [ch s i j] := by simp [grp, List.range_succ]
theorem grp_len (s : ByteArray) (i j : Nat) : (grp s i j).length = j := by simp [grp]
def b6 (s : ByteArray) : Nat → List UInt8
  | 0 => []
  | k + 1 => b6 s k ++ grp s (3 * k) 4
theorem b6_len (s : ByteArray) : ∀ k, (b6 s k).length = 4 * k
  | 0 => rfl
  | k + 1 => by simp only [b6, List.length_append, b6_len s k, grp_len]; omega
def b64 (s : ByteArray) : ByteArray := ⟨(b6 s ((s.size + 2) / 3)).toArray⟩
theorem b64_size (s : ByteArray) : (b64 s).size = 4 * ((s.size + 2) / 3) := by
  have e : (b64 s).size = (b6 s ((s.size + 2) / 3)).length := List.size_toArray
  rw [e, b6_len]
theorem or_byte (a b : Nat) (ha : a < 65536) (hb : b < 256) : IntKind.i64.wrap ((((a : Int) * 256 % 2 ^ IntKind.i64.bits).toNat ||| ((b : Int) % 2 ^ IntKind.i64.bits).toNat : Nat) : Int) = ((a * 256 + b : Nat) : Int) := by
  rw [show ((2 : Int) ^ IntKind.i64.bits) = 18446744073709551616 from rfl, show ((a : Int) * 256 % 18446744073709551616).toNat = a * 256 by omega, show ((b : Int) % 18446744073709551616).toNat = b by omega]
  have := Nat.shiftLeft_add_eq_or_of_lt (b := b) (i := 8) (by omega) a
  rw [Nat.shiftLeft_eq, show 2 ^ 8 = 256 from rfl] at this
  rw [← this, wrap_i64 (by omega) (by omega)]
theorem fdivN (a b : Nat) : (a : Int).fdiv (b : Int) = ((a / b : Nat) : Int) := by
  rw [Int.fdiv_eq_ediv_of_nonneg _ (by omega)]; rfl
theorem six_bits (v j : Nat) (hv : v < 16777216) (hj : j < 4) : IntKind.i64.wrap ((((((v : Int).fdiv (2 ^ min (18 - 6 * (j : Int)).toNat IntKind.i64.bits) % 2 ^ IntKind.i64.bits).toNat &&& 63 % 2 ^ IntKind.i64.bits) : Nat)) : Int) = ((v / 2 ^ (18 - 6 * j) % 64 : Nat) : Int) := by
  have hb : IntKind.i64.bits = 64 := rfl
  rw [hb, show min (18 - 6 * (j : Int)).toNat 64 = 18 - 6 * j by omega, show ((2 : Int) ^ (18 - 6 * j)) = ((2 ^ (18 - 6 * j) : Nat) : Int) by simp, fdivN]
  have h1 : v / 2 ^ (18 - 6 * j) ≤ v := Nat.div_le_self _ _
  obtain ⟨q, hq⟩ : ∃ q, v / 2 ^ (18 - 6 * j) = q := ⟨_, rfl⟩
  rw [hq] at h1 ⊢
  have h2 : (((q : Nat) : Int) % 2 ^ 64).toNat = q := by
    rw [show ((2 : Int) ^ 64) = 18446744073709551616 from rfl]; omega
  rw [h2, show (63 : Nat) % 2 ^ 64 = 2 ^ 6 - 1 from rfl, Nat.and_two_pow_sub_one_eq_mod]
  have h3 : q % 2 ^ 6 < 64 := Nat.mod_lt _ (by decide)
  rw [wrap_i64 (by omega) (by omega)]
theorem bt_out {s : ByteArray} {i : Nat} (h : s.size ≤ i) : bt s i = 0 := by
  unfold bt
  rw [List.getD_eq_getElem?_getD, List.getElem?_eq_none (by simpa using h)]; rfl
section
variable {E : Env} (hE : E.P = Go.Proofs.Tryd.prog)
include hE
theorem signs_fx : Fx E 40 [] [] [] (.lit (.string sgn)) := by
  refine (is40.to hE).fx [] (by simp) rfl rfl ?_
  simp [v40]
  exact Fin_ret rfl rfl
set_option maxHeartbeats 2000000 in
theorem specB64_fx (s : ByteArray) (hs : s.size ≤ 1099511627776) : Fx E 41 [] [.lit (.string s)] [] (.lit (.string (b64 s))) := by
  refine (is41.to hE).fx [] (by simp) rfl rfl ?_
  simp [v41]
  refine vcall_go (signs_fx hE) (by simp) (by simp) (by simp) (by simp) ?_
  simp
  refine X_loop (τ := Nat) (fun k => ⟨[(0, .lit (.string s)), (3, .sl ⟨.cl 640, true⟩ 1 ((b6 s k).map fun b : UInt8 => .lit (.int .u8 b.toNat))), (4, .lit (.string sgn)), (5, .lit (.int .i64 (3 * k : Nat)))], []⟩) (fun k => k ≤ (s.size + 2) / 3) (fun k => s.size - k) 0 (Nat.zero_le _) (Wk.both (by simp [wkL, wkV.same, frA.frL, b6]) trivial) ?_
  intro k hk
  have hol := b6_len s k
  simp
  by_cases hlt : 3 * k < s.size
  · have hlt' : (3 * (k : Int) < s.size) := by omega
    simp [hlt']
    refine X_loop (τ := Nat) (fun j => ⟨[(0, .lit (.string s)), (3, .sl ⟨.cl 640, true⟩ 1 ((b6 s k).map fun b : UInt8 => .lit (.int .u8 b.toNat))), (4, .lit (.string sgn)), (5, .lit (.int .i64 (3 * k : Nat))), (6, .lit (.int .i64 (nv s (3 * k) j))), (7, .lit (.int .i64 (min j (s.size - 3 * k) : Nat))), (8, .lit (.int .i64 (3 * k + j : Nat)))], []⟩) (fun j => j ≤ 3) (fun j => 3 - j) 0 (by omega) (Wk.both (by simp [wkL, wkV.same, nv]) trivial) ?_
    intro j hj
    have hv := nv_lt s (3 * k) j
    have hv3 : nv s (3 * k) j ≤ 16777216 := by
      have : 256 ^ j ≤ 256 ^ 3 := Nat.pow_le_pow_right (by omega) hj
      omega
    simp
    rw [wrap_i64 (i := 3 * (k : Int) + 3) (by omega) (by omega)]
    by_cases h3 : j < 3
    · have h3' : (3 * (k : Int) + j < 3 * k + 3) := by omega
      have hv2 : nv s (3 * k) j < 65536 := by
        have : 256 ^ j ≤ 256 ^ 2 := Nat.pow_le_pow_right (by omega) (by omega)
        omega
      simp [h3']
      rw [wrap_i64 (i := (nv s (3 * k) j : Int) * 256) (by omega) (by omega)]
      by_cases c : 3 * k + j < s.size
      · have c' : (3 * (k : Int) + j < s.size) := by omega
        have hb := (bt s (3 * k + j)).toNat_lt
        simp [c', show (3 * (k : Int) + j).toNat = 3 * k + j by omega]
        have e1 : IntKind.i64.wrap (↑(nv s (3 * k) j) * 256 + IntKind.i64.wrap ↑(bt s (3 * k + j)).toNat) = (nv s (3 * k) (j + 1) : Nat) := by
          rw [wrap_i64 (i := ((bt s (3 * k + j)).toNat : Int)) (by omega) (by omega), wrap_i64 (by omega) (by omega)]; rfl
        have e2 : IntKind.i64.wrap (↑(min j (s.size - 3 * k)) + 1) = (min (j + 1) (s.size - 3 * k) : Nat) := by
          rw [wrap_i64 (by omega) (by omega)]; omega
        have e3 : IntKind.i64.wrap (3 * ↑k + ↑j + 1) = 3 * ↑k + ((j + 1 : Nat) : Int) := by
          rw [wrap_i64 (by omega) (by omega)]; omega
        rw [e1, e2, e3]
        exact ⟨by omega, j + 1, by omega, by omega, Wk.both (by simp [wkL, wkV.same]) trivial⟩
      · have c' : ¬ (3 * (k : Int) + j < s.size) := by omega
        simp [c']
        have e1 : ((nv s (3 * k) j : Nat) : Int) * 256 = (nv s (3 * k) (j + 1) : Nat) := by
          simp [nv, bt_out (s := s) (i := 3 * k + j) (by omega)]
        have e2 : min j (s.size - 3 * k) = min (j + 1) (s.size - 3 * k) := by omega
        have e3 : IntKind.i64.wrap (3 * ↑k + ↑j + 1) = 3 * ↑k + ((j + 1 : Nat) : Int) := by
          rw [wrap_i64 (by omega) (by omega)]; omega
        rw [e1, e3]
        exact ⟨j + 1, by omega, by omega, Wk.both (by simp only [← e2]; simp [wkL, wkV.same]) trivial⟩
    · obtain rfl : j = 3 := by omega
      simp
      refine X_loop (τ := Nat) (fun j => ⟨[(0, .lit (.string s)), (3, .sl ⟨.cl 640, true⟩ 1 ((b6 s k ++ grp s (3 * k) j).map fun b : UInt8 => .lit (.int .u8 b.toNat))), (4, .lit (.string sgn)), (5, .lit (.int .i64 (3 * k : Nat))), (6, .lit (.int .i64 (nv s (3 * k) 3))), (7, .lit (.int .i64 (min 3 (s.size - 3 * k) : Nat))), (9, .lit (.int .i64 j))], []⟩) (fun j => j ≤ 4) (fun j => 4 - j) 0 (by omega) (Wk.both (by simp [wkL, wkV.same, nv, grp]) trivial) ?_
      intro j hj
      have hgl := grp_len s (3 * k) j
      simp
      by_cases h4 : j < 4
      · have h4' : (j : Int) < 4 := by omega
        simp [h4']
        by_cases c : min 3 (s.size - 3 * k) < j
        · rw [decide_eq_true c]
          simp [okC, frA, frA.frL, AS.dem, mapV, dem, dem.demL]
          have e1 : ch s (3 * k) j = 61 := by rw [ch, if_pos c]
          refine ⟨by omega, j + 1, by omega, by omega, Wk.both (by simp [wkL, wkV.same, grp_succ, e1]; rw [wrap_i64 (by omega) (by omega)]; exact wkV.same _) trivial⟩
        · rw [decide_eq_false c]
          simp
          rw [wrap_i64 (i := 6 * (j : Int)) (by omega) (by omega), wrap_i64 (i := 18 - 6 * (j : Int)) (by omega) (by omega)]
          simp [show ¬ (18 - 6 * (j : Int) < 0) by omega]
          simp [okC, frA, frA.frL, AS.dem, mapV, dem, dem.demL]
          have h64 : nv s (3 * k) 3 / 2 ^ (18 - 6 * j) % 64 < 64 := Nat.mod_lt _ (by decide)
          have hsz := sgn_size
          rw [six_bits _ _ (by omega) h4, show (((nv s (3 * k) 3 / 2 ^ (18 - 6 * j) % 64 : Nat) : Int)).toNat = nv s (3 * k) 3 / 2 ^ (18 - 6 * j) % 64 from rfl]
          have e1 : ch s (3 * k) j = bt sgn (nv s (3 * k) 3 / 2 ^ (18 - 6 * j) % 64) := by rw [ch, if_neg c]
          refine ⟨by omega, by omega, by omega, j + 1, by omega, by omega, Wk.both (by simp [wkL, wkV.same, grp_succ, e1]; rw [wrap_i64 (by omega) (by omega)]; exact wkV.same _) trivial⟩
      · obtain rfl : j = 4 := by omega
        simp
        exact ⟨k + 1, by omega, by omega, Wk.both (by simp [wkL, wkV.same, b6]; rw [wrap_i64 (by omega) (by omega)]; exact .inl (by simp; omega)) trivial⟩
  · have hlt' : ¬ (3 * (k : Int) < s.size) := by omega
    simp [hlt']
    refine Xa_b2s (l := b6 s k) rfl ?_
    simp
    refine Fin_ret rfl ?_
    rw [show k = (s.size + 2) / 3 by omega]
    rfl
set_option maxHeartbeats 2000000 in
theorem implB64_fx (s : ByteArray) (hs : s.size ≤ 1099511627776) : Fx E 48 [] [.lit (.string s)] [] (.lit (.string (b64 s))) := by
  refine (is48.to hE).fx [] (by simp) rfl rfl ?_
  simp [v48]
  refine X_loop (τ := Nat) (fun k => ⟨[(0, .lit (.string s)), (3, .sl ⟨.cl 576, true⟩ 1 ((b6 s k).map fun b : UInt8 => .lit (.int .u8 b.toNat))), (4, .lit (.int .i64 (3 * k : Nat)))], []⟩) (fun k => k ≤ (s.size + 2) / 3) (fun k => s.size - k) 0 (Nat.zero_le _) (Wk.both (by simp [wkL, wkV.same, frA.frL, b6]) trivial) ?_
  intro k hk
  have hol := b6_len s k
  simp
  by_cases hlt : 3 * k < s.size
  · have hlt' : (3 * (k : Int) < s.size) := by omega
    simp [hlt']
    rw [wrap_i64 (i := 3 * (k : Int) + 3) (by omega) (by omega)]
    obtain ⟨m, hm⟩ : ∃ m, min (3 * k + 3) s.size = m := ⟨_, rfl⟩
    refine wh_ll (l := (3 * k : Nat)) (h := (m : Nat)) (k' := .i64) rfl (by simp; omega) (by omega) (by omega) (by omega) ?_
    obtain ⟨y, hy⟩ : ∃ y, s.extract (3 * k) m = y := ⟨_, rfl⟩
    have hyz : y.size = m - 3 * k := by rw [← hy, ext_size]; omega
    have hyb : ∀ j, j < y.size → bt y j = bt s (3 * k + j) := fun j hj => by rw [← hy]; exact bt_ext (by omega)
    simp [hy, show (3 * (k : Int)).toNat = 3 * k by omega]
    refine X_loop (τ := Nat) (fun j => ⟨[(0, .lit (.string s)), (3, .sl ⟨.cl 576, true⟩ 1 ((b6 s k).map fun b : UInt8 => .lit (.int .u8 b.toNat))), (4, .lit (.int .i64 (3 * k : Nat))), (5, .lit (.string y)), (6, .lit (.int .i64 (nv s (3 * k) j))), (24, .lit (.int .i64 j))], []⟩) (fun j => j ≤ 3) (fun j => 3 - j) 0 (by omega) (Wk.both (by simp [wkL, wkV.same, nv]) trivial) ?_
    intro j hj
    have hv := nv_lt s (3 * k) j
    have hv3 : nv s (3 * k) j ≤ 16777216 := by
      have : 256 ^ j ≤ 256 ^ 3 := Nat.pow_le_pow_right (by omega) hj
      omega
    simp
    by_cases h3 : j < 3
    · have h3' : ((j : Int) < 3) := by omega
      have hv2 : nv s (3 * k) j < 65536 := by
        have : 256 ^ j ≤ 256 ^ 2 := Nat.pow_le_pow_right (by omega) (by omega)
        omega
      simp [h3']
      rw [show ((2 : Int) ^ min 8 IntKind.i64.bits) = 256 from rfl, wrap_i64 (i := (nv s (3 * k) j : Int) * 256) (by omega) (by omega)]
      by_cases c : j < y.size
      · have hb := (bt s (3 * k + j)).toNat_lt
        simp [c, hyb j c]
        rw [wrap_i64 (i := ((bt s (3 * k + j)).toNat : Int)) (by omega) (by omega)]
        have e1 := or_byte (nv s (3 * k) j) (bt s (3 * k + j)).toNat hv2 hb
        have e3 : IntKind.i64.wrap (↑j + 1) = ((j + 1 : Nat) : Int) := by
          rw [wrap_i64 (by omega) (by omega)]; omega
        rw [e1, e3]
        exact ⟨j + 1, by omega, by omega, Wk.both (by simp [wkL, wkV.same, nv]) trivial⟩
      · simp [c]
        have e1 : ((nv s (3 * k) j : Nat) : Int) * 256 = (nv s (3 * k) (j + 1) : Nat) := by
          simp [nv, bt_out (s := s) (i := 3 * k + j) (by omega)]
        have e3 : IntKind.i64.wrap (↑j + 1) = ((j + 1 : Nat) : Int) := by
          rw [wrap_i64 (by omega) (by omega)]; omega
        rw [e1, e3]
        exact ⟨j + 1, by omega, by omega, Wk.both (by simp [wkL, wkV.same]) trivial⟩
    · obtain rfl : j = 3 := by omega
      simp
      refine X_loop (τ := Nat) (fun j => ⟨[(0, .lit (.string s)), (3, .sl ⟨.cl 576, true⟩ 1 ((b6 s k ++ grp s (3 * k) j).map fun b : UInt8 => .lit (.int .u8 b.toNat))), (4, .lit (.int .i64 (3 * k : Nat))), (5, .lit (.string y)), (6, .lit (.int .i64 (nv s (3 * k) 3))), (40, .lit (.int .i64 j))], []⟩) (fun j => j ≤ 4) (fun j => 4 - j) 0 (by omega) (Wk.both (by simp [wkL, wkV.same, nv, grp]) trivial) ?_
      intro j hj
      have hgl := grp_len s (3 * k) j
      simp
      by_cases h4 : j < 4
      · have h4' : (j : Int) < 4 := by omega
        simp [h4']
        by_cases c : y.size < j
        · simp [c, show ¬ j ≤ y.size by omega]
          simp [okC, frA, frA.frL, AS.dem, mapV, dem, dem.demL]
          have e1 : ch s (3 * k) j = 61 := by rw [ch, if_pos (by omega)]
          refine ⟨by omega, j + 1, by omega, by omega, Wk.both (by simp [wkL, wkV.same, grp_succ, e1]; rw [wrap_i64 (by omega) (by omega)]; exact wkV.same _) trivial⟩
        · simp [c, show j ≤ y.size by omega]
          rw [wrap_i64 (i := 6 * (j : Int)) (by omega) (by omega), wrap_i64 (i := 18 - 6 * (j : Int)) (by omega) (by omega)]
          simp [show ¬ (18 - 6 * (j : Int) < 0) by omega]
          simp [okC, frA, frA.frL, AS.dem, mapV, dem, dem.demL]
          have h64 : nv s (3 * k) 3 / 2 ^ (18 - 6 * j) % 64 < 64 := Nat.mod_lt _ (by decide)
          have hsz := sgn_size
          rw [six_bits _ _ (by omega) h4, show (((nv s (3 * k) 3 / 2 ^ (18 - 6 * j) % 64 : Nat) : Int)).toNat = nv s (3 * k) 3 / 2 ^ (18 - 6 * j) % 64 from rfl, show (by8 "ABCDEFGHIJKLMNOPQRSTUVWXYZabcdefghijklmnopqrstuvwxyz0123456789+/") = sgn from rfl]
          have e1 : ch s (3 * k) j = bt sgn (nv s (3 * k) 3 / 2 ^ (18 - 6 * j) % 64) := by rw [ch, if_neg (by omega)]
          refine ⟨by omega, by omega, by omega, j + 1, by omega, by omega, Wk.both (by simp [wkL, wkV.same, grp_succ, e1]; rw [wrap_i64 (by omega) (by omega)]; exact wkV.same _) trivial⟩
      · obtain rfl : j = 4 := by omega
        simp
        exact ⟨k + 1, by omega, by omega, Wk.both (by simp [wkL, wkV.same, b6]; rw [wrap_i64 (by omega) (by omega)]; exact .inl (by simp; omega)) trivial⟩
  · have hlt' : ¬ (3 * (k : Int) < s.size) := by omega
    simp [hlt']
    refine Xa_b2s (l := b6 s k) rfl ?_
    simp
    refine Fin_ret rfl ?_
    rw [show k = (s.size + 2) / 3 by omega]
    rfl
end
end Go.Proofs.YtgegcfhifojjiaaDoor.Vm
