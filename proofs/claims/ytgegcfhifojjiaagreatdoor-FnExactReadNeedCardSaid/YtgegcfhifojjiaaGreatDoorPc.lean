/- Bytes in percent: both sides. -/
import Derived.Test.YtgegcfhifojjiaaGreatDoorVi
namespace Go.Proofs.YtgegcfhifojjiaaGreatDoor.Vm
open Go Go.RowKit
set_option linter.unusedVariables false
set_option linter.unusedSimpArgs false
def v43 : VC := .seq (.reg false [⟨some 2, .as (.c (.lit (.string (by8 "")))), none⟩] [2]) (.seq (.reg false [⟨some 5, .bsl 1 [], none⟩, ⟨some 3, .as (.t 5), none⟩] [5]) (.seq (.seq (.reg false [⟨some 4, .as (.c (.lit (.int .i64 0))), none⟩] []) (.block 0 (.loop (.seq (.seq (.reg false [⟨some 6, .mv (.t 4), none⟩, ⟨some 7, .mv (.t 0), none⟩, ⟨some 8, .len true (.t 7), none⟩, ⟨some 9, .bin .lss 0 (.t 6) (.t 8), none⟩] [6, 7, 8]) (.cond (.t 9) (.skip) (.exit 0))) (.seq (.block 1 (.seq (.reg false [⟨some 12, .mv (.t 0), none⟩, ⟨some 13, .mv (.t 4), none⟩, ⟨some 14, .idx (.t 12) (.t 13), none⟩, ⟨some 15, .call false 107 [(.t 14)], none⟩] [12, 13, 14]) (.cond (.t 15) (.reg false [⟨some 16, .mv (.t 3), none⟩, ⟨some 17, .mv (.t 0), none⟩, ⟨some 18, .mv (.t 4), none⟩, ⟨some 19, .idx (.t 17) (.t 18), none⟩, ⟨some 20, .bsl 1 [(.t 19)], none⟩, ⟨some 21, .app 1 1 (.t 16) (.t 20), none⟩, ⟨some 3, .as (.t 21), none⟩] [16, 17, 18, 19, 20, 21]) (.reg true [⟨some 22, .mv (.t 3), none⟩, ⟨some 23, .mv (.t 0), none⟩, ⟨some 24, .mv (.t 4), none⟩, ⟨some 25, .idx (.t 23) (.t 24), none⟩, ⟨some 26, .bin .quo 0 (.t 25) (.c (.lit (.int .u8 16))), none⟩, ⟨some 27, .idx (.c (.lit (.string (by8 "0123456789ABCDEF")))) (.t 26), none⟩, ⟨some 28, .mv (.t 0), none⟩, ⟨some 29, .mv (.t 4), none⟩, ⟨some 30, .idx (.t 28) (.t 29), none⟩, ⟨some 31, .bin .rem 0 (.t 30) (.c (.lit (.int .u8 16))), none⟩, ⟨some 32, .idx (.c (.lit (.string (by8 "0123456789ABCDEF")))) (.t 31), none⟩, ⟨some 33, .bsl 1 [(.c (.lit (.int .u8 37))), (.t 27), (.t 32)], none⟩, ⟨some 34, .app 1 1 (.t 22) (.t 33), none⟩, ⟨some 3, .as (.t 34), none⟩] [22, 23, 24, 25, 26, 27, 28, 29, 30, 31, 32, 33, 34])))) (.reg false [⟨some 10, .mv (.t 4), none⟩, ⟨some 11, .bin .add 0 (.t 10) (.c (.lit (.int .i64 1))), none⟩, ⟨some 4, .as (.t 11), none⟩] [10, 11])))))) (.seq (.reg false [⟨some 35, .mv (.t 3), none⟩, ⟨some 36, .b2s (.t 35), none⟩, ⟨some 2, .as (.t 36), none⟩] [35, 36]) (.ret))))
theorem is43 : Is Go.Proofs.Tryz.prog 43 37 v43 [.t 2] := ⟨Go.Proofs.Tryz.f43, dl [(0, [2]), (1, [5]), (3, [6, 7, 8]), (5, [12, 13, 14]), (7, [22, 23, 24, 25, 26, 27, 28, 29, 30, 31, 32, 33, 34]), (6, [16, 17, 18, 19, 20, 21]), (4, [10, 11]), (8, [35, 36])], Go.Proofs.Tryz.func43, by kernel_rfl, by kernel_rfl, by kernel_rfl, by kernel_rfl⟩
def v118 : VC := .seq (.reg false [⟨some 2, .as (.c (.lit (.string (by8 "")))), none⟩] [2]) (.seq (.reg false [⟨some 5, .bsl 1 [], none⟩, ⟨some 3, .as (.t 5), none⟩] [5]) (.seq (.seq (.reg false [⟨some 6, .mv (.t 0), none⟩, ⟨some 7, .len true (.t 6), none⟩, ⟨some 8, .mv (.c (.lit (.int .i64 0))), none⟩] [6]) (.block 0 (.loop (.seq (.reg false [⟨some 9, .bin .lss 0 (.t 8) (.t 7), none⟩] []) (.seq (.cond (.t 9) (.skip) (.exit 0)) (.seq (.block 1 (.seq (.reg false [⟨some 10, .mv (.t 8), none⟩, ⟨some 4, .as (.t 10), none⟩] [10]) (.reg true [⟨some 11, .mv (.t 3), none⟩, ⟨some 12, .mv (.t 0), none⟩, ⟨some 13, .mv (.t 4), none⟩, ⟨some 14, .idx (.t 12) (.t 13), none⟩, ⟨some 15, .bin .shr 0 (.t 14) (.c (.lit (.int .u64 4))), none⟩, ⟨some 16, .idx (.c (.lit (.string (by8 "0123456789abcdef")))) (.t 15), none⟩, ⟨some 17, .mv (.t 0), none⟩, ⟨some 18, .mv (.t 4), none⟩, ⟨some 19, .idx (.t 17) (.t 18), none⟩, ⟨some 20, .bin .and 0 (.t 19) (.c (.lit (.int .u8 15))), none⟩, ⟨some 21, .idx (.c (.lit (.string (by8 "0123456789abcdef")))) (.t 20), none⟩, ⟨some 22, .bsl 1 [(.t 16), (.t 21)], none⟩, ⟨some 23, .app 1 1 (.t 11) (.t 22), none⟩, ⟨some 3, .as (.t 23), none⟩] [11, 12, 13, 14, 15, 16, 17, 18, 19, 20, 21, 22, 23]))) (.reg false [⟨some 24, .bin .add 0 (.t 8) (.c (.lit (.int .i64 1))), none⟩, ⟨some 8, .mv (.t 24), none⟩] [24]))))))) (.seq (.reg false [⟨some 25, .mv (.t 3), none⟩, ⟨some 26, .b2s (.t 25), none⟩, ⟨some 2, .as (.t 26), none⟩] [25, 26]) (.ret))))
theorem is118 : Is Go.Proofs.Tryz.prog 118 27 v118 [.t 2] := ⟨Go.Proofs.Tryz.f118, dl [(0, [2]), (1, [5]), (2, [6]), (4, [10]), (5, [11, 12, 13, 14, 15, 16, 17, 18, 19, 20, 21, 22, 23]), (6, [24]), (7, [25, 26])], Go.Proofs.Tryz.func118, by kernel_rfl, by kernel_rfl, by kernel_rfl, by kernel_rfl⟩
def v48 : VC := .seq (.reg false [⟨some 2, .as (.c (.lit (.string (by8 "")))), none⟩] [2]) (.seq (.reg false [⟨some 3, .as (.c (.lit (.string (by8 "")))), none⟩] []) (.seq (.seq (.reg false [⟨some 6, .mv (.t 0), none⟩, ⟨some 7, .len true (.t 6), none⟩, ⟨some 8, .mv (.c (.lit (.int .i64 0))), none⟩] [6]) (.block 0 (.loop (.seq (.reg false [⟨some 9, .bin .lss 0 (.t 8) (.t 7), none⟩] []) (.seq (.cond (.t 9) (.skip) (.exit 0)) (.seq (.block 1 (.seq (.reg false [⟨some 10, .mv (.t 8), none⟩, ⟨some 4, .as (.t 10), none⟩] [10]) (.seq (.reg false [⟨some 11, .mv (.t 0), none⟩, ⟨some 12, .mv (.t 4), none⟩, ⟨some 13, .idx (.t 11) (.t 12), none⟩, ⟨some 5, .as (.t 13), none⟩] [11, 12, 13]) (.seq (.reg false [⟨some 14, .mv (.t 5), none⟩, ⟨some 15, .call false 116 [(.t 14)], none⟩, ⟨some 16, .mv (.t 15), none⟩, ⟨some 17, .mv (.t 5), (some (16, false))⟩, ⟨some 18, .call false 113 [(.t 17)], (some (16, false))⟩, ⟨some 19, .pick (.t 16) (.c (.lit (.bool true))) (.t 18), none⟩, ⟨some 20, .mv (.t 19), none⟩, ⟨some 21, .mv (.t 5), (some (20, false))⟩, ⟨some 22, .bin .eql 0 (.t 21) (.c (.lit (.int .u8 46))), (some (20, false))⟩, ⟨some 23, .pick (.t 20) (.c (.lit (.bool true))) (.t 22), none⟩, ⟨some 24, .mv (.t 23), none⟩, ⟨some 25, .mv (.t 5), (some (24, false))⟩, ⟨some 26, .bin .eql 0 (.t 25) (.c (.lit (.int .u8 95))), (some (24, false))⟩, ⟨some 27, .pick (.t 24) (.c (.lit (.bool true))) (.t 26), none⟩, ⟨some 28, .mv (.t 27), none⟩, ⟨some 29, .mv (.t 5), (some (28, false))⟩, ⟨some 30, .bin .eql 0 (.t 29) (.c (.lit (.int .u8 45))), (some (28, false))⟩, ⟨some 31, .pick (.t 28) (.c (.lit (.bool true))) (.t 30), none⟩, ⟨some 32, .mv (.t 31), none⟩, ⟨some 33, .mv (.t 5), (some (32, false))⟩, ⟨some 34, .bin .eql 0 (.t 33) (.c (.lit (.int .u8 126))), (some (32, false))⟩, ⟨some 35, .pick (.t 32) (.c (.lit (.bool true))) (.t 34), none⟩] [14, 15, 16, 17, 18, 19, 20, 21, 22, 23, 24, 25, 26, 27, 28, 29, 30, 31, 32, 33, 34]) (.cond (.t 35) (.reg false [⟨some 36, .mv (.t 3), none⟩, ⟨some 37, .mv (.t 0), none⟩, ⟨some 38, .mv (.t 4), none⟩, ⟨some 39, .mv (.t 4), none⟩, ⟨some 40, .bin .add 0 (.t 39) (.c (.lit (.int .i64 1))), none⟩, ⟨some 41, .slS (.t 37) (some (.t 38)) (some (.t 40)), none⟩, ⟨some 42, .bin .add 0 (.t 36) (.t 41), none⟩, ⟨some 3, .as (.t 42), none⟩] [36, 37, 38, 39, 40, 41, 42]) (.reg false [⟨some 43, .mv (.t 3), none⟩, ⟨some 44, .mv (.t 0), none⟩, ⟨some 45, .mv (.t 4), none⟩, ⟨some 46, .mv (.t 4), none⟩, ⟨some 47, .bin .add 0 (.t 46) (.c (.lit (.int .i64 1))), none⟩, ⟨some 48, .slS (.t 44) (some (.t 45)) (some (.t 47)), none⟩, ⟨some 49, .call false 118 [(.t 48)], none⟩, ⟨some 50, .call false 117 [(.t 49)], none⟩, ⟨some 51, .bin .add 0 (.c (.lit (.string (by8 "%")))) (.t 50), none⟩, ⟨some 52, .bin .add 0 (.t 43) (.t 51), none⟩, ⟨some 3, .as (.t 52), none⟩] [43, 44, 45, 46, 47, 48, 49, 50, 51, 52])))))) (.reg false [⟨some 53, .bin .add 0 (.t 8) (.c (.lit (.int .i64 1))), none⟩, ⟨some 8, .mv (.t 53), none⟩] [53]))))))) (.seq (.reg false [⟨some 54, .mv (.t 3), none⟩, ⟨some 2, .as (.t 54), none⟩] [54]) (.ret))))
theorem is48 : Is Go.Proofs.Tryz.prog 48 55 v48 [.t 2] := ⟨Go.Proofs.Tryz.f48, dl [(0, [2]), (2, [6]), (4, [10]), (5, [11, 12, 13]), (6, [14, 15, 16, 17, 18, 19, 20, 21, 22, 23, 24, 25, 26, 27, 28, 29, 30, 31, 32, 33, 34]), (8, [43, 44, 45, 46, 47, 48, 49, 50, 51, 52]), (7, [36, 37, 38, 39, 40, 41, 42]), (9, [53]), (10, [54])], Go.Proofs.Tryz.func48, by kernel_rfl, by kernel_rfl, by kernel_rfl, by kernel_rfl⟩
def hexU (n : Nat) : UInt8 := bt (by8 "0123456789ABCDEF") n
def hexL (n : Nat) : UInt8 := bt (by8 "0123456789abcdef") n
def pctB (u : UInt8) : List UInt8 := if safeB u = true then [u] else [37, hexU (u.toNat / 16), hexU (u.toNat % 16)]
def pctL (l : List UInt8) : List UInt8 := (l.map pctB).flatten
def pct (s : ByteArray) : ByteArray := ⟨(pctL s.data.toList).toArray⟩
theorem pctL_next {s : ByteArray} {i : Nat} (h : i < s.size) : pctL (s.data.toList.take (i + 1)) = pctL (s.data.toList.take i) ++ pctB (bt s i) := by
  rw [List.take_add_one, bt_get h]
  simp [pctL]
theorem pctL_len (l : List UInt8) : (pctL l).length ≤ 3 * l.length := by
  induction l with
  | nil => simp [pctL]
  | cons u l ih =>
    have : (pctB u).length ≤ 3 := by unfold pctB; split <;> simp
    simp only [pctL, List.map_cons, List.flatten_cons, List.length_append, List.length_cons] at ih ⊢
    omega
theorem pct_size (s : ByteArray) : (pct s).size ≤ 3 * s.size := by
  have := pctL_len s.data.toList
  have e : (pct s).size = (pctL s.data.toList).length := List.size_toArray
  have e2 : s.data.toList.length = s.size := by simp
  omega
def hexLs (l : List UInt8) : List UInt8 := (l.map fun u => [hexL (u.toNat / 16), hexL (u.toNat % 16)]).flatten
def hexS (s : ByteArray) : ByteArray := ⟨(hexLs s.data.toList).toArray⟩
theorem hexLs_next {s : ByteArray} {i : Nat} (h : i < s.size) : hexLs (s.data.toList.take (i + 1)) = hexLs (s.data.toList.take i) ++ [hexL ((bt s i).toNat / 16), hexL ((bt s i).toNat % 16)] := by
  rw [List.take_add_one, bt_get h]
  simp [hexLs]
theorem hexLs_len (l : List UInt8) : (hexLs l).length = 2 * l.length := by
  induction l with
  | nil => rfl
  | cons u l ih =>
    simp only [hexLs, List.map_cons, List.flatten_cons, List.length_append, List.length_cons, List.length_nil] at ih ⊢
    omega
section
variable {E : Env} (hE : E.P = Go.Proofs.Tryz.prog) (hZ : ∀ w, E.K w → KZ w)
include hE
set_option maxHeartbeats 1000000 in
theorem specPct_fx (s : ByteArray) (hs : s.size ≤ 1099511627) : Fx E 43 [] [.lit (.string s)] [] (.lit (.string (pct s))) := by
  refine (is43.to hE).fx [] (by simp) rfl rfl ?_
  simp [v43]
  refine X_loop (τ := Nat) (fun i => ⟨[(0, .lit (.string s)), (3, .sl ⟨.cl 320, true⟩ 1 ((pctL (s.data.toList.take i)).map fun b : UInt8 => .lit (.int .u8 b.toNat))), (4, .lit (.int .i64 i))], []⟩) (fun i => i ≤ s.size) (fun i => s.size - i) 0 (by simp) (Wk.both (by simp [wkL, wkV.same, pctL, frA.frL]) trivial) ?_
  rintro i hi
  simp
  have hl := pctL_len (s.data.toList.take i)
  have hl2 : (s.data.toList.take i).length ≤ s.size := by simp; omega
  by_cases hlt : i < s.size
  · simp [hlt]
    have hn := pctL_next hlt
    refine vcall_go (l01Safe_fx hE (bt s i)) (by simp) (by simp) (by simp) (by simp) ?_
    simp
    cases c1 : safeB (bt s i)
    · rw [pctB, if_neg (by simp [c1])] at hn
      have hu := (bt s i).toNat_lt
      obtain ⟨d, hd⟩ : ∃ d, (bt s i).toNat / 16 = d := ⟨_, rfl⟩
      obtain ⟨m, hm⟩ : ∃ m, (bt s i).toNat % 16 = m := ⟨_, rfl⟩
      have e1 : IntKind.u8.wrap (((bt s i).toNat : Int) / 16) = (d : Int) := by rw [← hd, IntKind.wrap_u8]; omega
      have e2 : ((bt s i).toNat : Int).tmod 16 = (m : Int) := by rw [← hm]; exact tmodN _ 16
      have h16 : (by8 "0123456789ABCDEF").size = 16 := by decide +kernel
      rw [hd, hm] at hn
      have hd1 : (d : Int) < 16 := by omega
      have hm1 : (m : Int) < 16 := by omega
      simp [hlt, e1, e2, h16, hd1, hm1, okC, frA, frA.frL, AS.dem, mapV, dem, dem.demL]
      refine ⟨by omega, i + 1, by omega, by omega, Wk.both (by rw [hn]; simp [wkL, wkV.same, hexU]; rw [wrapN (by omega)]; exact wkV.same _) trivial⟩
    · rw [pctB, if_pos c1] at hn
      simp [hlt, okC, frA, frA.frL, AS.dem, mapV, dem, dem.demL]
      refine ⟨by omega, i + 1, by omega, by omega, Wk.both (by rw [hn]; simp [wkL, wkV.same]; rw [wrapN (by omega)]; exact wkV.same _) trivial⟩
  · obtain rfl : i = s.size := by omega
    simp
    rw [show List.take s.size s.data.toList = s.data.toList from List.take_of_length_le (by simp)]
    refine Xa_b2s (l := pctL s.data.toList) rfl ?_
    simp
    exact Fin_ret rfl rfl
set_option maxHeartbeats 1000000 in
theorem implHex_fx (s : ByteArray) (hs : s.size ≤ 1099511627) : Fx E 118 [] [.lit (.string s)] [] (.lit (.string (hexS s))) := by
  refine (is118.to hE).fx [] (by simp) rfl rfl ?_
  simp [v118]
  refine X_loop (τ := Nat) (fun i => ⟨[(0, .lit (.string s)), (3, .sl ⟨.cl 320, true⟩ 1 ((hexLs (s.data.toList.take i)).map fun b : UInt8 => .lit (.int .u8 b.toNat))), (7, .lit (.int .i64 s.size)), (8, .lit (.int .i64 i))], []⟩) (fun i => i ≤ s.size) (fun i => s.size - i) 0 (by simp) (Wk.both (by simp [wkL, wkV.same, hexLs, frA.frL]) trivial) ?_
  rintro i hi
  simp
  have hl := hexLs_len (s.data.toList.take i)
  have hl2 : (s.data.toList.take i).length ≤ s.size := by simp; omega
  by_cases hlt : i < s.size
  · have hn := hexLs_next hlt
    have hu := (bt s i).toNat_lt
    obtain ⟨d, hd⟩ : ∃ d, (bt s i).toNat / 16 = d := ⟨_, rfl⟩
    obtain ⟨m, hm⟩ : ∃ m, (bt s i).toNat % 16 = m := ⟨_, rfl⟩
    have h16 : (by8 "0123456789abcdef").size = 16 := by decide +kernel
    rw [hd, hm] at hn
    have hd1 : (d : Int) < 16 := by omega
    have hm1 : (m : Int) < 16 := by omega
    have e1 : ((bt s i).toNat : Int).fdiv (2 ^ min 4 IntKind.u8.bits) = (d : Int) := by
      rw [show (2 : Int) ^ min 4 IntKind.u8.bits = 16 by decide, Int.fdiv_eq_ediv_of_nonneg _ (by omega)]; omega
    have e2 : IntKind.u8.wrap (((bt s i).toNat % 2 ^ IntKind.u8.bits &&& 15 % 2 ^ IntKind.u8.bits : Nat) : Int) = (m : Int) := by
      have : (bt s i).toNat % 2 ^ IntKind.u8.bits &&& 15 % 2 ^ IntKind.u8.bits = (bt s i).toNat % 16 := by
        show (bt s i).toNat % 256 &&& 15 = (bt s i).toNat % 16
        rw [Nat.mod_eq_of_lt (show (bt s i).toNat < 256 by omega)]
        exact Nat.and_two_pow_sub_one_eq_mod _ 4
      rw [this, IntKind.wrap_u8]; omega
    simp [hlt, h16, hd1, hm1, e1, e2, okC, frA, frA.frL, AS.dem, mapV, dem, dem.demL]
    refine ⟨by omega, i + 1, by omega, by omega, Wk.both (by rw [hn]; simp [wkL, wkV.same, hexL]; rw [wrapN (by omega)]; exact wkV.same _) trivial⟩
  · obtain rfl : i = s.size := by omega
    simp
    rw [show List.take s.size s.data.toList = s.data.toList from List.take_of_length_le (by simp)]
    refine Xa_b2s (l := hexLs s.data.toList) rfl ?_
    simp
    exact Fin_ret rfl rfl
theorem toUpper_fx (s : ByteArray) (hs : s.size ≤ 140737488355328) (ha : ∀ (j : Nat) (b : UInt8), s.data.toList[j]? = some b → b.toNat < 128) : Fx E 117 [] [.lit (.string s)] [] (.lit (.string ⟨(Lib.toUpperA s.data.toList).toArray⟩)) :=
  Fx_lit (args := [.string s]) rfl fun w hw => by
    rw [hE]
    exact Go.Proofs.Tryz.strings_ToUpper_ascii s w hs ha
omit hE in
theorem hex_up : ∀ n : _root_.Fin 16, Lib.upperB (hexL n.val) = hexU n.val ∧ (hexL n.val).toNat < 128 := by decide +kernel
omit hE in
theorem ext_one {s : ByteArray} {i : Nat} (h : i < s.size) : s.extract i (i + 1) = one (bt s i) := by
  refine ba_ext ?_
  have h1 := bt_get h
  rw [one_list]
  apply List.ext_getElem?
  intro j
  simp only [ByteArray.data_extract, Array.getElem?_toList, Array.getElem?_extract]
  cases j with
  | zero =>
    rw [if_pos (by have : s.data.size = s.size := rfl
                   omega)]
    rw [← Array.getElem?_toList]; simpa using h1
  | succ j => rw [if_neg (by omega)]; rfl
set_option maxHeartbeats 1000000 in
theorem implPct_fx (s : ByteArray) (hs : s.size ≤ 1099511627) : Fx E 48 [] [.lit (.string s)] [] (.lit (.string (pct s))) := by
  refine (is48.to hE).fx [] (by simp) rfl rfl ?_
  simp [v48]
  refine X_loop (τ := Nat) (fun i => ⟨[(0, .lit (.string s)), (3, .lit (.string ⟨(pctL (s.data.toList.take i)).toArray⟩)), (7, .lit (.int .i64 s.size)), (8, .lit (.int .i64 i))], []⟩) (fun i => i ≤ s.size) (fun i => s.size - i) 0 (by simp) (Wk.both (by simp [wkL, wkV.same, pctL]; exact .inl (by rw [show (⟨#[]⟩ : ByteArray) = by8 "" by decide +kernel])) trivial) ?_
  rintro i hi
  simp
  have hl := pctL_len (s.data.toList.take i)
  have hl2 : (s.data.toList.take i).length ≤ s.size := by simp; omega
  by_cases hlt : i < s.size
  · have hn := pctL_next hlt
    have hu := (bt s i).toNat_lt
    have hP : ({ data := (pctL (s.data.toList.take i)).toArray } : ByteArray).size ≤ 3 * s.size := by
      have e : ({ data := (pctL (s.data.toList.take i)).toArray } : ByteArray).size = (pctL (s.data.toList.take i)).length := List.size_toArray
      omega
    have h37 : by8 "%" = one 37 := by decide +kernel
    have hyes : safeB (bt s i) = true → (⟨(pctL (s.data.toList.take (i + 1))).toArray⟩ : ByteArray) = ⟨(pctL (s.data.toList.take i)).toArray⟩ ++ one (bt s i) := fun h => by
      rw [hn, pctB, if_pos h]
      refine ba_ext ?_
      simp [one]
    have hno : safeB (bt s i) = false → (⟨(pctL (s.data.toList.take (i + 1))).toArray⟩ : ByteArray) = ⟨(pctL (s.data.toList.take i)).toArray⟩ ++ (one 37 ++ ⟨(Lib.toUpperA (hexS (one (bt s i))).data.toList).toArray⟩) := fun h => by
      rw [hn, pctB, if_neg (by simp [h])]
      refine ba_ext ?_
      have h1 := hex_up ⟨(bt s i).toNat / 16, by omega⟩
      have h2 := hex_up ⟨(bt s i).toNat % 16, by omega⟩
      simp only at h1 h2
      simp [one, hexS, hexLs, Lib.toUpperA, h1.1, h2.1]
    simp [hlt]
    refine vcall_go (isLetter_fx hE (bt s i)) (by simp) (by simp) (by simp) (by simp) ?_
    simp
    cases c1 : lowB (bt s i)
    cases c2 : grB (bt s i)
    simp
    refine vcall_go (isDigit_fx hE (bt s i)) (by simp) (by simp) (by simp) (by simp) ?_
    simp
    cases c3 : digB (bt s i)
    simp
    by_cases c4 : ((bt s i).toNat : Int) = 46
    simp [c4]
    have hy := hyes (by simp [safeB, letB, isB, c4])
    rotate_left
    simp [c4]
    by_cases c5 : ((bt s i).toNat : Int) = 95
    simp [c5]
    have hy := hyes (by simp [safeB, letB, isB, c5])
    rotate_left
    simp [c5]
    by_cases c6 : ((bt s i).toNat : Int) = 45
    simp [c6]
    have hy := hyes (by simp [safeB, letB, isB, c6])
    rotate_left
    simp [c6]
    by_cases c7 : ((bt s i).toNat : Int) = 126
    simp [c7]
    have hy := hyes (by simp [safeB, letB, isB, c7])
    rotate_left
    · simp [c7]
      have hnn := hno (by simp [safeB, letB, isB, c1, c2, c3, c4, c5, c6, c7])
      rw [wrapN (by omega)]
      refine wh_ll (l := i) (h := (i + 1 : Nat)) rfl rfl (by omega) (by omega) (by omega) ?_
      simp
      rw [ext_one hlt]
      have h1 := hex_up ⟨(bt s i).toNat / 16, by omega⟩
      have h2 := hex_up ⟨(bt s i).toNat % 16, by omega⟩
      simp only at h1 h2
      refine vcall_go (implHex_fx hE (one (bt s i)) (by rw [one_size]; omega)) (by simp) (by simp) (by simp) (by simp) ?_
      simp
      have hx : (hexS (one (bt s i))).size ≤ 2 := Nat.le_refl _
      refine vcall_go (toUpper_fx hE (hexS (one (bt s i))) (by omega) (fun j b hb => ?_)) (by simp) (by simp) (by simp) (by simp) ?_
      · simp [hexS, hexLs, one] at hb
        match j with
        | 0 => simp at hb; rw [← hb]; exact h1.2
        | 1 => simp at hb; rw [← hb]; exact h2.2
        | j + 2 => simp at hb
      simp
      rw [h37]
      have hup : ({ data := (Lib.toUpperA (hexS (one (bt s i))).data.toList).toArray } : ByteArray).size ≤ 2 := Nat.le_refl _
      have h1z := one_size 37
      refine ⟨by omega, by omega, i + 1, by omega, by omega, Wk.both (by simp [wkL, wkV.same, hnn]; rw [wrapN (by omega)]; exact wkV.same _) trivial⟩
    simp
    have hy := hyes (by simp [safeB, letB, isB, c3])
    rotate_left
    simp
    have hy := hyes (by simp [safeB, letB, isB, c2])
    rotate_left
    simp
    have hy := hyes (by simp [safeB, letB, isB, c1])
    rotate_left
    all_goals
      rw [wrapN (by omega)]
      refine wh_ll (l := i) (h := (i + 1 : Nat)) rfl rfl (by omega) (by omega) (by omega) ?_
      simp
      rw [ext_one hlt]
      exact ⟨by omega, i + 1, by omega, by omega, Wk.both (by simp [wkL, wkV.same, hy]; rw [wrapN (by omega)]; exact wkV.same _) trivial⟩
  · obtain rfl : i = s.size := by omega
    simp
    rw [show List.take s.size s.data.toList = s.data.toList from List.take_of_length_le (by simp)]
    exact Fin_ret rfl rfl
end
end Go.Proofs.YtgegcfhifojjiaaGreatDoor.Vm
