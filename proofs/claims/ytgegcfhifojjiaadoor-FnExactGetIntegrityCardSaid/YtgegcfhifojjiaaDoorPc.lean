/- Bytes in percent: both sides. -/
import Derived.Test.YtgegcfhifojjiaaDoorVi
namespace Go.Proofs.YtgegcfhifojjiaaDoor.Vm
open Go Go.RowKit
set_option linter.unusedVariables false
set_option linter.unusedSimpArgs false
def v126 : VC := .seq (.reg false [⟨some 2, .as (.c (.lit (.string (by8 "")))), none⟩] [2]) (.seq (.reg false [⟨some 5, .bsl 1 [], none⟩, ⟨some 3, .as (.t 5), none⟩] [5]) (.seq (.seq (.reg false [⟨some 6, .mv (.t 0), none⟩, ⟨some 7, .len true (.t 6), none⟩, ⟨some 8, .mv (.c (.lit (.int .i64 0))), none⟩] [6]) (.block 0 (.loop (.seq (.reg false [⟨some 9, .bin .lss 0 (.t 8) (.t 7), none⟩] []) (.seq (.cond (.t 9) (.skip) (.exit 0)) (.seq (.block 1 (.seq (.reg false [⟨some 10, .mv (.t 8), none⟩, ⟨some 4, .as (.t 10), none⟩] [10]) (.reg true [⟨some 11, .mv (.t 3), none⟩, ⟨some 12, .mv (.t 0), none⟩, ⟨some 13, .mv (.t 4), none⟩, ⟨some 14, .idx (.t 12) (.t 13), none⟩, ⟨some 15, .bin .shr 0 (.t 14) (.c (.lit (.int .u64 4))), none⟩, ⟨some 16, .idx (.c (.lit (.string (by8 "0123456789abcdef")))) (.t 15), none⟩, ⟨some 17, .mv (.t 0), none⟩, ⟨some 18, .mv (.t 4), none⟩, ⟨some 19, .idx (.t 17) (.t 18), none⟩, ⟨some 20, .bin .and 0 (.t 19) (.c (.lit (.int .u8 15))), none⟩, ⟨some 21, .idx (.c (.lit (.string (by8 "0123456789abcdef")))) (.t 20), none⟩, ⟨some 22, .bsl 1 [(.t 16), (.t 21)], none⟩, ⟨some 23, .app 1 1 (.t 11) (.t 22), none⟩, ⟨some 3, .as (.t 23), none⟩] [11, 12, 13, 14, 15, 16, 17, 18, 19, 20, 21, 22, 23]))) (.reg false [⟨some 24, .bin .add 0 (.t 8) (.c (.lit (.int .i64 1))), none⟩, ⟨some 8, .mv (.t 24), none⟩] [24]))))))) (.seq (.reg false [⟨some 25, .mv (.t 3), none⟩, ⟨some 26, .b2s (.t 25), none⟩, ⟨some 2, .as (.t 26), none⟩] [25, 26]) (.ret))))
theorem is126 : Is Go.Proofs.Tryd.prog 126 27 v126 [.t 2] := ⟨Go.Proofs.Tryd.f126, dl [(0, [2]), (1, [5]), (2, [6]), (4, [10]), (5, [11, 12, 13, 14, 15, 16, 17, 18, 19, 20, 21, 22, 23]), (6, [24]), (7, [25, 26])], Go.Proofs.Tryd.func126, by kernel_rfl, by kernel_rfl, by kernel_rfl, by kernel_rfl⟩
def hexU (n : Nat) : UInt8 := bt (by8 "0123456789ABCDEF") n
def hexL (n : Nat) : UInt8 := bt (by8 "0123456789abcdef") n
def pctB (u : UInt8) : List UInt8 := if safeB u = true then [u] else [37, hexU (u.toNat / 16), hexU (u.toNat % 16)]
def pctL (l : List UInt8) : List UInt8 := (l.map pctB).flatten
def pct (s : ByteArray) : ByteArray := ⟨(pctL s.data.toList).toArray⟩
theorem pctL_next {s : ByteArray} {i : Nat} (h : i < s.size) : pctL (s.data.toList.take (i + 1)) = pctL (s.data.toList.take i) ++ pctB (bt s i) := by
  rw [List.take_add_one, bt_get h]
  simp [pctL]
theorem pctL_len (l : List UInt8) : (pctL l).length ≤ 3 * l.length := by
  induction l with
  | nil => simp [pctL]
  | cons u l ih =>
    have : (pctB u).length ≤ 3 := by unfold pctB; split <;> simp
    simp only [pctL, List.map_cons, List.flatten_cons, List.length_append, List.length_cons] at ih ⊢
    omega
theorem pct_size (s : ByteArray) : (pct s).size ≤ 3 * s.size := by
  have := pctL_len s.data.toList
  have e : (pct s).size = (pctL s.data.toList).length := List.size_toArray
  have e2 : s.data.toList.length = s.size := by simp
  omega
def hexLs (l : List UInt8) : List UInt8 := (l.map fun u => [hexL (u.toNat / 16), hexL (u.toNat % 16)]).flatten
def hexS (s : ByteArray) : ByteArray := ⟨(hexLs s.data.toList).toArray⟩
theorem hexLs_next {s : ByteArray} {i : Nat} (h : i < s.size) : hexLs (s.data.toList.take (i + 1)) = hexLs (s.data.toList.take i) ++ [hexL ((bt s i).toNat / 16), hexL ((bt s i).toNat % 16)] := by
  rw [List.take_add_one, bt_get h]
  simp [hexLs]
theorem hexLs_len (l : List UInt8) : (hexLs l).length = 2 * l.length := by
  induction l with
  | nil => rfl
  | cons u l ih =>
    simp only [hexLs, List.map_cons, List.flatten_cons, List.length_append, List.length_cons, List.length_nil] at ih ⊢
    omega
section
variable {E : Env} (hE : E.P = Go.Proofs.Tryd.prog) (hZ : ∀ w, E.K w → KZ w)
include hE
set_option maxHeartbeats 1000000 in
theorem implHex_fx (s : ByteArray) (hs : s.size ≤ 1099511627) : Fx E 126 [] [.lit (.string s)] [] (.lit (.string (hexS s))) := by
  refine (is126.to hE).fx [] (by simp) rfl rfl ?_
  simp [v126]
  refine X_loop (τ := Nat) (fun i => ⟨[(0, .lit (.string s)), (3, .sl ⟨.cl 320, true⟩ 1 ((hexLs (s.data.toList.take i)).map fun b : UInt8 => .lit (.int .u8 b.toNat))), (7, .lit (.int .i64 s.size)), (8, .lit (.int .i64 i))], []⟩) (fun i => i ≤ s.size) (fun i => s.size - i) 0 (by simp) (Wk.both (by simp [wkL, wkV.same, hexLs, frA.frL]) trivial) ?_
  rintro i hi
  simp
  have hl := hexLs_len (s.data.toList.take i)
  have hl2 : (s.data.toList.take i).length ≤ s.size := by simp; omega
  by_cases hlt : i < s.size
  · have hn := hexLs_next hlt
    have hu := (bt s i).toNat_lt
    obtain ⟨d, hd⟩ : ∃ d, (bt s i).toNat / 16 = d := ⟨_, rfl⟩
    obtain ⟨m, hm⟩ : ∃ m, (bt s i).toNat % 16 = m := ⟨_, rfl⟩
    have h16 : (by8 "0123456789abcdef").size = 16 := by decide +kernel
    rw [hd, hm] at hn
    have hd1 : (d : Int) < 16 := by omega
    have hm1 : (m : Int) < 16 := by omega
    have e1 : ((bt s i).toNat : Int).fdiv (2 ^ min 4 IntKind.u8.bits) = (d : Int) := by
      rw [show (2 : Int) ^ min 4 IntKind.u8.bits = 16 by decide, Int.fdiv_eq_ediv_of_nonneg _ (by omega)]; omega
    have e2 : IntKind.u8.wrap (((bt s i).toNat % 2 ^ IntKind.u8.bits &&& 15 % 2 ^ IntKind.u8.bits : Nat) : Int) = (m : Int) := by
      have : (bt s i).toNat % 2 ^ IntKind.u8.bits &&& 15 % 2 ^ IntKind.u8.bits = (bt s i).toNat % 16 := by
        show (bt s i).toNat % 256 &&& 15 = (bt s i).toNat % 16
        rw [Nat.mod_eq_of_lt (show (bt s i).toNat < 256 by omega)]
        exact Nat.and_two_pow_sub_one_eq_mod _ 4
      rw [this, IntKind.wrap_u8]; omega
    simp [hlt, h16, hd1, hm1, e1, e2, okC, frA, frA.frL, AS.dem, mapV, dem, dem.demL]
    refine ⟨by omega, i + 1, by omega, by omega, Wk.both (by rw [hn]; simp [wkL, wkV.same, hexL]; rw [wrapN (by omega)]; exact wkV.same _) trivial⟩
  · obtain rfl : i = s.size := by omega
    simp
    rw [show List.take s.size s.data.toList = s.data.toList from List.take_of_length_le (by simp)]
    refine Xa_b2s (l := hexLs s.data.toList) rfl ?_
    simp
    exact Fin_ret rfl rfl
omit hE in
theorem hex_up : ∀ n : _root_.Fin 16, Lib.upperB (hexL n.val) = hexU n.val ∧ (hexL n.val).toNat < 128 := by decide +kernel
omit hE in
theorem ext_one {s : ByteArray} {i : Nat} (h : i < s.size) : s.extract i (i + 1) = one (bt s i) := by
  refine ba_ext ?_
  have h1 := bt_get h
  rw [one_list]
  apply List.ext_getElem?
  intro j
  simp only [ByteArray.data_extract, Array.getElem?_toList, Array.getElem?_extract]
  cases j with
  | zero =>
    rw [if_pos (by have : s.data.size = s.size := rfl
                   omega)]
    rw [← Array.getElem?_toList]; simpa using h1
  | succ j => rw [if_neg (by omega)]; rfl
end
end Go.Proofs.YtgegcfhifojjiaaDoor.Vm
