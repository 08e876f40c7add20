/- Bytes in percent, read; keys split: both sides. -/
import Derived.Test.YtgegcfhifojjiaaGreatDoorGr
namespace Go.Proofs.YtgegcfhifojjiaaGreatDoor.Vm
open Go Go.RowKit
set_option linter.unusedVariables false
set_option linter.unusedSimpArgs false
def v55 : VC := .seq (.reg false [⟨some 2, .as (.c (.lit (.string (by8 "")))), none⟩, ⟨some 3, .as (.c (.lit (.bool false))), none⟩] [2, 3]) (.seq (.reg false [⟨some 4, .as (.c (.lit (.string (by8 "")))), none⟩] []) (.seq (.seq (.reg false [⟨some 5, .as (.c (.lit (.int .i64 0))), none⟩] []) (.block 0 (.loop (.seq (.seq (.reg false [⟨some 8, .mv (.t 5), none⟩, ⟨some 9, .mv (.t 0), none⟩, ⟨some 10, .len true (.t 9), none⟩, ⟨some 11, .bin .lss 0 (.t 8) (.t 10), none⟩] [8, 9, 10]) (.cond (.t 11) (.skip) (.exit 0))) (.seq (.block 1 (.seq (.seq (.reg false [⟨some 14, .mv (.t 0), none⟩, ⟨some 15, .mv (.t 5), none⟩, ⟨some 16, .idx (.t 14) (.t 15), none⟩, ⟨some 17, .bin .neq 0 (.t 16) (.c (.lit (.int .u8 37))), none⟩] [14, 15, 16]) (.cond (.t 17) (.seq (.reg false [⟨some 18, .mv (.t 4), none⟩, ⟨some 19, .mv (.t 0), none⟩, ⟨some 20, .mv (.t 5), none⟩, ⟨some 21, .mv (.t 5), none⟩, ⟨some 22, .bin .add 0 (.t 21) (.c (.lit (.int .i64 1))), none⟩, ⟨some 23, .slS (.t 19) (some (.t 20)) (some (.t 22)), none⟩, ⟨some 24, .bin .add 0 (.t 18) (.t 23), none⟩, ⟨some 4, .as (.t 24), none⟩] [18, 19, 20, 21, 22, 23, 24]) (.exit 1)) (.skip))) (.seq (.seq (.reg false [⟨some 25, .mv (.t 5), none⟩, ⟨some 26, .mv (.t 0), none⟩, ⟨some 27, .len true (.t 26), none⟩, ⟨some 28, .bin .sub 0 (.t 27) (.c (.lit (.int .i64 3))), none⟩, ⟨some 29, .bin .gtr 0 (.t 25) (.t 28), none⟩] [25, 26, 27, 28]) (.cond (.t 29) (.seq (.reg false [⟨some 2, .as (.c (.lit (.string (by8 "")))), none⟩, ⟨some 3, .as (.c (.lit (.bool false))), none⟩] []) (.ret)) (.skip))) (.seq (.reg false [⟨some 31, .mv (.t 0), none⟩, ⟨some 32, .mv (.t 5), none⟩, ⟨some 33, .bin .add 0 (.t 32) (.c (.lit (.int .i64 1))), none⟩, ⟨some 34, .mv (.t 5), none⟩, ⟨some 35, .bin .add 0 (.t 34) (.c (.lit (.int .i64 3))), none⟩, ⟨some 36, .slS (.t 31) (some (.t 33)) (some (.t 35)), none⟩, ⟨some 37, .call false 125 [(.t 36), (.c (.lit (.string (by8 "0123456789ABCDEF"))))], none⟩, ⟨some 30, .mv (.t 37), none⟩, ⟨some 38, .ext (.t 30) 0, none⟩, ⟨some 39, .ext (.t 30) 1, none⟩, ⟨some 6, .as (.t 38), none⟩, ⟨some 7, .as (.t 39), none⟩] [31, 32, 33, 34, 35, 36, 37, 30, 38, 39]) (.seq (.seq (.reg false [⟨some 40, .mv (.t 7), none⟩, ⟨some 41, .un .not (.t 40), none⟩] [40]) (.cond (.t 41) (.seq (.reg false [⟨some 2, .as (.c (.lit (.string (by8 "")))), none⟩, ⟨some 3, .as (.c (.lit (.bool false))), none⟩] []) (.ret)) (.skip))) (.seq (.reg false [⟨some 42, .mv (.t 4), none⟩, ⟨some 43, .mv (.t 6), none⟩, ⟨some 44, .bin .add 0 (.t 42) (.t 43), none⟩, ⟨some 4, .as (.t 44), none⟩] [42, 43, 44]) (.reg false [⟨some 45, .mv (.t 5), none⟩, ⟨some 46, .bin .add 0 (.t 45) (.c (.lit (.int .i64 2))), none⟩, ⟨some 5, .as (.t 46), none⟩] [45, 46]))))))) (.reg false [⟨some 12, .mv (.t 5), none⟩, ⟨some 13, .bin .add 0 (.t 12) (.c (.lit (.int .i64 1))), none⟩, ⟨some 5, .as (.t 13), none⟩] [12, 13])))))) (.seq (.seq (.reg false [⟨some 47, .mv (.t 4), none⟩, ⟨some 48, .call false 43 [(.t 47)], none⟩, ⟨some 49, .mv (.t 0), none⟩, ⟨some 50, .bin .neq 0 (.t 48) (.t 49), none⟩] [47, 48, 49]) (.cond (.t 50) (.seq (.reg false [⟨some 2, .as (.c (.lit (.string (by8 "")))), none⟩, ⟨some 3, .as (.c (.lit (.bool false))), none⟩] []) (.ret)) (.skip))) (.seq (.reg false [⟨some 51, .mv (.t 4), none⟩, ⟨some 2, .as (.t 51), none⟩, ⟨some 3, .as (.c (.lit (.bool true))), none⟩] [51]) (.ret)))))
theorem is55 : Is Go.Proofs.Tryz.prog 55 52 v55 [.t 2, .t 3] := ⟨Go.Proofs.Tryz.f55, dl [(0, [2, 3]), (3, [8, 9, 10]), (5, [14, 15, 16]), (6, [18, 19, 20, 21, 22, 23, 24]), (7, [25, 26, 27, 28]), (9, [31, 32, 33, 34, 35, 36, 37, 30, 38, 39]), (10, [40]), (12, [42, 43, 44]), (13, [45, 46]), (4, [12, 13]), (14, [47, 48, 49]), (16, [51])], Go.Proofs.Tryz.func55, by kernel_rfl, by kernel_rfl, by kernel_rfl, by kernel_rfl⟩
def v60 : VC := .seq (.reg false [⟨some 2, .as (.c (.lit (.string (by8 "")))), none⟩, ⟨some 3, .as (.c (.lit (.bool false))), none⟩] [2, 3]) (.seq (.reg false [⟨some 4, .as (.c (.lit (.string (by8 "")))), none⟩] []) (.seq (.seq (.reg false [⟨some 5, .as (.c (.lit (.int .i64 0))), none⟩] []) (.block 0 (.loop (.seq (.seq (.reg false [⟨some 8, .mv (.t 5), none⟩, ⟨some 9, .mv (.t 0), none⟩, ⟨some 10, .len true (.t 9), none⟩, ⟨some 11, .bin .lss 0 (.t 8) (.t 10), none⟩] [8, 9, 10]) (.cond (.t 11) (.skip) (.exit 0))) (.seq (.block 1 (.seq (.seq (.reg false [⟨some 14, .mv (.t 0), none⟩, ⟨some 15, .mv (.t 5), none⟩, ⟨some 16, .idx (.t 14) (.t 15), none⟩, ⟨some 17, .bin .neq 0 (.t 16) (.c (.lit (.int .u8 37))), none⟩] [14, 15, 16]) (.cond (.t 17) (.seq (.reg false [⟨some 18, .mv (.t 4), none⟩, ⟨some 19, .mv (.t 0), none⟩, ⟨some 20, .mv (.t 5), none⟩, ⟨some 21, .mv (.t 5), none⟩, ⟨some 22, .bin .add 0 (.t 21) (.c (.lit (.int .i64 1))), none⟩, ⟨some 23, .slS (.t 19) (some (.t 20)) (some (.t 22)), none⟩, ⟨some 24, .bin .add 0 (.t 18) (.t 23), none⟩, ⟨some 4, .as (.t 24), none⟩] [18, 19, 20, 21, 22, 23, 24]) (.exit 1)) (.skip))) (.seq (.seq (.reg false [⟨some 25, .mv (.t 5), none⟩, ⟨some 26, .bin .add 0 (.t 25) (.c (.lit (.int .i64 3))), none⟩, ⟨some 27, .mv (.t 0), none⟩, ⟨some 28, .len true (.t 27), none⟩, ⟨some 29, .bin .gtr 0 (.t 26) (.t 28), none⟩] [25, 26, 27, 28]) (.cond (.t 29) (.seq (.reg false [⟨some 2, .as (.c (.lit (.string (by8 "")))), none⟩, ⟨some 3, .as (.c (.lit (.bool false))), none⟩] []) (.ret)) (.skip))) (.seq (.reg false [⟨some 31, .mv (.t 0), none⟩, ⟨some 32, .mv (.t 5), none⟩, ⟨some 33, .bin .add 0 (.t 32) (.c (.lit (.int .i64 1))), none⟩, ⟨some 34, .mv (.t 5), none⟩, ⟨some 35, .bin .add 0 (.t 34) (.c (.lit (.int .i64 3))), none⟩, ⟨some 36, .slS (.t 31) (some (.t 33)) (some (.t 35)), none⟩, ⟨some 37, .call false 129 [(.t 36)], none⟩, ⟨some 38, .call false 128 [(.t 37)], none⟩, ⟨some 30, .mv (.t 38), none⟩, ⟨some 39, .ext (.t 30) 0, none⟩, ⟨some 40, .ext (.t 30) 1, none⟩, ⟨some 6, .as (.t 39), none⟩, ⟨some 7, .as (.t 40), none⟩] [31, 32, 33, 34, 35, 36, 37, 38, 30, 39, 40, 7]) (.seq (.reg false [⟨some 41, .mv (.t 4), none⟩, ⟨some 42, .mv (.t 6), none⟩, ⟨some 43, .bin .add 0 (.t 41) (.t 42), none⟩, ⟨some 4, .as (.t 43), none⟩] [41, 42, 43]) (.reg false [⟨some 44, .mv (.t 5), none⟩, ⟨some 45, .bin .add 0 (.t 44) (.c (.lit (.int .i64 2))), none⟩, ⟨some 5, .as (.t 45), none⟩] [44, 45])))))) (.reg false [⟨some 12, .mv (.t 5), none⟩, ⟨some 13, .bin .add 0 (.t 12) (.c (.lit (.int .i64 1))), none⟩, ⟨some 5, .as (.t 13), none⟩] [12, 13])))))) (.seq (.seq (.reg false [⟨some 46, .mv (.t 4), none⟩, ⟨some 47, .call false 48 [(.t 46)], none⟩, ⟨some 48, .mv (.t 0), none⟩, ⟨some 49, .bin .neq 0 (.t 47) (.t 48), none⟩] [46, 47, 48]) (.cond (.t 49) (.seq (.reg false [⟨some 2, .as (.c (.lit (.string (by8 "")))), none⟩, ⟨some 3, .as (.c (.lit (.bool false))), none⟩] []) (.ret)) (.skip))) (.seq (.reg false [⟨some 50, .mv (.t 4), none⟩, ⟨some 2, .as (.t 50), none⟩, ⟨some 3, .as (.c (.lit (.bool true))), none⟩] [50]) (.ret)))))
theorem is60 : Is Go.Proofs.Tryz.prog 60 51 v60 [.t 2, .t 3] := ⟨Go.Proofs.Tryz.f60, dl [(0, [2, 3]), (3, [8, 9, 10]), (5, [14, 15, 16]), (6, [18, 19, 20, 21, 22, 23, 24]), (7, [25, 26, 27, 28]), (9, [31, 32, 33, 34, 35, 36, 37, 38, 30, 39, 40, 7]), (10, [41, 42, 43]), (11, [44, 45]), (4, [12, 13]), (12, [46, 47, 48]), (14, [50])], Go.Proofs.Tryz.func60, by kernel_rfl, by kernel_rfl, by kernel_rfl, by kernel_rfl⟩
def v54 : VC := .seq (.reg false [⟨some 2, .as (.c (.lit (.string (by8 "")))), none⟩, ⟨some 3, .as (.c (.lit (.string (by8 "")))), none⟩] [2, 3]) (.seq (.seq (.reg false [⟨some 5, .mv (.t 0), none⟩, ⟨some 6, .len true (.t 5), none⟩, ⟨some 7, .bin .sub 0 (.t 6) (.c (.lit (.int .i64 1))), none⟩, ⟨some 4, .as (.t 7), none⟩] [5, 6, 7]) (.block 0 (.loop (.seq (.seq (.reg false [⟨some 8, .mv (.t 4), none⟩, ⟨some 9, .bin .geq 0 (.t 8) (.c (.lit (.int .i64 0))), none⟩] [8]) (.cond (.t 9) (.skip) (.exit 0))) (.seq (.block 1 (.seq (.reg false [⟨some 12, .mv (.t 0), none⟩, ⟨some 13, .mv (.t 4), none⟩, ⟨some 14, .idx (.t 12) (.t 13), none⟩, ⟨some 15, .bin .eql 0 (.t 14) (.c (.lit (.int .u8 64))), none⟩] [12, 13, 14]) (.cond (.t 15) (.seq (.reg true [⟨some 16, .mv (.t 0), none⟩, ⟨some 17, .mv (.t 4), none⟩, ⟨some 18, .slS (.t 16) none (some (.t 17)), none⟩, ⟨some 19, .mv (.t 0), none⟩, ⟨some 20, .mv (.t 4), none⟩, ⟨some 21, .bin .add 0 (.t 20) (.c (.lit (.int .i64 1))), none⟩, ⟨some 22, .slS (.t 19) (some (.t 21)) none, none⟩, ⟨some 2, .as (.t 18), none⟩, ⟨some 3, .as (.t 22), none⟩] [16, 17, 18, 19, 20, 21, 22]) (.ret)) (.skip)))) (.reg false [⟨some 10, .mv (.t 4), none⟩, ⟨some 11, .bin .sub 0 (.t 10) (.c (.lit (.int .i64 1))), none⟩, ⟨some 4, .as (.t 11), none⟩] [10, 11])))))) (.seq (.reg false [⟨some 2, .as (.c (.lit (.string (by8 "")))), none⟩, ⟨some 3, .as (.c (.lit (.string (by8 "")))), none⟩] []) (.ret)))
theorem is54 : Is Go.Proofs.Tryz.prog 54 23 v54 [.t 2, .t 3] := ⟨Go.Proofs.Tryz.f54, dl [(0, [2, 3]), (1, [5, 6, 7]), (2, [8]), (4, [12, 13, 14]), (5, [16, 17, 18, 19, 20, 21, 22]), (3, [10, 11])], Go.Proofs.Tryz.func54, by kernel_rfl, by kernel_rfl, by kernel_rfl, by kernel_rfl⟩
def v51 : VC := .seq (.reg false [⟨some 2, .as (.c (.lit (.string (by8 "")))), none⟩, ⟨some 3, .as (.c (.lit (.string (by8 "")))), none⟩] [2, 3]) (.seq (.reg false [⟨some 5, .mv (.t 0), none⟩, ⟨some 6, .call false 123 [(.t 5), (.c (.lit (.string (by8 "@"))))], none⟩, ⟨some 4, .as (.t 6), none⟩] [5, 6]) (.seq (.seq (.reg false [⟨some 7, .mv (.t 4), none⟩, ⟨some 8, .bin .lss 0 (.t 7) (.c (.lit (.int .i64 0))), none⟩] [7]) (.cond (.t 8) (.seq (.reg false [⟨some 2, .as (.c (.lit (.string (by8 "")))), none⟩, ⟨some 3, .as (.c (.lit (.string (by8 "")))), none⟩] []) (.ret)) (.skip))) (.seq (.reg true [⟨some 9, .mv (.t 0), none⟩, ⟨some 10, .mv (.t 4), none⟩, ⟨some 11, .slS (.t 9) none (some (.t 10)), none⟩, ⟨some 12, .mv (.t 0), none⟩, ⟨some 13, .mv (.t 4), none⟩, ⟨some 14, .bin .add 0 (.t 13) (.c (.lit (.int .i64 1))), none⟩, ⟨some 15, .slS (.t 12) (some (.t 14)) none, none⟩, ⟨some 2, .as (.t 11), none⟩, ⟨some 3, .as (.t 15), none⟩] [9, 10, 11, 12, 13, 14, 15]) (.ret))))
theorem is51 : Is Go.Proofs.Tryz.prog 51 16 v51 [.t 2, .t 3] := ⟨Go.Proofs.Tryz.f51, dl [(0, [2, 3]), (1, [5, 6]), (2, [7]), (4, [9, 10, 11, 12, 13, 14, 15])], Go.Proofs.Tryz.func51, by kernel_rfl, by kernel_rfl, by kernel_rfl, by kernel_rfl⟩
theorem encode_le4 (z : Int) : (Lib.encodeRune z).length ≤ 4 := by
  unfold Lib.encodeRune Lib.encodeRuneZ
  rw [List.length_map]
  repeat' split
  all_goals simp
theorem mapGo_len (f : Int → Int) : ∀ (n : Nat) (l : List UInt8), (Lib.mapGoD f n l).length ≤ 4 * n
  | 0, l => by simp [Lib.mapGoD]
  | n + 1, l => by
    unfold Lib.mapGoD
    split
    · simp
    · rw [List.length_append]
      have h1 := mapGo_len f n (l.drop (Lib.decodeL l).2)
      have h2 : (if 0 ≤ f (Lib.decodeL l).1 then Lib.encodeRune (f (Lib.decodeL l).1) else []).length ≤ 4 := by
        split
        · exact encode_le4 _
        · simp
      omega
def lowD (s : ByteArray) : ByteArray := ⟨(Lib.toLowerD s.data.toList).toArray⟩
theorem lowD_size (s : ByteArray) : (lowD s).size ≤ 4 * s.size := by
  have e : (lowD s).size = (Lib.toLowerD s.data.toList).length := List.size_toArray
  have := mapGo_len Lib.toLowerU s.data.toList.length s.data.toList
  have e2 : s.data.toList.length = s.size := by simp
  rw [e, Lib.toLowerD, Lib.mapD]
  omega
theorem digE_hex : ∀ n : _root_.Fin 16, digI hexE (hexU n.val) = n.val := by decide +kernel
theorem digD_hex : ∀ n : _root_.Fin 16, digI hexD (hexL n.val) = n.val := by decide +kernel
theorem low_hex : ∀ n : _root_.Fin 16, Lib.lowerB (hexU n.val) = hexL n.val ∧ (hexU n.val).toNat < 128 := by decide +kernel
theorem prs_two {D : ByteArray} (a b : UInt8) : prs D [a, b] = if digI D a < 0 ∨ digI D b < 0 then none else some [UInt8.ofNat (16 * (digI D a).toNat + (digI D b).toNat)] := by
  simp only [prs]; rfl
theorem byte_back (u : UInt8) : UInt8.ofNat (16 * (u.toNat / 16) + u.toNat % 16) = u := by
  rw [show 16 * (u.toNat / 16) + u.toNat % 16 = u.toNat by omega]; exact UInt8.ofNat_toNat
theorem prsE_hex (u : UInt8) : prs hexE [hexU (u.toNat / 16), hexU (u.toNat % 16)] = some [u] := by
  have hu := u.toNat_lt
  have h1 := digE_hex ⟨u.toNat / 16, by omega⟩
  have h2 := digE_hex ⟨u.toNat % 16, by omega⟩
  simp only at h1 h2
  rw [prs_two, h1, h2, if_neg (by omega), Int.toNat_natCast, Int.toNat_natCast, byte_back]
theorem prsD_hex (u : UInt8) : prs hexD [hexL (u.toNat / 16), hexL (u.toNat % 16)] = some [u] := by
  have hu := u.toNat_lt
  have h1 := digD_hex ⟨u.toNat / 16, by omega⟩
  have h2 := digD_hex ⟨u.toNat % 16, by omega⟩
  simp only at h1 h2
  rw [prs_two, h1, h2, if_neg (by omega), Int.toNat_natCast, Int.toNat_natCast, byte_back]
theorem ext_two {s : ByteArray} {i : Nat} (h : i + 2 ≤ s.size) : (s.extract i (i + 2)).data.toList = [bt s i, bt s (i + 1)] := by
  have h1 := bt_get (s := s) (i := i) (by omega)
  have h2 := bt_get (s := s) (i := i + 1) (by omega)
  have hz : s.data.size = s.size := rfl
  apply List.ext_getElem?
  intro j
  rw [Array.getElem?_toList, ByteArray.data_extract, Array.getElem?_extract]
  match j with
  | 0 => rw [if_pos (by omega), ← Array.getElem?_toList]; simpa using h1
  | 1 => rw [if_pos (by omega), ← Array.getElem?_toList]; simpa using h2
  | j + 2 => rw [if_neg (by omega)]; rfl
/-- the text and the word of 'GetHex' -/
noncomputable def hexB (s : ByteArray) : ByteArray := match prs hexD s.data.toList with
  | some l => if s.size % 2 = 0 then ⟨l.toArray⟩ else by8 ""
  | none => by8 ""
noncomputable def hexO (s : ByteArray) : Bool := match prs hexD s.data.toList with
  | some l => decide (s.size % 2 = 0)
  | none => false
theorem hexRes_eq (s : ByteArray) : hexRes s = .tup [.lit (.string (hexB s)), .lit (.bool (hexO s))] := by
  unfold hexRes hexB hexO
  cases prs hexD s.data.toList with
  | none => rfl
  | some l =>
    by_cases h : s.size % 2 = 0
    · simp [h]
    · simp [h]
theorem hexB_size (s : ByteArray) : 2 * (hexB s).size ≤ s.size := by
  unfold hexB
  cases h : prs hexD s.data.toList with
  | none => simp only; rw [by8_nil]; omega
  | some l =>
    simp only
    split
    · have := prs_len _ _ h
      have e : ({ data := l.toArray } : ByteArray).size = l.length := List.size_toArray
      have e2 : s.data.toList.length = s.size := by simp
      omega
    · rw [by8_nil]; omega
theorem pctRes_ok (s : ByteArray) : resOk (pctRes s) = true := by unfold pctRes; cases unPct s <;> rfl
/-- places of a byte from the end -/
def lastC (c : UInt8) (s : ByteArray) : Int := Lib.lastIndex s.data.toList [c]
theorem lastC_cases (c : UInt8) (s : ByteArray) : (lastC c s = -1 ∧ ∀ j, j < s.size → bt s j ≠ c) ∨ ∃ i, i < s.size ∧ bt s i = c ∧ (∀ j, i < j → j < s.size → bt s j ≠ c) ∧ lastC c s = (i : Nat) := by
  have hl : s.data.toList.length = s.size := by simp
  unfold lastC Lib.lastIndex
  rw [hl]
  split
  · rename_i h1
    have h1 : 1 ≤ s.size := h1
    rw [show s.size - ([c] : List UInt8).length + 1 = s.size by simp; omega]
    rcases Lib.lastOcc_spec s.data.toList [c] s.size with ⟨e, h⟩ | ⟨i, hi, e, ho, h⟩
    · refine .inl ⟨e, fun j hj hb => ?_⟩
      have := h j hj
      rw [occ_one] at this
      simp [hj, hb] at this
    · rw [occ_one] at ho
      have ho := of_decide_eq_true ho
      refine .inr ⟨i, hi, ho.2, fun j h2 h3 hb => ?_, e⟩
      have := h j h2 h3
      rw [occ_one] at this
      simp [h3, hb] at this
  · rename_i h1
    have h1 : ¬ 1 ≤ s.size := h1
    exact .inl ⟨rfl, fun j hj => by omega⟩
theorem lastC_hit {c : UInt8} {s : ByteArray} {i : Nat} (hi : i < s.size) (hb : bt s i = c) (h : ∀ j, i < j → j < s.size → bt s j ≠ c) : lastC c s = i := by
  rcases lastC_cases c s with ⟨_, h2⟩ | ⟨k, hk, hkb, h2, e⟩
  · exact absurd hb (h2 i hi)
  · rcases Nat.lt_trichotomy k i with h3 | h3 | h3
    · exact absurd hb (h2 i h3 hi)
    · rw [e, h3]
    · exact absurd hkb (h k h3 hk)
theorem lastC_miss {c : UInt8} {s : ByteArray} (h : ∀ j, j < s.size → bt s j ≠ c) : lastC c s = -1 := by
  rcases lastC_cases c s with ⟨h2, _⟩ | ⟨k, hk, hkb, _⟩
  · exact h2
  · exact absurd hkb (h k hk)
def keyA (s : ByteArray) : ByteArray := if lastC 64 s < 0 then by8 "" else s.extract 0 (lastC 64 s).toNat
def keyB (s : ByteArray) : ByteArray := if lastC 64 s < 0 then by8 "" else s.extract ((lastC 64 s).toNat + 1) s.size
def keyRes (s : ByteArray) : AV := .tup [.lit (.string (keyA s)), .lit (.string (keyB s))]
theorem keyA_size (s : ByteArray) : (keyA s).size ≤ s.size := by
  unfold keyA; split
  · rw [by8_nil]; omega
  · rw [ext_size]; omega
theorem keyB_size (s : ByteArray) : (keyB s).size ≤ s.size := by
  unfold keyB; split
  · rw [by8_nil]; omega
  · rw [ext_size]; omega
/-- what 'ToLower' asks of the memory: the tables of cases and of UTF-8 -/
structure KC (w : World) : Prop where
  cs : Lib.CaseVar 1 Lib.caseA w
  ut : Lib.Utf8Tabs 2 3 w
section
variable {E : Env} (hE : E.P = Go.Proofs.Tryz.prog) (hZ : ∀ w, E.K w → KZ w) (hC : ∀ w, E.K w → KC w)
include hE
set_option maxHeartbeats 1000000 in
theorem specGetPct_fx (s : ByteArray) (hs : s.size ≤ 1099511627) : Fx E 55 [] [.lit (.string s)] [] (pctRes s) := by
  refine (is55.to hE).fx [] (by simp) rfl (pctRes_ok s) ?_
  simp [v55]
  refine X_loop (τ := Nat × ByteArray) (fun p => ⟨[(0, .lit (.string s)), (4, .lit (.string p.2)), (5, .lit (.int .i64 p.1))], []⟩) (fun p => p.1 ≤ s.size ∧ p.2.size ≤ p.1 ∧ PctAt s p.1 p.2.data.toList) (fun p => s.size - p.1) (0, by8 "") ⟨Nat.zero_le _, Nat.le_of_eq by8_nil, PctAt.zero s⟩ (Wk.both (by simp [wkL, wkV.same]) trivial) ?_
  rintro ⟨i, out⟩ ⟨hi, ho, hp⟩
  simp only at hi ho hp
  have hnone : unPct s = none → AV.tup [.lit (.string (by8 "")), .lit (.bool false)] = pctRes s := fun h => by rw [pctRes, h]
  simp
  by_cases hlt : i < s.size
  · simp [hlt]
    by_cases c1 : ((bt s i).toNat : Int) = 37
    · have hb : bt s i = 37 := u8_eq.1 (c1.trans rfl)
      simp [c1]
      rw [wrap_i64 (i := (s.size : Int) - 3) (by omega) (by omega)]
      by_cases c2 : (s.size : Int) - 3 < i
      · simp [c2]
        exact Fin_ret2 rfl (by
          rw [← hnone (unPct_none fun t ht => ?_)]; rfl
          obtain ⟨u, h1, _⟩ := hp.esc hlt hb ht
          omega)
      · simp [c2]
        rw [wrapN (by omega), wrap_i64 (i := (i : Int) + 3) (by omega) (by omega)]
        refine wh_ll (l := (i + 1 : Nat)) (h := (i + 3 : Nat)) rfl rfl (by omega) (by omega) (by omega) ?_
        have e3 : ((i : Int) + 3).toNat = i + 3 := by omega
        simp [e3]
        have hx := ext_two (s := s) (i := i + 1) (by omega)
        have hxz : (s.extract (i + 1) (i + 3)).size = 2 := by rw [ext_size]; omega
        refine vcall_go (l01Pairs_fx hE (s.extract (i + 1) (i + 3)) hexE (by omega) (by decide +kernel)) (by simp [hexE]) (by simp) (by simp) (by simp) ?_
        rw [pairRes, hxz, show i + 3 = i + 1 + 2 by omega, hx]
        cases hpr : prs hexE [bt s (i + 1), bt s (i + 1 + 1)] with
        | none =>
          simp
          exact Fin_ret2 rfl (by
            rw [← hnone (unPct_none fun t ht => ?_)]; rfl
            obtain ⟨u, h1, h2, h3, _⟩ := hp.esc hlt hb ht
            rw [h2, show i + 1 + 1 = i + 2 by omega, h3, prsE_hex] at hpr
            cases hpr)
        | some l =>
          have hl : l.length ≤ 1 := by
            have := prs_len _ _ hpr
            simp at this; omega
          have hlz : ({ data := l.toArray } : ByteArray).size ≤ 1 := by
            have e : ({ data := l.toArray } : ByteArray).size = l.length := List.size_toArray
            omega
          have hat : PctAt s (i + 3) (out ++ { data := l.toArray } : ByteArray).data.toList := fun t ht => by
            obtain ⟨u, h1, h2, h3, b, h4, h5⟩ := hp.esc hlt hb ht
            rw [h2, show i + 1 + 1 = i + 2 by omega, h3, prsE_hex] at hpr
            obtain rfl := Option.some.inj hpr
            exact ⟨b, by rw [h4]; simp, h5⟩
          simp
          refine ⟨by omega, i + 3, out ++ { data := l.toArray }, ⟨by omega, by rw [ByteArray.size_append]; omega, hat⟩, by omega, Wk.both (by simp [wkL, wkV.same]; rw [wrap_i64 (i := (i : Int) + 2) (by omega) (by omega), wrap_i64 (by omega) (by omega)]; exact .inl (by simp; omega)) trivial⟩
    · have hb : bt s i ≠ 37 := fun e => c1 (by rw [e]; rfl)
      simp [c1]
      rw [wrapN (by omega)]
      refine wh_ll (l := i) (h := (i + 1 : Nat)) rfl rfl (by omega) (by omega) (by omega) ?_
      simp
      rw [ext_one hlt]
      have hz := one_size (bt s i)
      refine ⟨by omega, i + 1, out ++ one (bt s i), ⟨by omega, by rw [ByteArray.size_append]; omega, ?_⟩, by omega, Wk.both (by simp [wkL, wkV.same]; rw [wrapN (by omega)]; exact wkV.same _) trivial⟩
      have := hp.plain hlt hb
      rw [show (out ++ one (bt s i)).data.toList = out.data.toList ++ [bt s i] by simp [one]]
      exact this
  · obtain rfl : i = s.size := by omega
    simp
    refine vcall_go (specPct_fx hE out (by omega)) (by simp) (by simp) (by simp) (by simp) ?_
    simp
    obtain ⟨d1, d2⟩ := hp.done
    by_cases c3 : pct out = s
    · simp [c3]
      exact Fin_ret2 rfl (by rw [pctRes, d1 c3]; rfl)
    · simp [c3]
      exact Fin_ret2 rfl (by rw [← hnone (d2 c3)]; rfl)
include hC in
theorem toLower_fx (s : ByteArray) (hs : s.size < 35184372088832) : Fx E 129 [] [.lit (.string s)] [] (.lit (.string (lowD s))) :=
  Fx_lit (args := [.string s]) rfl fun w hw => by
    rw [hE]
    exact Go.Proofs.Tryz.strings_ToLower_any s w hs (hC w hw).cs (hC w hw).ut
include hC in
set_option maxHeartbeats 1000000 in
theorem implGetPct_fx (s : ByteArray) (hs : s.size ≤ 536870912) : Fx E 60 [] [.lit (.string s)] [] (pctRes s) := by
  refine (is60.to hE).fx [] (by simp) rfl (pctRes_ok s) ?_
  simp [v60]
  refine X_loop (τ := Nat × ByteArray) (fun p => ⟨[(0, .lit (.string s)), (4, .lit (.string p.2)), (5, .lit (.int .i64 p.1))], []⟩) (fun p => p.1 ≤ s.size ∧ p.2.size ≤ 2 * p.1 ∧ PctAt s p.1 p.2.data.toList) (fun p => s.size - p.1) (0, by8 "") ⟨Nat.zero_le _, Nat.le_of_eq by8_nil, PctAt.zero s⟩ (Wk.both (by simp [wkL, wkV.same]) trivial) ?_
  rintro ⟨i, out⟩ ⟨hi, ho, hp⟩
  simp only at hi ho hp
  have hnone : unPct s = none → AV.tup [.lit (.string (by8 "")), .lit (.bool false)] = pctRes s := fun h => by rw [pctRes, h]
  simp
  by_cases hlt : i < s.size
  · simp [hlt]
    by_cases c1 : ((bt s i).toNat : Int) = 37
    · have hb : bt s i = 37 := u8_eq.1 (c1.trans rfl)
      simp [c1]
      rw [wrap_i64 (i := (i : Int) + 3) (by omega) (by omega)]
      by_cases c2 : (s.size : Int) < i + 3
      · simp [c2]
        exact Fin_ret2 rfl (by
          rw [← hnone (unPct_none fun t ht => ?_)]; rfl
          obtain ⟨u, h1, _⟩ := hp.esc hlt hb ht
          omega)
      · simp [c2]
        rw [wrapN (by omega), wrap_i64 (i := (i : Int) + 3) (by omega) (by omega)]
        refine wh_ll (l := (i + 1 : Nat)) (h := (i + 3 : Nat)) rfl rfl (by omega) (by omega) (by omega) ?_
        have e3 : ((i : Int) + 3).toNat = i + 3 := by omega
        simp [e3]
        have hx := ext_two (s := s) (i := i + 1) (by omega)
        have hxz : (s.extract (i + 1) (i + 3)).size = 2 := by rw [ext_size]; omega
        refine vcall_go (toLower_fx hE hC (s.extract (i + 1) (i + 3)) (by omega)) (by simp) (by simp) (by simp) (by simp) ?_
        simp
        have hlz := lowD_size (s.extract (i + 1) (i + 3))
        obtain ⟨y, hy⟩ : ∃ y, lowD (s.extract (i + 1) (i + 3)) = y := ⟨_, rfl⟩
        rw [hy] at hlz ⊢
        refine vcall_go (implGetHex_fx hE y (by omega)) (by simp) (by simp) (by simp) (by simp) ?_
        rw [hexRes_eq]
        have hbz := hexB_size y
        have hat : PctAt s (i + 3) (out ++ hexB y).data.toList := fun t ht => by
          obtain ⟨u, h1, h2, h3, b, h4, h5⟩ := hp.esc hlt hb ht
          have hu := u.toNat_lt
          have l1 := low_hex ⟨u.toNat / 16, by omega⟩
          have l2 := low_hex ⟨u.toNat % 16, by omega⟩
          simp only at l1 l2
          rw [h2, show i + 1 + 1 = i + 2 by omega, h3, show i + 1 + 2 = i + 3 by omega] at hx
          have hyl : y.data.toList = [hexL (u.toNat / 16), hexL (u.toNat % 16)] := by
            rw [← hy]
            show Lib.toLowerD (s.extract (i + 1) (i + 3)).data.toList = _
            rw [hx, Lib.toLowerD_ascii _ (by simp [l1.2, l2.2])]
            simp [Lib.toLowerA, l1.1, l2.1]
          have hyz : y.size = 2 := by
            have : y.data.toList.length = y.size := by simp
            rw [← this, hyl]; rfl
          have hB : hexB y = ⟨#[u]⟩ := by rw [hexB, hyl, prsD_hex, hyz]; rfl
          exact ⟨b, by rw [h4, hB]; simp, h5⟩
        simp
        refine ⟨by omega, i + 3, out ++ hexB y, ⟨by omega, by rw [ByteArray.size_append]; omega, hat⟩, by omega, Wk.both (by simp [wkL, wkV.same]; rw [wrap_i64 (i := (i : Int) + 2) (by omega) (by omega), wrap_i64 (by omega) (by omega)]; exact .inl (by simp; omega)) trivial⟩
    · have hb : bt s i ≠ 37 := fun e => c1 (by rw [e]; rfl)
      simp [c1]
      rw [wrapN (by omega)]
      refine wh_ll (l := i) (h := (i + 1 : Nat)) rfl rfl (by omega) (by omega) (by omega) ?_
      simp
      rw [ext_one hlt]
      have hz := one_size (bt s i)
      refine ⟨by omega, i + 1, out ++ one (bt s i), ⟨by omega, by rw [ByteArray.size_append]; omega, ?_⟩, by omega, Wk.both (by simp [wkL, wkV.same]; rw [wrapN (by omega)]; exact wkV.same _) trivial⟩
      have := hp.plain hlt hb
      rw [show (out ++ one (bt s i)).data.toList = out.data.toList ++ [bt s i] by simp [one]]
      exact this
  · obtain rfl : i = s.size := by omega
    simp
    refine vcall_go (implPct_fx hE out (by omega)) (by simp) (by simp) (by simp) (by simp) ?_
    simp
    obtain ⟨d1, d2⟩ := hp.done
    by_cases c3 : pct out = s
    · simp [c3]
      exact Fin_ret2 rfl (by rw [pctRes, d1 c3]; rfl)
    · simp [c3]
      exact Fin_ret2 rfl (by rw [← hnone (d2 c3)]; rfl)
set_option maxHeartbeats 1000000 in
theorem specSplit_fx (s : ByteArray) (hs : s.size ≤ 9223372036854775806) : Fx E 54 [] [.lit (.string s)] [] (keyRes s) := by
  refine (is54.to hE).fx [] (by simp) rfl rfl ?_
  simp [v54]
  rw [wrap_i64 (by omega) (by omega)]
  refine X_loop (τ := Nat) (fun k => ⟨[(0, .lit (.string s)), (4, .lit (.int .i64 ((k : Int) - 1)))], []⟩) (fun k => k ≤ s.size ∧ ∀ j, k ≤ j → j < s.size → bt s j ≠ 64) (fun k => k) s.size ⟨Nat.le_refl _, fun j h1 h2 => by omega⟩ (Wk.both (by simp [wkL, wkV.same]) trivial) ?_
  rintro k ⟨hk, hall⟩
  simp
  by_cases h0 : k = 0
  · subst h0
    have hm := lastC_miss (c := 64) (s := s) fun j hj => hall j (by omega) hj
    simp
    exact Fin_ret2 rfl (by rw [keyRes, keyA, keyB, hm]; rfl)
  · obtain ⟨i, rfl⟩ : ∃ i, k = i + 1 := ⟨k - 1, by omega⟩
    have e1 : ((i + 1 : Nat) : Int) - 1 = (i : Int) := by omega
    have hlt : i < s.size := by omega
    have h0' : (0 : Int) ≤ i := by omega
    rw [e1]
    have h1' : (1 : Int) ≤ (i : Int) + 1 := by omega
    simp [hlt, h0', h1']
    by_cases c1 : ((bt s i).toNat : Int) = 64
    · have hb : bt s i = 64 := u8_eq.1 (c1.trans rfl)
      have hm := lastC_hit hlt hb fun j h1 h2 => hall j (by omega) h2
      simp [c1]
      refine wh_h (h := i) rfl (by omega) (by omega) ?_
      simp
      rw [wrapN (by omega)]
      refine wh_l (l := (i + 1 : Nat)) rfl (by omega) (by omega) ?_
      simp
      exact Fin_ret2 rfl (by rw [keyRes, keyA, keyB, hm, if_neg (by omega), if_neg (by omega)]; rfl)
    · have hb : bt s i ≠ 64 := fun e => c1 (by rw [e]; rfl)
      simp [c1]
      refine ⟨i, ⟨by omega, fun j h1 h2 => ?_⟩, by omega, Wk.both (by simp [wkL, wkV.same]; rw [wrap_i64 (by omega) (by omega)]; exact wkV.same _) trivial⟩
      rcases Nat.eq_or_lt_of_le h1 with rfl | h3
      · exact hb
      · exact hall j h3 h2
theorem lastIndex_fx (s : ByteArray) (c : UInt8) (hs : s.size < 4611686018427387904) : Fx E 123 [] [.lit (.string s), .lit (.string (one c))] [] (.lit (.int .i64 (lastC c s))) :=
  Fx_lit (args := [.string s, .string (one c)]) rfl fun w hw => by
    rw [hE]
    refine (Go.Proofs.Tryz.strings_LastIndex s (one c) hs w).mono ?_
    rintro e w' ⟨rfl, rfl⟩
    exact ⟨rfl, Below.refl _ _⟩
theorem implSplit_fx (s : ByteArray) (hs : s.size < 4611686018427387904) : Fx E 51 [] [.lit (.string s)] [] (keyRes s) := by
  refine (is51.to hE).fx [] (by simp) rfl rfl ?_
  simp [v51]
  rw [show by8 "@" = one 64 by decide +kernel]
  refine vcall_go (lastIndex_fx hE s 64 hs) (by simp) (by simp) (by simp) (by simp) ?_
  simp
  rcases lastC_cases 64 s with ⟨h, _⟩ | ⟨i, hi, _, _, h⟩
  · rw [h]
    simp
    exact Fin_ret2 rfl (by rw [keyRes, keyA, keyB, h]; rfl)
  · have hni : ¬ (i : Int) < 0 := by omega
    rw [h]
    simp [hni]
    refine wh_h (h := i) rfl (by omega) (by omega) ?_
    simp
    rw [wrapN (by omega)]
    refine wh_l (l := (i + 1 : Nat)) rfl (by omega) (by omega) ?_
    simp
    exact Fin_ret2 rfl (by rw [keyRes, keyA, keyB, h, if_neg hni, if_neg hni]; rfl)
end
end Go.Proofs.YtgegcfhifojjiaaGreatDoor.Vm
