/- Base64, read: the program. -/
import Derived.Test.YtgegcfhifojjiaaDoorBe
namespace Go.Proofs.YtgegcfhifojjiaaDoor.Vm
open Go Go.RowKit
set_option linter.unusedVariables false
set_option linter.unusedSimpArgs false
def v22 : VC := .seq (.reg false [⟨some 2, .as (.c (.lit (.string (by8 "")))), none⟩, ⟨some 3, .as (.c (.lit (.bool false))), none⟩] [2, 3]) (.seq (.reg false [⟨some 9, .bsl 1 [], none⟩, ⟨some 4, .as (.t 9), none⟩, ⟨some 5, .as (.c (.lit (.int .i64 0))), none⟩, ⟨some 6, .as (.c (.lit (.int .i64 0))), none⟩] [9]) (.seq (.seq (.reg false [⟨some 10, .mv (.t 0), none⟩, ⟨some 11, .call false 46 [(.t 10), (.c (.lit (.string (by8 "="))))], none⟩, ⟨some 12, .len true (.t 11), none⟩, ⟨some 13, .mv (.c (.lit (.int .i64 0))), none⟩] [10, 11]) (.block 0 (.loop (.seq (.reg false [⟨some 14, .bin .lss 0 (.t 13) (.t 12), none⟩] []) (.seq (.cond (.t 14) (.skip) (.exit 0)) (.seq (.block 1 (.seq (.reg false [⟨some 15, .mv (.t 13), none⟩, ⟨some 7, .as (.t 15), none⟩] [15]) (.seq (.reg false [⟨some 16, .mv (.t 0), none⟩, ⟨some 17, .mv (.t 7), none⟩, ⟨some 18, .idx (.t 16) (.t 17), none⟩, ⟨some 19, .call false 47 [(.c (.lit (.string (by8 "ABCDEFGHIJKLMNOPQRSTUVWXYZabcdefghijklmnopqrstuvwxyz0123456789+/")))), (.t 18)], none⟩, ⟨some 8, .as (.t 19), none⟩] [16, 17, 18, 19]) (.seq (.seq (.reg false [⟨some 20, .mv (.t 8), none⟩, ⟨some 21, .bin .lss 0 (.t 20) (.c (.lit (.int .i64 0))), none⟩] [20]) (.cond (.t 21) (.seq (.reg false [⟨some 2, .as (.c (.lit (.string (by8 "")))), none⟩, ⟨some 3, .as (.c (.lit (.bool false))), none⟩] []) (.ret)) (.skip))) (.seq (.reg false [⟨some 22, .mv (.t 5), none⟩, ⟨some 23, .bin .shl 0 (.t 22) (.c (.lit (.int .u64 6))), none⟩, ⟨some 24, .mv (.t 8), none⟩, ⟨some 25, .bin .or 0 (.t 23) (.t 24), none⟩, ⟨some 26, .mv (.t 6), none⟩, ⟨some 27, .bin .add 0 (.t 26) (.c (.lit (.int .i64 6))), none⟩, ⟨some 5, .as (.t 25), none⟩, ⟨some 6, .as (.t 27), none⟩] [22, 23, 24, 25, 26, 27]) (.seq (.reg false [⟨some 28, .mv (.t 6), none⟩, ⟨some 29, .bin .geq 0 (.t 28) (.c (.lit (.int .i64 8))), none⟩] [28]) (.cond (.t 29) (.seq (.reg false [⟨some 30, .mv (.t 6), none⟩, ⟨some 31, .bin .sub 0 (.t 30) (.c (.lit (.int .i64 8))), none⟩, ⟨some 6, .as (.t 31), none⟩] [30, 31]) (.seq (.reg false [⟨some 32, .mv (.t 4), none⟩, ⟨some 33, .mv (.t 5), none⟩, ⟨some 34, .mv (.t 6), none⟩, ⟨some 35, .bin .shr 0 (.t 33) (.t 34), none⟩, ⟨some 36, .cvI .u8 (.t 35), none⟩, ⟨some 37, .bsl 1 [(.t 36)], none⟩, ⟨some 38, .app 1 1 (.t 32) (.t 37), none⟩, ⟨some 4, .as (.t 38), none⟩] [32, 33, 34, 35, 36, 37, 38]) (.reg false [⟨some 39, .mv (.t 5), none⟩, ⟨some 40, .mv (.t 6), none⟩, ⟨some 41, .bin .shl 0 (.c (.lit (.int .i64 1))) (.t 40), none⟩, ⟨some 42, .bin .sub 0 (.t 41) (.c (.lit (.int .i64 1))), none⟩, ⟨some 43, .bin .and 0 (.t 39) (.t 42), none⟩, ⟨some 5, .as (.t 43), none⟩] [39, 40, 41, 42, 43]))) (.skip)))))))) (.reg false [⟨some 44, .bin .add 0 (.t 13) (.c (.lit (.int .i64 1))), none⟩, ⟨some 13, .mv (.t 44), none⟩] [44]))))))) (.seq (.seq (.reg false [⟨some 45, .mv (.t 4), none⟩, ⟨some 46, .b2s (.t 45), none⟩, ⟨some 47, .call false 48 [(.t 46)], none⟩, ⟨some 48, .mv (.t 0), none⟩, ⟨some 49, .bin .neq 0 (.t 47) (.t 48), none⟩] [45, 46, 47, 48]) (.cond (.t 49) (.seq (.reg false [⟨some 2, .as (.c (.lit (.string (by8 "")))), none⟩, ⟨some 3, .as (.c (.lit (.bool false))), none⟩] []) (.ret)) (.skip))) (.seq (.reg false [⟨some 50, .mv (.t 4), none⟩, ⟨some 51, .b2s (.t 50), none⟩, ⟨some 2, .as (.t 51), none⟩, ⟨some 3, .as (.c (.lit (.bool true))), none⟩] [50, 51]) (.ret)))))
theorem is22 : Is Go.Proofs.Tryd.prog 22 52 v22 [.t 2, .t 3] := ⟨Go.Proofs.Tryd.f22, dl [(0, [2, 3]), (1, [9]), (2, [10, 11]), (4, [15]), (5, [16, 17, 18, 19]), (6, [20]), (8, [22, 23, 24, 25, 26, 27]), (9, [28]), (10, [30, 31]), (11, [32, 33, 34, 35, 36, 37, 38]), (12, [39, 40, 41, 42, 43]), (13, [44]), (14, [45, 46, 47, 48]), (16, [50, 51])], Go.Proofs.Tryd.func22, by kernel_rfl, by kernel_rfl, by kernel_rfl, by kernel_rfl⟩
def bN (i : Nat) : Nat := if i % 4 = 0 then 0 else 8 - 2 * (i % 4)
def trimN (s : ByteArray) : Nat := (Lib.trimRightB s.data.toList 61).length
theorem trimN_le (s : ByteArray) : trimN s ≤ s.size := by
  have h1 : s.data.toList.length = s.size := by simp
  unfold trimN Lib.trimRightB
  rw [List.length_reverse]
  have := (List.dropWhile_suffix (l := s.data.toList.reverse) (· == 61)).length_le
  rw [List.length_reverse] at this
  omega
theorem trimN_b64 (b : ByteArray) : trimN (b64 b) = sgnN b.size := by
  have hz := b64_size b
  have hn := sgnN_le b.size
  have hl : (b64 b).data.toList.length = (b64 b).size := by simp
  unfold trimN
  rw [Lib.trimRightB_take _ _ (sgnN b.size) (by omega) (fun j c hj hc => ?_) (fun c h0 hc => ?_)]
  · rw [List.length_take]; omega
  · obtain ⟨h1, rfl⟩ := bt_some hc
    exact b64_pad b hj h1
  · obtain ⟨h1, rfl⟩ := bt_some hc
    rw [b64_sign b (by omega)]
    exact sgn_not_pad ⟨_, six_lt b _⟩
structure B7At (s : ByteArray) (i sum : Nat) (out : List UInt8) : Prop where
  at' : ∀ b, s = b64 b → i ≤ sgnN b.size ∧ (i % 4 ≠ 0 → sum = six b (i - 1) % 2 ^ bN i) ∧ out = b.data.toList.take (outN i)
theorem B7At.end' {s : ByteArray} {i sum : Nat} {out : List UInt8} (h : B7At s i sum out) (he : i = trimN s) : ∀ b, s = b64 b → (⟨out.toArray⟩ : ByteArray) = b := by
  rintro b rfl
  obtain ⟨h1, _, h3⟩ := h.at' b rfl
  rw [he, trimN_b64, outN_all] at h3
  refine ba_ext ?_
  rw [h3, List.take_of_length_le (by simp)]
theorem B7At.sign {s : ByteArray} {i sum : Nat} {out : List UInt8} (h : B7At s i sum out) (hi : i < trimN s) : ∀ b, s = b64 b → i < sgnN b.size ∧ Lib.indexB sgn (one (bt s i)) = six b i := by
  rintro b rfl
  rw [trimN_b64] at hi
  exact ⟨hi, by rw [b64_sign b hi, sgn_idx' (six_lt b i)]⟩
theorem B7At.next0 {s : ByteArray} {i sum x : Nat} {out : List UInt8} (h : B7At s i sum out) (hi : i < trimN s) (hx : Lib.indexB sgn (one (bt s i)) = x) (hr : i % 4 = 0) : B7At s (i + 1) x out := ⟨fun b hb => by
  obtain ⟨h1, h2, h3⟩ := h.at' b hb
  obtain ⟨h4, h5⟩ := h.sign hi b hb
  rw [hx] at h5
  have h6 := six_lt b i
  have h7 : bN (i + 1) = 6 := by unfold bN; rw [if_neg (by omega)]; omega
  refine ⟨h4, fun _ => ?_, by rw [h3, show outN (i + 1) = outN i by unfold outN; omega]⟩
  rw [h7, Nat.add_sub_cancel, Nat.mod_eq_of_lt h6]
  omega⟩
theorem B7At.next {s : ByteArray} {i sum x : Nat} {out : List UInt8} (h : B7At s i sum out) (hi : i < trimN s) (hx : Lib.indexB sgn (one (bt s i)) = x) (hr : i % 4 ≠ 0) : B7At s (i + 1) ((sum * 64 + x) % 2 ^ (6 - 2 * (i % 4))) (out ++ [UInt8.ofNat ((sum * 64 + x) / 2 ^ (6 - 2 * (i % 4)))]) := ⟨fun b hb => by
  obtain ⟨h1, h2, h3⟩ := h.at' b hb
  obtain ⟨h4, h5⟩ := h.sign hi b hb
  rw [hx] at h5
  have h6 := six_lt b i
  have h6' := six_lt b (i - 1)
  have h2 := h2 hr
  have h7 := byte_out b hr (x := six b (i - 1) * 64 + six b i) (by omega)
  have hk : outN i < b.size := by unfold outN; unfold sgnN at h4; omega
  have e : 3 * (i / 4) + i % 4 - 1 = outN i := by unfold outN; omega
  have hxx : x = six b i := by omega
  rw [e] at h7
  have hb2 : bN i = 8 - 2 * (i % 4) := by unfold bN; rw [if_neg hr]
  rw [hb2] at h2
  have h8 : (sum * 64 + x) / 2 ^ (6 - 2 * (i % 4)) % 256 = (bt b (outN i)).toNat ∧ ((i + 1) % 4 ≠ 0 → (sum * 64 + x) % 2 ^ (6 - 2 * (i % 4)) = six b i % 2 ^ bN (i + 1)) := by
    have : i % 4 = 1 ∨ i % 4 = 2 ∨ i % 4 = 3 := by omega
    rcases this with q | q | q
    · have hb3 : bN (i + 1) = 4 := by unfold bN; rw [if_neg (by omega)]; omega
      rw [q] at h2 h7
      rw [q, hb3, ← h7]
      simp only [Nat.reduceMul, Nat.reduceSub, Nat.reducePow] at h2 ⊢
      omega
    · have hb3 : bN (i + 1) = 2 := by unfold bN; rw [if_neg (by omega)]; omega
      rw [q] at h2 h7
      rw [q, hb3, ← h7]
      simp only [Nat.reduceMul, Nat.reduceSub, Nat.reducePow] at h2 ⊢
      omega
    · rw [q] at h2 h7
      rw [q, ← h7]
      simp only [Nat.reduceMul, Nat.reduceSub, Nat.reducePow] at h2 ⊢
      omega
  refine ⟨h4, fun hr2 => by rw [Nat.add_sub_cancel]; exact h8.2 hr2, ?_⟩
  rw [h3, show outN (i + 1) = outN i + 1 by unfold outN; omega, take_bt hk]
  congr 2
  exact UInt8.toNat_inj.1 (by rw [UInt8.toNat_ofNat', h8.1])⟩
theorem or_six (a b : Nat) (ha : a < 64) (hb : b < 64) : IntKind.i64.wrap ((((a : Int) * 64 % 2 ^ IntKind.i64.bits).toNat ||| ((b : Int) % 2 ^ IntKind.i64.bits).toNat : Nat) : Int) = ((a * 64 + b : Nat) : Int) := by
  rw [show ((2 : Int) ^ IntKind.i64.bits) = 18446744073709551616 from rfl, show ((a : Int) * 64 % 18446744073709551616).toNat = a * 64 by omega, show ((b : Int) % 18446744073709551616).toNat = b by omega]
  have := Nat.shiftLeft_add_eq_or_of_lt (b := b) (i := 6) (by omega) a
  rw [Nat.shiftLeft_eq, show 2 ^ 6 = 64 from rfl] at this
  rw [← this, wrap_i64 (by omega) (by omega)]
theorem or_six' (sum x : Nat) (hs : sum < 64) (hx : x < 64) : IntKind.i64.wrap (((IntKind.i64.wrap ((sum : Int) * 2 ^ min 6 IntKind.i64.bits) % 2 ^ IntKind.i64.bits).toNat ||| x % 2 ^ IntKind.i64.bits : Nat) : Int) = ((sum * 64 + x : Nat) : Int) := by
  rw [show ((2 : Int) ^ min 6 IntKind.i64.bits) = 64 from rfl, wrap_i64 (i := (sum : Int) * 64) (by omega) (by omega), show ((2 : Int) ^ IntKind.i64.bits) = 18446744073709551616 from rfl, show (((sum : Int) * 64) % 18446744073709551616).toNat = sum * 64 by omega, show (x % 2 ^ IntKind.i64.bits : Nat) = x from Nat.mod_eq_of_lt (by show x < 18446744073709551616; omega)]
  have := Nat.shiftLeft_add_eq_or_of_lt (b := x) (i := 6) (by omega) sum
  rw [Nat.shiftLeft_eq, show 2 ^ 6 = 64 from rfl] at this
  rw [← this, wrap_i64 (by omega) (by omega)]
theorem by61 : by8 "=" = one 61 := by decide +kernel
theorem bN_le (i : Nat) : bN i ≤ 6 := by unfold bN; split <;> omega
section
variable {E : Env} (hE : E.P = Go.Proofs.Tryd.prog)
include hE
theorem idxSgn_fx (u : UInt8) : Fx E 47 [] [.lit (.string sgn), .lit (.int .u8 u.toNat)] [] (.lit (.int .i64 (Lib.indexB sgn (one u)))) := by
  have h := idxByte_fx hE sgn u
  have e : Lib.indexByte sgn.data.toList u = Lib.indexB sgn (one u) := by
    have key : ∀ u : _root_.Fin 256, Lib.indexByte sgn.data.toList (UInt8.ofNat u.val) = Lib.indexB sgn (one (UInt8.ofNat u.val)) := by decide +kernel
    have := key ⟨u.toNat, u.toNat_lt⟩
    simpa using this
  rw [e] at h
  exact h
theorem trimRight_fx (s : ByteArray) (hs : s.size ≤ 9223372036854775807) : Fx E 46 [] [.lit (.string s), .lit (.string (one 61))] [] (.lit (.string ⟨(Lib.trimRightB s.data.toList 61).toArray⟩)) :=
  Fx_lit (args := [.string s, .string (one 61)]) rfl fun w hw => by
    rw [hE]
    refine (Go.Proofs.Tryd.strings_TrimRight_one s 61 (by decide) w hs).mono ?_
    rintro e w' ⟨rfl, rfl⟩
    exact ⟨rfl, Below.refl _ _⟩
set_option maxHeartbeats 4000000 in
theorem implGet64_fx (s : ByteArray) (hs : s.size ≤ 1099511627776) : Fx E 22 [] [.lit (.string s)] [] (unRes s) := by
  have htn := trimN_le s
  have htz : ({ data := (Lib.trimRightB s.data.toList 61).toArray } : ByteArray).size = trimN s := List.size_toArray
  refine (is22.to hE).fx [] (by simp) rfl (unRes_ok s) ?_
  simp [v22]
  refine vcall_go (trimRight_fx hE s (by omega)) (by rw [← by61]; rfl) (by simp) (by simp) (by simp) ?_
  simp
  rw [htz]
  refine X_loop (τ := Nat × Nat × List UInt8) (fun p => ⟨[(0, .lit (.string s)), (4, .sl ⟨.cl 576, true⟩ 1 (p.2.2.map fun b : UInt8 => .lit (.int .u8 b.toNat))), (5, .lit (.int .i64 p.2.1)), (6, .lit (.int .i64 (bN p.1))), (12, .lit (.int .i64 (trimN s))), (13, .lit (.int .i64 p.1))], []⟩) (fun p => p.1 ≤ trimN s ∧ p.2.1 < 2 ^ bN p.1 ∧ p.2.2.length ≤ p.1 ∧ B7At s p.1 p.2.1 p.2.2) (fun p => trimN s - p.1) (0, 0, []) ⟨Nat.zero_le _, by decide, by simp, ⟨fun b hb => ⟨Nat.zero_le _, fun h => absurd rfl h, rfl⟩⟩⟩ (Wk.both (by simp [wkL, wkV.same, frA.frL, bN]) trivial) ?_
  rintro ⟨i, sum, out⟩ ⟨hi, hsum, hol, hat⟩
  simp only at hi hsum hol hat
  have hb6 := bN_le i
  have hsum6 : sum < 64 := by
    have : 2 ^ bN i ≤ 2 ^ 6 := Nat.pow_le_pow_right (by omega) hb6
    omega
  simp
  by_cases hlt : i < trimN s
  · have hlt' : (i : Int) < trimN s := by omega
    have hlt2 : i < s.size := by omega
    simp [hlt', hlt, hlt2]
    refine vcall_go (idxSgn_fx hE (bt s i)) (by simp [sgn]) (by simp) (by simp) (by simp) ?_
    rcases idx_cases (bt s i) sgn with ⟨hx, _⟩ | ⟨x, hx1, _, _, hx⟩
    · have hn : ∀ b, s ≠ b64 b := fun b hb => by
        have := (hat.sign hlt b hb).2
        rw [hx] at this; omega
      rw [hx]
      simp
      exact Fin_ret2 rfl (by rw [un_none hn]; rfl)
    · rw [sgn_size] at hx1
      rw [hx]
      have hx0 : ¬ ((x : Int) < 0) := by omega
      simp [hx0]
      rw [or_six' sum x hsum6 hx1, wrap_i64 (i := (bN i : Int) + 6) (by omega) (by omega)]
      obtain ⟨y, hy⟩ : ∃ y, sum * 64 + x = y := ⟨_, rfl⟩
      rw [hy]
      by_cases r : i % 4 = 0
      · have hb0 : bN i = 0 := by unfold bN; rw [if_pos r]
        rw [hb0] at hsum
        have hn := hat.next0 hlt hx r
        have hb1 : bN (i + 1) = 6 := by unfold bN; rw [if_neg (by omega)]; omega
        obtain rfl : y = x := by simp at hsum; omega
        rw [hb0]
        simp
        exact ⟨i + 1, y, out, ⟨by omega, by rw [hb1]; omega, by omega, hn⟩, by omega, Wk.both (by simp [wkL, wkV.same, hb1]; rw [wrapN (by omega)]; exact wkV.same _) trivial⟩
      · obtain ⟨m, hm⟩ : ∃ m, 6 - 2 * (i % 4) = m := ⟨_, rfl⟩
        have hbm : bN i = m + 2 := by unfold bN; rw [if_neg r]; omega
        have hb1 : bN (i + 1) = m := by
          unfold bN; split
          · omega
          · omega
        have hn := hat.next hlt hx r
        rw [hm, hy] at hn
        have hy2 : y < 4096 := by omega
        have hm4 : m ≤ 4 := by omega
        have g1 : (8 : Int) ≤ ((m + 2 : Nat) : Int) + 6 := by omega
        have g2 : IntKind.i64.wrap ((m : Int) + 2 + 6 - 8) = (m : Nat) := by rw [wrap_i64 (by omega) (by omega)]; omega
        have e1 : (y : Int).fdiv (2 ^ min ((m : Nat) : Int).toNat IntKind.i64.bits) = ((y / 2 ^ m : Nat) : Int) := by
          rw [show IntKind.i64.bits = 64 from rfl, show min ((m : Nat) : Int).toNat 64 = m by omega, show ((2 : Int) ^ m) = ((2 ^ m : Nat) : Int) by simp, fdivN]
        have e2 : IntKind.u8.wrap ((y / 2 ^ m : Nat) : Int) = ((UInt8.ofNat (y / 2 ^ m)).toNat : Int) := by
          rw [IntKind.wrap_u8, UInt8.toNat_ofNat']; omega
        rw [hbm, decide_eq_true g1]
        simp
        rw [g2, if_neg (by omega), e1]
        simp
        rw [show ((y : Int) / 2 ^ m) = ((y / 2 ^ m : Nat) : Int) by simp, e2]
        simp [okC, frA, frA.frL, AS.dem, mapV, dem, dem.demL]
        refine ⟨by omega, ?_⟩
        have hp : 2 ^ m ≤ 16 := by
          have : 2 ^ m ≤ 2 ^ 4 := Nat.pow_le_pow_right (by omega) hm4
          omega
        have hp0 : 0 < 2 ^ m := Nat.two_pow_pos m
        obtain ⟨z, hz⟩ : ∃ z, 2 ^ m = z := ⟨_, rfl⟩
        have e3 : IntKind.i64.wrap (2 ^ min m IntKind.i64.bits) = (z : Nat) := by
          rw [show IntKind.i64.bits = 64 from rfl, show min m 64 = m by omega, show ((2 : Int) ^ m) = ((2 ^ m : Nat) : Int) by simp, hz, wrap_i64 (by omega) (by omega)]
        rw [if_neg (by omega), e3]
        simp
        rw [wrap_i64 (i := (z : Int) - 1) (by omega) (by omega)]
        have e4 : IntKind.i64.wrap (((y % 2 ^ IntKind.i64.bits &&& (((z : Int) - 1) % 2 ^ IntKind.i64.bits).toNat : Nat)) : Int) = ((y % 2 ^ m : Nat) : Int) := by
          rw [show ((2 : Int) ^ IntKind.i64.bits) = 18446744073709551616 from rfl, show (((z : Int) - 1) % 18446744073709551616).toNat = 2 ^ m - 1 by omega, show (y % 2 ^ IntKind.i64.bits : Nat) = y from Nat.mod_eq_of_lt (by show y < 18446744073709551616; omega), Nat.and_two_pow_sub_one_eq_mod]
          have := Nat.mod_le y (2 ^ m)
          rw [wrap_i64 (by omega) (by omega)]
        rw [e4]
        have hlt3 : y % 2 ^ m < 2 ^ m := Nat.mod_lt _ hp0
        exact ⟨i + 1, y % 2 ^ m, out ++ [UInt8.ofNat (y / 2 ^ m)], ⟨by omega, by rw [hb1]; exact hlt3, by simp; omega, hn⟩, by omega, Wk.both (by simp [wkL, wkV.same, hb1]; rw [wrapN (by omega)]; exact wkV.same _) trivial⟩
  · obtain rfl : i = trimN s := by omega
    have hend := hat.end' rfl
    have hzb : ({ data := out.toArray } : ByteArray).size = out.length := List.size_toArray
    simp
    refine Xa_b2s (l := out) rfl ?_
    simp
    refine vcall_go (implB64_fx hE ⟨out.toArray⟩ (by omega)) (by simp) (by simp) (by simp) (by simp) ?_
    simp
    by_cases cb : b64 ⟨out.toArray⟩ = s
    · simp [cb]
      refine Xa_b2s (l := out) rfl ?_
      simp
      exact Fin_ret2 rfl (by rw [un_yes hend cb]; rfl)
    · simp [cb]
      exact Fin_ret2 rfl (by rw [un_no hend cb]; rfl)
end
end Go.Proofs.YtgegcfhifojjiaaDoor.Vm
