/- Base64, read: the reference. -/
import Derived.Test.YtgegcfhifojjiaaDoorBd
namespace Go.Proofs.YtgegcfhifojjiaaDoor.Vm
open Go Go.RowKit
set_option linter.unusedVariables false
set_option linter.unusedSimpArgs false
def v17 : VC := .seq (.reg false [⟨some 2, .as (.c (.lit (.string (by8 "")))), none⟩, ⟨some 3, .as (.c (.lit (.bool false))), none⟩] [2, 3]) (.seq (.reg false [⟨some 10, .bsl 1 [], none⟩, ⟨some 4, .as (.t 10), none⟩] [10]) (.seq (.reg false [⟨some 5, .as (.c (.lit (.int .i64 0))), none⟩, ⟨some 6, .as (.c (.lit (.int .i64 0))), none⟩] []) (.seq (.seq (.reg false [⟨some 7, .as (.c (.lit (.int .i64 0))), none⟩] []) (.block 0 (.loop (.seq (.seq (.reg false [⟨some 11, .mv (.t 7), none⟩, ⟨some 12, .mv (.t 0), none⟩, ⟨some 13, .len true (.t 12), none⟩, ⟨some 14, .bin .lss 0 (.t 11) (.t 13), none⟩] [11, 12, 13]) (.cond (.t 14) (.skip) (.exit 0))) (.seq (.block 1 (.seq (.reg true [⟨some 17, .call true 40 [], none⟩, ⟨some 18, .mv (.t 0), none⟩, ⟨some 19, .mv (.t 7), none⟩, ⟨some 20, .idx (.t 18) (.t 19), none⟩, ⟨some 21, .call true 16 [(.t 17), (.t 20)], none⟩, ⟨some 8, .as (.t 21), none⟩] [17, 18, 19, 20, 21]) (.seq (.seq (.reg false [⟨some 22, .mv (.t 8), none⟩, ⟨some 23, .bin .lss 0 (.t 22) (.c (.lit (.int .i64 0))), none⟩] [22]) (.cond (.t 23) (.exit 0) (.skip))) (.seq (.reg false [⟨some 24, .mv (.t 5), none⟩, ⟨some 25, .bin .shl 0 (.t 24) (.c (.lit (.int .u64 6))), none⟩, ⟨some 26, .bin .and 0 (.t 25) (.c (.lit (.int .i64 16777215))), none⟩, ⟨some 27, .mv (.t 8), none⟩, ⟨some 28, .bin .add 0 (.t 26) (.t 27), none⟩, ⟨some 5, .as (.t 28), none⟩] [24, 25, 26, 27, 28]) (.seq (.reg false [⟨some 29, .mv (.t 6), none⟩, ⟨some 30, .bin .add 0 (.t 29) (.c (.lit (.int .i64 1))), none⟩, ⟨some 6, .as (.t 30), none⟩] [29, 30]) (.seq (.reg false [⟨some 31, .mv (.t 6), none⟩, ⟨some 32, .bin .rem 0 (.t 31) (.c (.lit (.int .i64 4))), none⟩, ⟨some 33, .bin .neq 0 (.t 32) (.c (.lit (.int .i64 1))), none⟩] [31, 32]) (.cond (.t 33) (.reg false [⟨some 34, .mv (.t 4), none⟩, ⟨some 35, .mv (.t 5), none⟩, ⟨some 36, .mv (.t 6), none⟩, ⟨some 37, .bin .sub 0 (.t 36) (.c (.lit (.int .i64 1))), none⟩, ⟨some 38, .bin .rem 0 (.t 37) (.c (.lit (.int .i64 4))), none⟩, ⟨some 39, .bin .sub 0 (.c (.lit (.int .i64 3))) (.t 38), none⟩, ⟨some 40, .bin .mul 0 (.c (.lit (.int .i64 2))) (.t 39), none⟩, ⟨some 41, .bin .shr 0 (.t 35) (.t 40), none⟩, ⟨some 42, .cvI .u8 (.t 41), none⟩, ⟨some 43, .bsl 1 [(.t 42)], none⟩, ⟨some 44, .app 1 1 (.t 34) (.t 43), none⟩, ⟨some 4, .as (.t 44), none⟩] [34, 35, 36, 37, 38, 39, 40, 41, 42, 43, 44]) (.skip)))))))) (.reg false [⟨some 15, .mv (.t 7), none⟩, ⟨some 16, .bin .add 0 (.t 15) (.c (.lit (.int .i64 1))), none⟩, ⟨some 7, .as (.t 16), none⟩] [15, 16])))))) (.seq (.reg false [⟨some 45, .mv (.t 4), none⟩, ⟨some 46, .b2s (.t 45), none⟩, ⟨some 9, .as (.t 46), none⟩] [45, 46]) (.seq (.seq (.reg false [⟨some 47, .mv (.t 9), none⟩, ⟨some 48, .call false 41 [(.t 47)], none⟩, ⟨some 49, .mv (.t 0), none⟩, ⟨some 50, .bin .neq 0 (.t 48) (.t 49), none⟩] [47, 48, 49]) (.cond (.t 50) (.seq (.reg false [⟨some 2, .as (.c (.lit (.string (by8 "")))), none⟩, ⟨some 3, .as (.c (.lit (.bool false))), none⟩] []) (.ret)) (.skip))) (.seq (.reg false [⟨some 51, .mv (.t 9), none⟩, ⟨some 2, .as (.t 51), none⟩, ⟨some 3, .as (.c (.lit (.bool true))), none⟩] [51]) (.ret)))))))
theorem is17 : Is Go.Proofs.Tryd.prog 17 52 v17 [.t 2, .t 3] := ⟨Go.Proofs.Tryd.f17, dl [(0, [2, 3]), (1, [10]), (4, [11, 12, 13]), (6, [17, 18, 19, 20, 21]), (7, [22]), (8, [24, 25, 26, 27, 28]), (9, [29, 30]), (10, [31, 32]), (11, [34, 35, 36, 37, 38, 39, 40, 41, 42, 43, 44]), (5, [15, 16]), (12, [45, 46]), (13, [47, 48, 49]), (15, [51])], Go.Proofs.Tryd.func17, by kernel_rfl, by kernel_rfl, by kernel_rfl, by kernel_rfl⟩
noncomputable def unB (s : ByteArray) : Option ByteArray := @dite _ (∃ b, b64 b = s) (Classical.propDecidable _) (fun h => some h.choose) fun _ => none
noncomputable def unRes (s : ByteArray) : AV := match unB s with
  | some b => .tup [.lit (.string b), .lit (.bool true)]
  | none => .tup [.lit (.string (by8 "")), .lit (.bool false)]
theorem unRes_ok (s : ByteArray) : resOk (unRes s) = true := by unfold unRes; cases unB s <;> rfl
theorem un_yes {s B : ByteArray} (h : ∀ b, s = b64 b → B = b) (h2 : b64 B = s) : unRes s = .tup [.lit (.string B), .lit (.bool true)] := by
  have he : ∃ b, b64 b = s := ⟨B, h2⟩
  have : unB s = some he.choose := by unfold unB; rw [dif_pos he]
  rw [unRes, this, ← h _ he.choose_spec.symm]
theorem un_no {s B : ByteArray} (h : ∀ b, s = b64 b → B = b) (h2 : ¬ b64 B = s) : unRes s = .tup [.lit (.string (by8 "")), .lit (.bool false)] := by
  have he : ¬ ∃ b, b64 b = s := fun ⟨b, hb⟩ => h2 (by rw [h b hb.symm, hb])
  have : unB s = none := by unfold unB; rw [dif_neg he]
  rw [unRes, this]
theorem un_none {s : ByteArray} (h : ∀ b, s ≠ b64 b) : unRes s = .tup [.lit (.string (by8 "")), .lit (.bool false)] := by
  have he : ¬ ∃ b, b64 b = s := fun ⟨b, hb⟩ => h b hb.symm
  have : unB s = none := by unfold unB; rw [dif_neg he]
  rw [unRes, this]
def sm (b : ByteArray) : Nat → Nat
  | 0 => 0
  | i + 1 => sm b i * 64 % 16777216 + six b i
theorem sm_mod (b : ByteArray) {i : Nat} (h : i ≠ 0) : sm b i % 64 = six b (i - 1) := by
  obtain ⟨k, rfl⟩ : ∃ k, i = k + 1 := ⟨i - 1, by omega⟩
  have := six_lt b k
  simp only [sm, Nat.add_sub_cancel]
  omega
theorem sm_two (b : ByteArray) {i : Nat} (h : i ≠ 0) : sm b (i + 1) % 4096 = six b (i - 1) * 64 + six b i := by
  have h1 := sm_mod b h
  have h2 := six_lt b i
  have h3 := six_lt b (i - 1)
  simp only [sm]
  omega
/-- how many bytes are out behind so many signs -/
def outN (i : Nat) : Nat := i - (i + 3) / 4
theorem outN_all (m : Nat) : outN (sgnN m) = m := by unfold outN sgnN; omega
/-- as far as a place -/
structure B6At (s : ByteArray) (i sum : Nat) (out : List UInt8) : Prop where
  at' : ∀ b, s = b64 b → i ≤ sgnN b.size ∧ sum = sm b i ∧ out = b.data.toList.take (outN i)
theorem B6At.end' {s : ByteArray} {i sum : Nat} {out : List UInt8} (h : B6At s i sum out) (he : i = s.size ∨ (i < s.size ∧ Lib.indexB sgn (one (bt s i)) = -1)) : ∀ b, s = b64 b → (⟨out.toArray⟩ : ByteArray) = b := by
  rintro b rfl
  obtain ⟨h1, _, h3⟩ := h.at' b rfl
  have hz := b64_size b
  have hn := sgnN_le b.size
  have hi : i = sgnN b.size := by
    rcases he with he | ⟨he, h4⟩
    · omega
    · rcases Nat.lt_or_ge i (sgnN b.size) with h5 | h5
      · rw [b64_sign b h5, sgn_idx' (six_lt b i)] at h4
        omega
      · omega
  rw [hi, outN_all] at h3
  refine ba_ext ?_
  rw [h3, List.take_of_length_le (by simp)]
theorem B6At.sign {s : ByteArray} {i sum x : Nat} {out : List UInt8} (h : B6At s i sum out) (hi : i < s.size) (hx : Lib.indexB sgn (one (bt s i)) = x) : ∀ b, s = b64 b → i < sgnN b.size ∧ x = six b i := by
  rintro b rfl
  obtain ⟨h1, _, h3⟩ := h.at' b rfl
  have h5 : i < sgnN b.size := by
    rcases Nat.lt_or_ge i (sgnN b.size) with h5 | h5
    · exact h5
    · rw [b64_pad b h5 hi, sgn_pad] at hx; omega
  rw [b64_sign b h5, sgn_idx' (six_lt b i)] at hx
  exact ⟨h5, by omega⟩
theorem take_bt {b : ByteArray} {k : Nat} (h : k < b.size) : b.data.toList.take (k + 1) = b.data.toList.take k ++ [bt b k] := by
  have hl : k < b.data.toList.length := by simpa using h
  rw [List.take_succ_eq_append_getElem hl]
  have := bt_get h
  rw [List.getElem?_eq_getElem hl] at this
  rw [Option.some.inj this]
theorem B6At.next0 {s : ByteArray} {i sum x : Nat} {out : List UInt8} (h : B6At s i sum out) (hi : i < s.size) (hx : Lib.indexB sgn (one (bt s i)) = x) (hr : i % 4 = 0) : B6At s (i + 1) (sum * 64 % 16777216 + x) out := ⟨fun b hb => by
  obtain ⟨h1, h2, h3⟩ := h.at' b hb
  obtain ⟨h4, h5⟩ := h.sign hi hx b hb
  exact ⟨h4, by rw [sm, ← h2, ← h5], by rw [h3, show outN (i + 1) = outN i by unfold outN; omega]⟩⟩
theorem B6At.next {s : ByteArray} {i sum x : Nat} {out : List UInt8} (h : B6At s i sum out) (hi : i < s.size) (hx : Lib.indexB sgn (one (bt s i)) = x) (hr : i % 4 ≠ 0) : B6At s (i + 1) (sum * 64 % 16777216 + x) (out ++ [UInt8.ofNat ((sum * 64 % 16777216 + x) / 2 ^ (2 * (3 - i % 4)))]) := ⟨fun b hb => by
  obtain ⟨h1, h2, h3⟩ := h.at' b hb
  obtain ⟨h4, h5⟩ := h.sign hi hx b hb
  have h6 : sum * 64 % 16777216 + x = sm b (i + 1) := by rw [sm, ← h2, ← h5]
  have h7 := byte_out b hr (sm_two b (i := i) (by omega))
  have hk : outN i < b.size := by unfold outN; unfold sgnN at h4; omega
  refine ⟨h4, h6, ?_⟩
  rw [h6, h3, show outN (i + 1) = outN i + 1 by unfold outN; omega, take_bt hk]
  congr 2
  have e : 3 * (i / 4) + i % 4 - 1 = outN i := by unfold outN; omega
  rw [e] at h7
  exact UInt8.toNat_inj.1 (by rw [UInt8.toNat_ofNat', h7])⟩
theorem acc24 (sum x : Nat) (hs : sum < 16777216) (hx : x < 64) : IntKind.i64.wrap (IntKind.i64.wrap (((IntKind.i64.wrap ((sum : Int) * 2 ^ min 6 IntKind.i64.bits) % 2 ^ IntKind.i64.bits).toNat &&& 16777215 % 2 ^ IntKind.i64.bits : Nat) : Int) + x) = ((sum * 64 % 16777216 + x : Nat) : Int) := by
  rw [show ((2 : Int) ^ min 6 IntKind.i64.bits) = 64 from rfl, wrap_i64 (i := (sum : Int) * 64) (by omega) (by omega), show ((2 : Int) ^ IntKind.i64.bits) = 18446744073709551616 from rfl, show (((sum : Int) * 64) % 18446744073709551616).toNat = sum * 64 by omega, show (16777215 % 2 ^ IntKind.i64.bits : Nat) = 2 ^ 24 - 1 from rfl, Nat.and_two_pow_sub_one_eq_mod, show (2 ^ 24 : Nat) = 16777216 from rfl]
  have h : sum * 64 % 16777216 < 16777216 := Nat.mod_lt _ (by decide)
  rw [wrap_i64 (i := ((sum * 64 % 16777216 : Nat) : Int)) (by omega) (by omega), wrap_i64 (by omega) (by omega)]
  omega
section
variable {E : Env} (hE : E.P = Go.Proofs.Tryd.prog)
include hE
set_option maxHeartbeats 4000000 in
theorem specGet64_fx (s : ByteArray) (hs : s.size ≤ 1099511627776) : Fx E 17 [] [.lit (.string s)] [] (unRes s) := by
  refine (is17.to hE).fx [] (by simp) rfl (unRes_ok s) ?_
  simp [v17]
  refine X_loop (τ := Nat × Nat × List UInt8) (fun p => ⟨[(0, .lit (.string s)), (4, .sl ⟨.cl 640, true⟩ 1 (p.2.2.map fun b : UInt8 => .lit (.int .u8 b.toNat))), (5, .lit (.int .i64 p.2.1)), (6, .lit (.int .i64 p.1)), (7, .lit (.int .i64 p.1))], []⟩) (fun p => p.1 ≤ s.size ∧ p.2.1 < 16777216 ∧ p.2.2.length ≤ p.1 ∧ B6At s p.1 p.2.1 p.2.2) (fun p => s.size - p.1) (0, 0, []) ⟨Nat.zero_le _, by decide, by simp, ⟨fun b hb => ⟨Nat.zero_le _, rfl, rfl⟩⟩⟩ (Wk.both (by simp [wkL, wkV.same, frA.frL]) trivial) ?_
  rintro ⟨i, sum, out⟩ ⟨hi, hsum, hol, hat⟩
  simp only at hi hsum hol hat
  simp
  by_cases hlt : i < s.size
  · simp [hlt]
    refine vcall_go (signs_fx hE) (by simp) (by simp) (by simp) (by simp) ?_
    simp [hlt]
    refine vcall_go (l01At_fx hE sgn (bt s i) (by rw [sgn_size]; omega)) (by simp) (by simp) (by simp) (by simp) ?_
    rcases idx_cases (bt s i) sgn with ⟨hx, _⟩ | ⟨x, hx1, _, _, hx⟩
    · have hend := hat.end' (.inr ⟨hlt, hx⟩)
      rw [hx]
      simp
      refine Xa_b2s (l := out) rfl ?_
      simp
      have hzb : ({ data := out.toArray } : ByteArray).size = out.length := List.size_toArray
      refine vcall_go (specB64_fx hE ⟨out.toArray⟩ (by omega)) (by simp) (by simp) (by simp) (by simp) ?_
      simp
      by_cases cb : b64 ⟨out.toArray⟩ = s
      · simp [cb]
        exact Fin_ret2 rfl (by rw [un_yes hend cb]; rfl)
      · simp [cb]
        exact Fin_ret2 rfl (by rw [un_no hend cb]; rfl)
    · rw [sgn_size] at hx1
      rw [hx]
      have hx0 : ¬ ((x : Int) < 0) := by omega
      simp [hx0]
      have hs2 : sum * 64 % 16777216 + x < 16777216 := by omega
      rw [acc24 sum x hsum hx1]
      obtain ⟨y, hy⟩ : ∃ y, sum * 64 % 16777216 + x = y := ⟨_, rfl⟩
      rw [hy] at hs2 ⊢
      have hw : IntKind.i64.wrap ((i : Int) + 1) = ((i + 1 : Nat) : Int) := wrapN (by omega)
      have hm4 : (((i + 1 : Nat) : Int)).tmod 4 = (((i + 1) % 4 : Nat) : Int) := tmodN (i + 1) 4
      rw [hw, hm4]
      by_cases r : i % 4 = 0
      · have hn := hat.next0 hlt hx r
        rw [hy] at hn
        have r1 : (i + 1) % 4 = 1 := by omega
        rw [r1]
        simp
        exact ⟨i + 1, y, out, ⟨by omega, hs2, by omega, hn⟩, by omega, Wk.both (by simp [wkL, wkV.same]; rw [wrapN (by omega)]; exact wkV.same _) trivial⟩
      · have hn := hat.next hlt hx r
        rw [hy] at hn
        have r1 : ¬ (((i + 1) % 4 : Nat) : Int) = 1 := by omega
        rw [decide_eq_false r1]
        simp
        rw [show IntKind.i64.wrap (i : Int) = i from wrap_i64 (by omega) (by omega), show ((i : Int)).tmod 4 = ((i % 4 : Nat) : Int) from tmodN i 4]
        obtain ⟨k, hk⟩ : ∃ k, 2 * (3 - i % 4) = k := ⟨_, rfl⟩
        have hk2 : IntKind.i64.wrap (2 * IntKind.i64.wrap (3 - ((i % 4 : Nat) : Int))) = (k : Nat) := by
          rw [wrap_i64 (i := 3 - ((i % 4 : Nat) : Int)) (by omega) (by omega), wrap_i64 (by omega) (by omega)]; omega
        have hk6 : k ≤ 6 := by omega
        have e1 : (y : Int).fdiv (2 ^ min ((k : Nat) : Int).toNat IntKind.i64.bits) = ((y / 2 ^ k : Nat) : Int) := by
          rw [show IntKind.i64.bits = 64 from rfl, show min ((k : Nat) : Int).toNat 64 = k by omega, show ((2 : Int) ^ k) = ((2 ^ k : Nat) : Int) by simp, fdivN]
        have e2 : IntKind.u8.wrap ((y / 2 ^ k : Nat) : Int) = ((UInt8.ofNat (y / 2 ^ k)).toNat : Int) := by
          rw [IntKind.wrap_u8, UInt8.toNat_ofNat']; omega
        rw [hk] at hn
        rw [hk2, if_neg (by omega), e1]
        simp
        rw [show ((y : Int) / 2 ^ k) = ((y / 2 ^ k : Nat) : Int) by simp, e2]
        simp [okC, frA, frA.frL, AS.dem, mapV, dem, dem.demL]
        exact ⟨by omega, i + 1, y, out ++ [UInt8.ofNat (y / 2 ^ k)], ⟨by omega, hs2, by simp; omega, hn⟩, by omega, Wk.both (by simp [wkL, wkV.same]; rw [wrapN (by omega)]; exact wkV.same _) trivial⟩
  · obtain rfl : i = s.size := by omega
    have hend := hat.end' (.inl rfl)
    simp
    refine Xa_b2s (l := out) rfl ?_
    simp
    have hzb : ({ data := out.toArray } : ByteArray).size = out.length := List.size_toArray
    refine vcall_go (specB64_fx hE ⟨out.toArray⟩ (by omega)) (by simp) (by simp) (by simp) (by simp) ?_
    simp
    by_cases cb : b64 ⟨out.toArray⟩ = s
    · simp [cb]
      exact Fin_ret2 rfl (by rw [un_yes hend cb]; rfl)
    · simp [cb]
      exact Fin_ret2 rfl (by rw [un_no hend cb]; rfl)
end
end Go.Proofs.YtgegcfhifojjiaaDoor.Vm
