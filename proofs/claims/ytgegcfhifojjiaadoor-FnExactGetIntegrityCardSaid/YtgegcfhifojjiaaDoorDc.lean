/- Decimal numerals: both sides. -/
import Derived.Test.YtgegcfhifojjiaaDoorDp
namespace Go.Proofs.YtgegcfhifojjiaaDoor.Vm
open Go Go.RowKit
set_option linter.unusedVariables false
set_option linter.unusedSimpArgs false
def v79 : VC := .seq (.reg false [⟨some 6, .as (.c (.lit (.bool false))), none⟩] [6]) (.seq (.reg false [⟨some 7, .mv (.t 0), none⟩, ⟨some 8, .mv (.t 1), none⟩, ⟨some 9, .bin .geq 0 (.t 7) (.t 8), none⟩, ⟨some 10, .mv (.t 9), none⟩, ⟨some 11, .mv (.t 0), (some (10, true))⟩, ⟨some 12, .mv (.t 2), (some (10, true))⟩, ⟨some 13, .bin .leq 0 (.t 11) (.t 12), (some (10, true))⟩, ⟨some 14, .pick (.t 10) (.t 13) (.c (.lit (.bool false))), none⟩, ⟨some 6, .as (.t 14), none⟩] [7, 8, 9, 10, 11, 12, 13, 14]) (.ret))
theorem is79 : Is Go.Proofs.Tryd.prog 79 15 v79 [.t 6] := ⟨Go.Proofs.Tryd.f79, dl [(0, [6]), (1, [7, 8, 9, 10, 11, 12, 13, 14])], Go.Proofs.Tryd.func79, by kernel_rfl, by kernel_rfl, by kernel_rfl, by kernel_rfl⟩
def v104 : VC := .seq (.reg false [⟨some 2, .as (.c (.lit (.string (by8 "")))), none⟩] [2]) (.seq (.seq (.reg false [⟨some 6, .mv (.t 0), none⟩, ⟨some 7, .bin .eql 0 (.t 6) (.c (.lit (.int .i64 0))), none⟩] [6]) (.cond (.t 7) (.seq (.reg false [⟨some 2, .as (.c (.lit (.string (by8 "0")))), none⟩] []) (.ret)) (.skip))) (.seq (.reg false [⟨some 3, .as (.c (.lit (.string (by8 "")))), none⟩] []) (.seq (.reg false [⟨some 8, .mv (.t 0), none⟩, ⟨some 4, .as (.t 8), none⟩] [8]) (.seq (.block 0 (.loop (.seq (.seq (.reg false [⟨some 9, .mv (.t 4), none⟩, ⟨some 10, .bin .neq 0 (.t 9) (.c (.lit (.int .i64 0))), none⟩] [9]) (.cond (.t 10) (.skip) (.exit 0))) (.block 1 (.seq (.reg false [⟨some 11, .mv (.t 4), none⟩, ⟨some 12, .bin .rem 0 (.t 11) (.c (.lit (.int .i64 10))), none⟩, ⟨some 5, .as (.t 12), none⟩] [11, 12]) (.seq (.seq (.reg false [⟨some 13, .mv (.t 5), none⟩, ⟨some 14, .bin .lss 0 (.t 13) (.c (.lit (.int .i64 0))), none⟩] [13]) (.cond (.t 14) (.reg false [⟨some 15, .mv (.t 5), none⟩, ⟨some 16, .un .neg (.t 15), none⟩, ⟨some 5, .as (.t 16), none⟩] [15, 16]) (.skip))) (.seq (.reg false [⟨some 17, .mv (.t 5), none⟩, ⟨some 18, .mv (.t 5), none⟩, ⟨some 19, .bin .add 0 (.t 18) (.c (.lit (.int .i64 1))), none⟩, ⟨some 20, .slS (.c (.lit (.string (by8 "0123456789")))) (some (.t 17)) (some (.t 19)), none⟩, ⟨some 21, .mv (.t 3), none⟩, ⟨some 22, .bin .add 0 (.t 20) (.t 21), none⟩, ⟨some 3, .as (.t 22), none⟩] [17, 18, 19, 20, 21, 22]) (.reg false [⟨some 23, .mv (.t 4), none⟩, ⟨some 24, .bin .quo 0 (.t 23) (.c (.lit (.int .i64 10))), none⟩, ⟨some 4, .as (.t 24), none⟩] [23, 24])))))))) (.seq (.seq (.reg false [⟨some 25, .mv (.t 0), none⟩, ⟨some 26, .bin .lss 0 (.t 25) (.c (.lit (.int .i64 0))), none⟩] [25]) (.cond (.t 26) (.seq (.reg false [⟨some 27, .mv (.t 3), none⟩, ⟨some 28, .bin .add 0 (.c (.lit (.string (by8 "-")))) (.t 27), none⟩, ⟨some 2, .as (.t 28), none⟩] [27, 28]) (.ret)) (.skip))) (.seq (.reg false [⟨some 29, .mv (.t 3), none⟩, ⟨some 2, .as (.t 29), none⟩] [29]) (.ret)))))))
theorem is104 : Is Go.Proofs.Tryd.prog 104 30 v104 [.t 2] := ⟨Go.Proofs.Tryd.f104, dl [(0, [2]), (1, [6]), (4, [8]), (5, [9]), (6, [11, 12]), (7, [13]), (8, [15, 16]), (9, [17, 18, 19, 20, 21, 22]), (10, [23, 24]), (11, [25]), (12, [27, 28]), (13, [29])], Go.Proofs.Tryd.func104, by kernel_rfl, by kernel_rfl, by kernel_rfl, by kernel_rfl⟩
def v80 : VC := .seq (.reg false [⟨some 2, .as (.c (.lit (.int .i64 0))), none⟩] [2]) (.seq (.reg false [⟨some 3, .as (.c (.lit (.int .i64 0))), none⟩] []) (.seq (.seq (.reg false [⟨some 4, .as (.c (.lit (.int .i64 0))), none⟩] []) (.block 0 (.loop (.seq (.seq (.reg false [⟨some 5, .mv (.t 4), none⟩, ⟨some 6, .mv (.t 0), none⟩, ⟨some 7, .len true (.t 6), none⟩, ⟨some 8, .bin .lss 0 (.t 5) (.t 7), none⟩] [5, 6, 7]) (.cond (.t 8) (.skip) (.exit 0))) (.seq (.block 1 (.seq (.seq (.reg false [⟨some 11, .mv (.t 0), none⟩, ⟨some 12, .mv (.t 4), none⟩, ⟨some 13, .idx (.t 11) (.t 12), none⟩, ⟨some 14, .cvI .i64 (.t 13), none⟩, ⟨some 15, .call false 79 [(.t 14), (.c (.lit (.int .i64 48))), (.c (.lit (.int .i64 57)))], none⟩, ⟨some 16, .un .not (.t 15), none⟩, ⟨some 17, .mv (.t 16), none⟩, ⟨some 18, .mv (.t 0), (some (17, false))⟩, ⟨some 19, .len true (.t 18), (some (17, false))⟩, ⟨some 20, .bin .gtr 0 (.t 19) (.c (.lit (.int .i64 9))), (some (17, false))⟩, ⟨some 21, .pick (.t 17) (.c (.lit (.bool true))) (.t 20), none⟩] [11, 12, 13, 14, 15, 16, 17, 18, 19, 20]) (.cond (.t 21) (.seq (.reg false [⟨some 2, .as (.c (.lit (.int .i64 (-1)))), none⟩] []) (.ret)) (.skip))) (.reg false [⟨some 22, .mv (.t 3), none⟩, ⟨some 23, .bin .mul 0 (.c (.lit (.int .i64 10))) (.t 22), none⟩, ⟨some 24, .mv (.t 0), none⟩, ⟨some 25, .mv (.t 4), none⟩, ⟨some 26, .idx (.t 24) (.t 25), none⟩, ⟨some 27, .cvI .i64 (.t 26), none⟩, ⟨some 28, .bin .add 0 (.t 23) (.t 27), none⟩, ⟨some 29, .bin .sub 0 (.t 28) (.c (.lit (.int .i64 48))), none⟩, ⟨some 3, .as (.t 29), none⟩] [22, 23, 24, 25, 26, 27, 28, 29]))) (.reg false [⟨some 9, .mv (.t 4), none⟩, ⟨some 10, .bin .add 0 (.t 9) (.c (.lit (.int .i64 1))), none⟩, ⟨some 4, .as (.t 10), none⟩] [9, 10])))))) (.seq (.seq (.reg false [⟨some 30, .mv (.t 0), none⟩, ⟨some 31, .bin .eql 0 (.t 30) (.c (.lit (.string (by8 "")))), none⟩, ⟨some 32, .mv (.t 31), none⟩, ⟨some 33, .mv (.t 3), (some (32, false))⟩, ⟨some 34, .call false 104 [(.t 33)], (some (32, false))⟩, ⟨some 35, .mv (.t 0), (some (32, false))⟩, ⟨some 36, .bin .neq 0 (.t 34) (.t 35), (some (32, false))⟩, ⟨some 37, .pick (.t 32) (.c (.lit (.bool true))) (.t 36), none⟩] [30, 31, 32, 33, 34, 35, 36]) (.cond (.t 37) (.seq (.reg false [⟨some 2, .as (.c (.lit (.int .i64 (-1)))), none⟩] []) (.ret)) (.skip))) (.seq (.reg false [⟨some 38, .mv (.t 3), none⟩, ⟨some 2, .as (.t 38), none⟩] [38]) (.ret)))))
theorem is80 : Is Go.Proofs.Tryd.prog 80 39 v80 [.t 2] := ⟨Go.Proofs.Tryd.f80, dl [(0, [2]), (3, [5, 6, 7]), (5, [11, 12, 13, 14, 15, 16, 17, 18, 19, 20]), (7, [22, 23, 24, 25, 26, 27, 28, 29]), (4, [9, 10]), (8, [30, 31, 32, 33, 34, 35, 36]), (10, [38])], Go.Proofs.Tryd.func80, by kernel_rfl, by kernel_rfl, by kernel_rfl, by kernel_rfl⟩
def v85 : VC := .seq (.reg false [⟨some 6, .as (.c (.lit (.bool false))), none⟩] [6]) (.seq (.reg false [⟨some 7, .mv (.t 1), none⟩, ⟨some 8, .mv (.t 0), none⟩, ⟨some 9, .bin .leq 0 (.t 7) (.t 8), none⟩, ⟨some 10, .mv (.t 9), none⟩, ⟨some 11, .mv (.t 0), (some (10, true))⟩, ⟨some 12, .mv (.t 2), (some (10, true))⟩, ⟨some 13, .bin .leq 0 (.t 11) (.t 12), (some (10, true))⟩, ⟨some 14, .pick (.t 10) (.t 13) (.c (.lit (.bool false))), none⟩, ⟨some 6, .as (.t 14), none⟩] [7, 8, 9, 10, 11, 12, 13, 14]) (.ret))
theorem is85 : Is Go.Proofs.Tryd.prog 85 15 v85 [.t 6] := ⟨Go.Proofs.Tryd.f85, dl [(0, [6]), (1, [7, 8, 9, 10, 11, 12, 13, 14])], Go.Proofs.Tryd.func85, by kernel_rfl, by kernel_rfl, by kernel_rfl, by kernel_rfl⟩
def v86 : VC := .seq (.reg false [⟨some 2, .as (.c (.lit (.string (by8 "")))), none⟩] [2]) (.seq (.reg false [⟨some 3, .mv (.t 0), none⟩, ⟨some 4, .call false 111 [(.t 3)], none⟩, ⟨some 2, .as (.t 4), none⟩] [3, 4]) (.ret))
theorem is86 : Is Go.Proofs.Tryd.prog 86 5 v86 [.t 2] := ⟨Go.Proofs.Tryd.f86, dl [(0, [2]), (1, [3, 4])], Go.Proofs.Tryd.func86, by kernel_rfl, by kernel_rfl, by kernel_rfl, by kernel_rfl⟩
def inR (x a b : Int) : Bool := decide (a ≤ x) && decide (x ≤ b)
theorem wrapN {i : Nat} (h : i < 9223372036854775807) : IntKind.i64.wrap ((i : Int) + 1) = ((i + 1 : Nat) : Int) := by
  rw [wrap_i64 (by omega) (by omega)]; rfl
theorem tmodN (m k : Nat) : (m : Int).tmod k = ((m % k : Nat) : Int) := by rw [Int.tmod_eq_emod_of_nonneg (by omega)]; rfl
theorem tdivN (m k : Nat) : (m : Int).tdiv k = ((m / k : Nat) : Int) := by rw [Int.tdiv_eq_ediv_of_nonneg (by omega)]; rfl
theorem one_dig : ∀ d : _root_.Fin 10, (by8 "0123456789").extract d.val (d.val + 1) = ⟨#[UInt8.ofNat (48 + d.val)]⟩ := by decide +kernel
section
variable {E : Env} (hE : E.P = Go.Proofs.Tryd.prog)
include hE
theorem l01In_fx (x a b : Int) : Fx E 79 [] [.lit (.int .i64 x), .lit (.int .i64 a), .lit (.int .i64 b)] [] (.lit (.bool (inR x a b))) := by
  refine (is79.to hE).fx [] (by simp) rfl rfl ?_
  simp [v79]
  by_cases c1 : a ≤ x
  · simp [c1]
    exact Fin_ret rfl (by simp [inR, c1, reC])
  · simp [c1]
    exact Fin_ret rfl (by simp [inR, c1, reC])
theorem within_fx (x a b : Int) : Fx E 85 [] [.lit (.int .i64 x), .lit (.int .i64 a), .lit (.int .i64 b)] [] (.lit (.bool (inR x a b))) := by
  refine (is85.to hE).fx [] (by simp) rfl rfl ?_
  simp [v85]
  by_cases c1 : a ≤ x
  · simp [c1]
    exact Fin_ret rfl (by simp [inR, c1, reC])
  · simp [c1]
    exact Fin_ret rfl (by simp [inR, c1, reC])
theorem specDec_fx (n : Nat) (hn : n ≤ 999999999) : Fx E 104 [] [.lit (.int .i64 n)] [] (.lit (.string (decT n))) := by
  have hlen := dec_len 8 n (by omega)
  refine (is104.to hE).fx [] (by simp) rfl rfl ?_
  simp [v104]
  by_cases c0 : n = 0
  · subst c0
    simp
    have h0 : by8 "0" = decT 0 := by rw [decT, Lib.decDigits]; decide +kernel
    exact Fin_ret rfl (by rw [← h0]; rfl)
  · simp [c0]
    refine X_loop (τ := Nat × ByteArray) (fun p => ⟨[(0, .lit (.int .i64 n)), (3, .lit (.string p.2)), (4, .lit (.int .i64 p.1))], []⟩) (fun p => (p.1 = 0 ∧ p.2 = decT n) ∨ (0 < p.1 ∧ p.1 ≤ n ∧ Lib.decDigits n = Lib.decDigits p.1 ++ p.2.data.toList)) (fun p => p.1) (n, by8 "") (.inr ⟨by omega, Nat.le_refl _, by simp; rfl⟩) (Wk.both (by simp [wkL, wkV.same]) trivial) ?_
    rintro ⟨m, out⟩ hp
    simp
    rcases hp with ⟨h1, h2⟩ | ⟨h1, h2, h3⟩
    · simp only at h1 h2
      subst h1 h2
      have hn0 : ¬ (n : Int) < 0 := by omega
      simp [hn0]
      exact Fin_ret rfl rfl
    · simp only at h1 h2 h3
      have h1' : ¬ m = 0 := by omega
      have hsz : out.size ≤ 9 := by
        have := congrArg List.length h3
        rw [List.length_append] at this
        have e : out.data.toList.length = out.size := by simp
        omega
      simp [h1']
      obtain ⟨d, hd⟩ : ∃ d, m % 10 = d := ⟨_, rfl⟩
      obtain ⟨q, hq⟩ : ∃ q, m / 10 = q := ⟨_, rfl⟩
      have hd10 : d < 10 := by omega
      have e1 : (m : Int).tmod 10 = (d : Int) := by rw [← hd]; exact tmodN m 10
      have e2 : (m : Int).tdiv 10 = (q : Int) := by rw [← hq]; exact tdivN m 10
      rw [e1]
      have hm1 : ¬ (d : Int) < 0 := by omega
      simp [hm1]
      rw [wrapN (by omega)]
      refine wh_ll (l := d) (h := (d + 1 : Nat)) rfl rfl (by omega) (by omega) (by have : (by8 "0123456789").size = 10 := by decide +kernel
                                                                                   omega) ?_
      have hdig := one_dig ⟨d, hd10⟩
      simp only at hdig
      simp
      rw [hdig]
      have h10 : (by8 "0123456789").size = 10 := by decide +kernel
      have e3 : IntKind.i64.wrap ((m : Int) / 10) = (q : Int) := by rw [wrap_i64 (by omega) (by omega)]; omega
      have hl1 : (({ data := #[UInt8.ofNat (48 + d)] } : ByteArray) ++ out).data.toList = UInt8.ofNat (48 + d) :: out.data.toList := by simp
      refine ⟨by omega, q, ({ data := #[UInt8.ofNat (48 + d)] } : ByteArray) ++ out, ?_, by omega, Wk.both (by simp [wkL, wkV.same, e3]) trivial⟩
      by_cases hq0 : q = 0
      · refine .inl ⟨hq0, ?_⟩
        have hm : Lib.decDigits m = [UInt8.ofNat (48 + m)] := by rw [Lib.decDigits, dif_pos (by omega)]
        have hmd : m = d := by omega
        rw [hm] at h3
        refine ba_ext ?_
        rw [hl1, decT_list, h3, hmd]; rfl
      · refine .inr ⟨by omega, by omega, ?_⟩
        have hm : Lib.decDigits m = Lib.decDigits q ++ [UInt8.ofNat (48 + d)] := by rw [Lib.decDigits, dif_neg (by omega), hd, hq]
        rw [hl1, h3, hm]; simp
/-- digits alone -/
def digB (u : UInt8) : Bool := inR u.toNat 48 57
omit hE in
theorem dec_bt {n i : Nat} (h : i < (decT n).size) : digB (bt (decT n) i) = true := by
  have h1 := bt_get h
  have h2 := dec_digits n _ (List.mem_of_getElem? h1)
  unfold isD at h2
  simp [digB, inR]; omega
set_option maxHeartbeats 1000000 in
theorem specReadDec_fx (s : ByteArray) (hs : s.size ≤ 9223372036854775806) : Fx E 80 [] [.lit (.string s)] [] (.lit (.int .i64 (readDec s))) := by
  refine (is80.to hE).fx [] (by simp) rfl rfl ?_
  simp [v80]
  refine X_loop (τ := Nat) (fun i => ⟨[(0, .lit (.string s)), (3, .lit (.int .i64 (dval 0 (s.data.toList.take i)))), (4, .lit (.int .i64 i))], []⟩) (fun i => i ≤ s.size ∧ (0 < i → s.size ≤ 9) ∧ ∀ k, k < i → digB (bt s k) = true) (fun i => s.size - i) 0 (by simp) (Wk.both (by simp [wkL, wkV.same, dval]) trivial) ?_
  rintro i ⟨hi, h9, hall⟩
  simp
  have hlt9 : s.size ≤ 9 → dval 0 (s.data.toList.take i) < 10 ^ 9 := by
    intro h
    have := dval_lt (s.data.toList.take i) 0 0 (fun b hb => by
      obtain ⟨k, hk, rfl⟩ := List.getElem_of_mem hb
      have hk2 : k < i ∧ k < s.size := by simp at hk; omega
      have h1 := hall k hk2.1
      have h2 := bt_get hk2.2
      have h3 : (s.data.toList.take i)[k]? = some (bt s k) := by rw [List.getElem?_take, if_pos hk2.1, h2]
      rw [List.getElem?_eq_getElem hk] at h3
      rw [Option.some.inj h3]
      simp [digB, inR] at h1
      unfold isD; omega) (by omega)
    refine Nat.lt_of_lt_of_le this (Nat.pow_le_pow_right (by omega) ?_)
    simp; omega
  by_cases hlt : i < s.size
  · simp [hlt]
    rw [wrap_i64 (by omega) (by have := (bt s i).toNat_lt; omega)]
    refine vcall_go (l01In_fx hE (bt s i).toNat 48 57) (by simp) (by simp) (by simp) (by simp) ?_
    simp
    cases c1 : inR ((bt s i).toNat : Int) 48 57
    · simp
      exact Fin_ret rfl (by
        rw [readDec_none fun n h1 h2 => ?_]; rfl
        subst h2
        have := dec_bt hlt
        unfold digB at this
        rw [c1] at this; cases this)
    · simp
      by_cases c2 : (9 : Int) < s.size
      · simp [c2]
        exact Fin_ret rfl (by
          rw [readDec_none fun n h1 h2 => ?_]; rfl
          subst h2
          have := decT_size (k := 8) (n := n) (by omega)
          omega)
      · have h9' : s.size ≤ 9 := by omega
        have hv := hlt9 h9'
        have hvt := dval_take hlt
        have hu := (bt s i).toNat_lt
        have hdig : 48 ≤ (bt s i).toNat ∧ (bt s i).toNat ≤ 57 := by simp [inR] at c1; omega
        simp [c2, hlt]
        rw [wrap_i64 (i := (bt s i).toNat) (by omega) (by omega)]
        have e1 : IntKind.i64.wrap (IntKind.i64.wrap (IntKind.i64.wrap (10 * (dval 0 (s.data.toList.take i) : Int)) + (bt s i).toNat) - 48) = (dval 0 (s.data.toList.take (i + 1)) : Int) := by
          rw [wrap_i64 (i := 10 * (dval 0 (s.data.toList.take i) : Int)) (by omega) (by omega), wrap_i64 (i := 10 * (dval 0 (s.data.toList.take i) : Int) + (bt s i).toNat) (by omega) (by omega), wrap_i64 (by omega) (by omega), hvt]
          omega
        rw [e1]
        refine ⟨i + 1, ⟨by omega, fun _ => h9', fun k hk => ?_⟩, by omega, Wk.both (by simp [wkL, wkV.same]; rw [wrapN (by omega)]; exact wkV.same _) trivial⟩
        rcases Nat.lt_succ_iff_lt_or_eq.1 hk with h | rfl
        · exact hall k h
        · exact c1
  · obtain rfl : i = s.size := by omega
    have ht : s.data.toList.take s.size = s.data.toList := List.take_of_length_le (by simp)
    simp
    rw [ht] at hlt9 ⊢
    by_cases c3 : s = by8 ""
    · simp [c3]
      exact Fin_ret rfl (by
        rw [readDec_none fun n h1 h2 => ?_]; rfl
        have h3 : (decT n).data.toList = [] := by rw [h2]; decide +kernel
        exact dec_ne n h3)
    · have h0 : 0 < s.size := by
        rcases Nat.eq_zero_or_pos s.size with h | h
        · exact absurd (ba_ext (a := s) (b := by8 "") (by rw [List.eq_nil_of_length_eq_zero (l := s.data.toList) (by simpa using h)]; decide +kernel)) c3
        · exact h
      have hv := hlt9 (h9 h0)
      simp [c3]
      refine vcall_go (specDec_fx hE (dval 0 s.data.toList) (by omega)) (by simp) (by simp) (by simp) (by simp) ?_
      simp
      by_cases c4 : decT (dval 0 s.data.toList) = s
      · simp [c4]
        exact Fin_ret rfl (by
          have := readDec_some (n := dval 0 s.data.toList) (by omega)
          rw [c4] at this
          rw [this]; rfl)
      · simp [c4]
        exact Fin_ret rfl (by
          rw [readDec_none fun n h1 h2 => ?_]; rfl
          refine c4 ?_
          rw [← h2, decT_list, dec_val])
end
end Go.Proofs.YtgegcfhifojjiaaDoor.Vm
