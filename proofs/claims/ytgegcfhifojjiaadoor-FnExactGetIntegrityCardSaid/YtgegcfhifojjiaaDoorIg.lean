/- Sums as a text: both sides. -/
import Derived.Test.YtgegcfhifojjiaaDoorGk
import Derived.Test.YtgegcfhifojjiaaDoorBf
namespace Go.Proofs.YtgegcfhifojjiaaDoor.Vm
open Go Go.RowKit
set_option linter.unusedVariables false
set_option linter.unusedSimpArgs false
def v19 : VC := .seq (.reg false [⟨some 2, .as (.c (.lit (.string (by8 "")))), none⟩] [2]) (.seq (.reg false [⟨some 3, .as (.c (.lit (.string (by8 "")))), none⟩] []) (.seq (.seq (.reg false [⟨some 4, .as (.c (.lit (.int .i64 0))), none⟩] []) (.block 0 (.loop (.seq (.seq (.reg false [⟨some 5, .mv (.t 4), none⟩, ⟨some 6, .mv (.t 0), none⟩, ⟨some 7, .len false (.t 6), none⟩, ⟨some 8, .bin .lss 0 (.t 5) (.t 7), none⟩] [5, 6, 7]) (.cond (.t 8) (.skip) (.exit 0))) (.seq (.block 1 (.seq (.seq (.reg false [⟨some 11, .mv (.t 0), none⟩, ⟨some 12, .mv (.t 4), none⟩, ⟨some 13, .ia 2 (.t 11) (.t 12), none⟩, ⟨some 14, .fa 0 (.t 13), none⟩, ⟨some 15, .ld false 1 (.t 14), none⟩, ⟨some 16, .bin .eql 0 (.t 15) (.c (.lit (.string (by8 "h1")))), none⟩, ⟨some 17, .mv (.t 16), none⟩, ⟨some 18, .mv (.t 0), (some (17, false))⟩, ⟨some 19, .mv (.t 4), (some (17, false))⟩, ⟨some 20, .ia 2 (.t 18) (.t 19), (some (17, false))⟩, ⟨some 21, .fa 0 (.t 20), (some (17, false))⟩, ⟨some 22, .ld false 1 (.t 21), (some (17, false))⟩, ⟨some 23, .call false 43 [(.t 22)], (some (17, false))⟩, ⟨some 24, .bin .lss 0 (.t 23) (.c (.lit (.int .i64 0))), (some (17, false))⟩, ⟨some 25, .pick (.t 17) (.c (.lit (.bool true))) (.t 24), none⟩] [11, 12, 13, 14, 15, 16, 17, 18, 19, 20, 21, 22, 23, 24]) (.cond (.t 25) (.exit 1) (.skip))) (.seq (.seq (.reg false [⟨some 26, .mv (.t 3), none⟩, ⟨some 27, .bin .neq 0 (.t 26) (.c (.lit (.string (by8 "")))), none⟩] [26]) (.cond (.t 27) (.reg false [⟨some 28, .mv (.t 3), none⟩, ⟨some 29, .bin .add 0 (.t 28) (.c (.lit (.string (by8 " ")))), none⟩, ⟨some 3, .as (.t 29), none⟩] [28, 29]) (.skip))) (.reg true [⟨some 30, .mv (.t 3), none⟩, ⟨some 31, .mv (.t 0), none⟩, ⟨some 32, .mv (.t 4), none⟩, ⟨some 33, .ia 2 (.t 31) (.t 32), none⟩, ⟨some 34, .fa 0 (.t 33), none⟩, ⟨some 35, .ld false 1 (.t 34), none⟩, ⟨some 36, .bin .add 0 (.t 30) (.t 35), none⟩, ⟨some 37, .bin .add 0 (.t 36) (.c (.lit (.string (by8 "-")))), none⟩, ⟨some 38, .mv (.t 0), none⟩, ⟨some 39, .mv (.t 4), none⟩, ⟨some 40, .ia 2 (.t 38) (.t 39), none⟩, ⟨some 41, .fa 1 (.t 40), none⟩, ⟨some 42, .ld false 1 (.t 41), none⟩, ⟨some 43, .call true 41 [(.t 42)], none⟩, ⟨some 44, .bin .add 0 (.t 37) (.t 43), none⟩, ⟨some 3, .as (.t 44), none⟩] [30, 31, 32, 33, 34, 35, 36, 37, 38, 39, 40, 41, 42, 43, 44])))) (.reg false [⟨some 9, .mv (.t 4), none⟩, ⟨some 10, .bin .add 0 (.t 9) (.c (.lit (.int .i64 1))), none⟩, ⟨some 4, .as (.t 10), none⟩] [9, 10])))))) (.seq (.reg false [⟨some 45, .mv (.t 3), none⟩, ⟨some 2, .as (.t 45), none⟩] [45]) (.ret))))
theorem is19 : Is Go.Proofs.Tryd.prog 19 46 v19 [.t 2] := ⟨Go.Proofs.Tryd.f19, dl [(0, [2]), (3, [5, 6, 7]), (5, [11, 12, 13, 14, 15, 16, 17, 18, 19, 20, 21, 22, 23, 24]), (6, [26]), (7, [28, 29]), (8, [30, 31, 32, 33, 34, 35, 36, 37, 38, 39, 40, 41, 42, 43, 44]), (4, [9, 10]), (9, [45])], Go.Proofs.Tryd.func19, by kernel_rfl, by kernel_rfl, by kernel_rfl, by kernel_rfl⟩
def kwn (a : ByteArray) : Bool := decide (a = by8 "sha1") || decide (a = by8 "sha256") || decide (a = by8 "sha512")
def wrd (x : Sm) : ByteArray := x.alg ++ by8 "-" ++ b64 x.bytes
def pig (l : List Sm) : ByteArray := joinB ((l.filter fun x => kwn x.alg).map wrd) (by8 " ")
theorem kwn_iff (a : ByteArray) : kwn a = !(decide (a = by8 "h1") || decide (sumLen a < 0)) := by
  have d1 : ¬ by8 "sha1" = by8 "h1" := by decide +kernel
  have d2 : ¬ by8 "sha256" = by8 "h1" := by decide +kernel
  have d3 : ¬ by8 "sha512" = by8 "h1" := by decide +kernel
  have e1 : sumLen (by8 "sha1") = 20 := by decide +kernel
  have e2 : sumLen (by8 "sha256") = 32 := by decide +kernel
  have e3 : sumLen (by8 "sha512") = 64 := by decide +kernel
  have e4 : kwn (by8 "h1") = false := by decide +kernel
  by_cases c1 : a = by8 "sha1"
  · subst c1; simp [kwn, d1, e1]
  by_cases c2 : a = by8 "sha256"
  · subst c2; simp [kwn, d2, e2]
  by_cases c3 : a = by8 "sha512"
  · subst c3; simp [kwn, d3, e3]
  by_cases c4 : a = by8 "h1"
  · subst c4; rw [e4]; simp
  · have : sumLen a = -1 := by rw [sumLen, if_neg c1, if_neg c2, if_neg c4, if_neg c3]
    simp [kwn, c1, c2, c3, this]
theorem wrd_pos (x : Sm) : 0 < (wrd x).size := by
  have e : (by8 "-").size = 1 := by decide +kernel
  rw [wrd, ByteArray.size_append, ByteArray.size_append, e]; omega
theorem pig_nil {l : List Sm} : pig l = by8 "" ↔ (l.filter fun x => kwn x.alg) = [] := by
  unfold pig
  constructor
  · intro h
    generalize (l.filter fun x => kwn x.alg) = m at h
    cases m with
    | nil => rfl
    | cons x r =>
      have hx := wrd_pos x
      have hz := congrArg ByteArray.size h
      rw [by8_nil, List.map_cons] at hz
      cases r with
      | nil => rw [List.map_nil, joinB_one] at hz; omega
      | cons y r => rw [List.map_cons, joinB_cons, ByteArray.size_append, ByteArray.size_append] at hz; omega
  · intro h; rw [h, List.map_nil, joinB_nil]
theorem pig_skip {l : List Sm} {i : Nat} (h : i < l.length) (hk : kwn l[i].alg = false) : pig (l.take (i + 1)) = pig (l.take i) := by
  unfold pig
  rw [List.take_succ_eq_append_getElem h, List.filter_append]
  simp [hk]
theorem pig_add {l : List Sm} {i : Nat} (h : i < l.length) (hk : kwn l[i].alg = true) : pig (l.take (i + 1)) = (if pig (l.take i) = by8 "" then by8 "" else pig (l.take i) ++ by8 " ") ++ wrd l[i] := by
  have e : pig (l.take (i + 1)) = joinB (((l.take i).filter fun x => kwn x.alg).map wrd ++ [wrd l[i]]) (by8 " ") := by
    unfold pig
    rw [List.take_succ_eq_append_getElem h, List.filter_append]
    simp [hk]
  rw [e]
  by_cases c : pig (l.take i) = by8 ""
  · rw [if_pos c, pig_nil.1 c, List.map_nil, List.nil_append, joinB_one, nil_app]
  · rw [if_neg c, joinB_snoc _ _ (fun h2 => c (pig_nil.2 (List.map_eq_nil_iff.1 h2)))]
    rfl
theorem pig_step {l : List Sm} {i K : Nat} (hx : ∀ s ∈ l, s.small) (ih : (pig (l.take i)).size ≤ K) : (pig (l.take (i + 1))).size ≤ K + 4194304 := by
  have es : (by8 " ").size = 1 := by decide +kernel
  have e : (by8 "-").size = 1 := by decide +kernel
  obtain ⟨p, hp⟩ : ∃ p, pig (l.take i) = p := ⟨_, rfl⟩
  by_cases h : i < l.length
  · obtain ⟨g1, g2⟩ := hx _ (List.getElem_mem h)
    cases hk : kwn l[i].alg
    · rw [pig_skip h hk, hp]; rw [hp] at ih; omega
    · have hb := b64_size l[i].bytes
      have hw : (wrd l[i]).size ≤ 4194303 := by
        rw [wrd, ByteArray.size_append, ByteArray.size_append, e]; omega
      obtain ⟨w, hw2⟩ : ∃ w, wrd l[i] = w := ⟨_, rfl⟩
      rw [pig_add h hk, hp, hw2, ByteArray.size_append]
      rw [hp] at ih
      rw [hw2] at hw
      split
      · rw [by8_nil]; omega
      · rw [ByteArray.size_append, es]; omega
  · rw [List.take_of_length_le (by omega)] at ih ⊢
    omega
theorem pig_size {l : List Sm} (hx : ∀ s ∈ l, s.small) (i : Nat) : (pig (l.take i)).size ≤ i * 4194304 := by
  induction i with
  | zero => rw [List.take_zero, show pig [] = by8 "" from joinB_nil _, by8_nil]; exact Nat.zero_le _
  | succ i ih => rw [Nat.add_mul, Nat.one_mul]; exact pig_step hx ih
section
variable {E : Env} (hE : E.P = Go.Proofs.Tryd.prog)
include hE
set_option maxHeartbeats 4000000 in
theorem specPutI_fx (l : List Sm) (hl : l.length ≤ 1048576) (hx : ∀ s ∈ l, s.small) : Fx E 19 [] [.sl ro 2 (l.map fun x => .agg x.av)] [] (.lit (.string (pig l))) := by
  have es : (by8 " ").size = 1 := by decide +kernel
  have ed : (by8 "-").size = 1 := by decide +kernel
  refine (is19.to hE).fx [] (by simp) rfl rfl ?_
  simp [v19]
  refine X_loop (τ := Nat) (fun i => ⟨[(0, .sl ro 2 (l.map fun x => .agg x.av)), (3, .lit (.string (pig (l.take i)))), (4, .lit (.int .i64 i))], []⟩) (fun i => i ≤ l.length) (fun i => l.length - i) 0 (by omega) (Wk.both (by simp [wkL, wkV.same, pig, joinB_nil]) trivial) ?_
  intro i hi
  simp
  by_cases hlt : i < l.length
  · have hav : l[i].av = [.lit (.string l[i].alg), .lit (.string l[i].bytes)] := rfl
    have hps := pig_size hx i
    have hkw := kwn_iff l[i].alg
    obtain ⟨g1, g2⟩ := hx _ (List.getElem_mem hlt)
    have hbz := b64_size l[i].bytes
    simp [hlt, hav, ro, mkF, mkF.mkL]
    by_cases c1 : l[i].alg = by8 "h1"
    · have hk := pig_skip hlt (by rw [hkw, decide_eq_true c1]; rfl)
      simp [c1]
      exact ⟨i + 1, by omega, by omega, Wk.both (by simp [wkL, wkV.same, ro, hk]; rw [wrapN (by omega)]; exact wkV.same _) trivial⟩
    simp [c1, hlt, hav, ro, mkF, mkF.mkL]
    refine vcall_go (specLong_fx hE l[i].alg) (by simp) (by simp) (by simp) (by simp) ?_
    simp
    by_cases c2 : sumLen l[i].alg < 0
    · have hk := pig_skip hlt (by rw [hkw, decide_eq_true c2]; simp)
      simp [c2]
      exact ⟨i + 1, by omega, by omega, Wk.both (by simp [wkL, wkV.same, ro, hk]; rw [wrapN (by omega)]; exact wkV.same _) trivial⟩
    have hk := pig_add hlt (by rw [hkw, decide_eq_false c1, decide_eq_false c2]; rfl)
    obtain ⟨p, hp⟩ : ∃ p, pig (l.take i) = p := ⟨_, rfl⟩
    rw [hp] at hk hps ⊢
    simp [c2]
    by_cases c3 : p = by8 ""
    · rw [if_pos c3, nil_app] at hk
      simp [c3, hlt, hav, ro, mkF, mkF.mkL]
      rw [by8_nil]
      refine ⟨by omega, by omega, ?_⟩
      refine vcall_go (specB64_fx hE l[i].bytes (by omega)) (by simp) (by simp) (by simp) (by simp) ?_
      simp
      rw [by8_nil]
      refine ⟨by omega, i + 1, by omega, by omega, Wk.both (by simp [wkL, wkV.same, ro, hk, wrd, nil_app]; rw [wrapN (by omega)]; exact wkV.same _) trivial⟩
    · rw [if_neg c3] at hk
      simp [c3, hlt, hav, ro, mkF, mkF.mkL]
      refine ⟨by omega, by omega, by omega, ?_⟩
      refine vcall_go (specB64_fx hE l[i].bytes (by omega)) (by simp) (by simp) (by simp) (by simp) ?_
      simp
      refine ⟨by omega, i + 1, by omega, by omega, Wk.both (by simp [wkL, wkV.same, ro, hk, wrd, ByteArray.append_assoc]; rw [wrapN (by omega)]; exact wkV.same _) trivial⟩
  · obtain rfl : i = l.length := by omega
    simp
    exact Fin_ret rfl rfl
end
end Go.Proofs.YtgegcfhifojjiaaDoor.Vm
