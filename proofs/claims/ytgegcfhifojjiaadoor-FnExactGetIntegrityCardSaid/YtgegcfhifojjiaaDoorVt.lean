/- Versions' texts: spec's side. -/
import Derived.Test.YtgegcfhifojjiaaDoorVe
namespace Go.Proofs.YtgegcfhifojjiaaDoor.Vm
open Go Go.RowKit
set_option linter.unusedVariables false
set_option linter.unusedSimpArgs false
def v133 : VC := .seq (.reg false [⟨some 1, .box 4 (.t 0), none⟩, ⟨some 2, .as (.c (.lit (.string (by8 "")))), none⟩] [2]) (.seq (.seq (.reg false [⟨some 5, .ld true 4 (.t 1), none⟩, ⟨some 6, .call false 143 [(.t 5)], none⟩, ⟨some 7, .un .not (.t 6), none⟩] [5, 6]) (.cond (.t 7) (.seq (.reg false [⟨some 2, .as (.c (.lit (.string (by8 "")))), none⟩] []) (.ret)) (.skip))) (.seq (.reg true [⟨some 8, .fa 0 (.t 1), none⟩, ⟨some 9, .ld false 1 (.t 8), none⟩, ⟨some 10, .call true 104 [(.t 9)], none⟩, ⟨some 11, .bin .add 0 (.t 10) (.c (.lit (.string (by8 ".")))), none⟩, ⟨some 12, .fa 1 (.t 1), none⟩, ⟨some 13, .ld false 1 (.t 12), none⟩, ⟨some 14, .call true 104 [(.t 13)], none⟩, ⟨some 15, .bin .add 0 (.t 11) (.t 14), none⟩, ⟨some 16, .bin .add 0 (.t 15) (.c (.lit (.string (by8 ".")))), none⟩, ⟨some 17, .fa 2 (.t 1), none⟩, ⟨some 18, .ld false 1 (.t 17), none⟩, ⟨some 19, .call true 104 [(.t 18)], none⟩, ⟨some 20, .bin .add 0 (.t 16) (.t 19), none⟩, ⟨some 3, .as (.t 20), none⟩] [8, 9, 10, 11, 12, 13, 14, 15, 16, 17, 18, 19, 20]) (.seq (.seq (.reg false [⟨some 4, .as (.c (.lit (.int .i64 0))), none⟩] []) (.block 0 (.loop (.seq (.seq (.reg false [⟨some 21, .mv (.t 4), none⟩, ⟨some 22, .fa 3 (.t 1), none⟩, ⟨some 23, .ld false 1 (.t 22), none⟩, ⟨some 24, .len false (.t 23), none⟩, ⟨some 25, .bin .lss 0 (.t 21) (.t 24), none⟩] [21, 22, 23, 24]) (.cond (.t 25) (.skip) (.exit 0))) (.seq (.block 1 (.seq (.reg false [⟨some 28, .mv (.t 4), none⟩, ⟨some 29, .bin .eql 0 (.t 28) (.c (.lit (.int .i64 0))), none⟩] [28]) (.cond (.t 29) (.reg false [⟨some 30, .mv (.t 3), none⟩, ⟨some 31, .bin .add 0 (.t 30) (.c (.lit (.string (by8 "-")))), none⟩, ⟨some 32, .fa 3 (.t 1), none⟩, ⟨some 33, .ld false 1 (.t 32), none⟩, ⟨some 34, .mv (.t 4), none⟩, ⟨some 35, .ia 1 (.t 33) (.t 34), none⟩, ⟨some 36, .ld false 1 (.t 35), none⟩, ⟨some 37, .bin .add 0 (.t 31) (.t 36), none⟩, ⟨some 3, .as (.t 37), none⟩] [30, 31, 32, 33, 34, 35, 36, 37]) (.reg false [⟨some 38, .mv (.t 3), none⟩, ⟨some 39, .bin .add 0 (.t 38) (.c (.lit (.string (by8 ".")))), none⟩, ⟨some 40, .fa 3 (.t 1), none⟩, ⟨some 41, .ld false 1 (.t 40), none⟩, ⟨some 42, .mv (.t 4), none⟩, ⟨some 43, .ia 1 (.t 41) (.t 42), none⟩, ⟨some 44, .ld false 1 (.t 43), none⟩, ⟨some 45, .bin .add 0 (.t 39) (.t 44), none⟩, ⟨some 3, .as (.t 45), none⟩] [38, 39, 40, 41, 42, 43, 44, 45])))) (.reg false [⟨some 26, .mv (.t 4), none⟩, ⟨some 27, .bin .add 0 (.t 26) (.c (.lit (.int .i64 1))), none⟩, ⟨some 4, .as (.t 27), none⟩] [26, 27])))))) (.seq (.reg false [⟨some 46, .mv (.t 3), none⟩, ⟨some 2, .as (.t 46), none⟩] [46]) (.ret)))))
theorem is133 : Is Go.Proofs.Tryd.prog 133 47 v133 [.t 2] := ⟨Go.Proofs.Tryd.f133, dl [(0, [2]), (1, [5, 6]), (3, [8, 9, 10, 11, 12, 13, 14, 15, 16, 17, 18, 19, 20]), (5, [21, 22, 23, 24]), (7, [28]), (9, [38, 39, 40, 41, 42, 43, 44, 45]), (8, [30, 31, 32, 33, 34, 35, 36, 37]), (6, [26, 27]), (10, [46])], Go.Proofs.Tryd.func133, by kernel_rfl, by kernel_rfl, by kernel_rfl, by kernel_rfl⟩
def tailT : List ByteArray → ByteArray
  | [] => by8 ""
  | p :: r => by8 "." ++ p ++ tailT r
def preT : List ByteArray → ByteArray
  | [] => by8 ""
  | p :: r => by8 "-" ++ p ++ tailT r
def coreT (v : Ver) : ByteArray := decT v.maj.toNat ++ by8 "." ++ decT v.min.toNat ++ by8 "." ++ decT v.pat.toNat
noncomputable def verT (v : Ver) : ByteArray := if verOk v then coreT v ++ preT v.pre else by8 ""
theorem tailT_snoc : ∀ (r : List ByteArray) (x : ByteArray), tailT (r ++ [x]) = tailT r ++ (by8 "." ++ x)
  | [], x => by simp [tailT, app_nil]; rw [ba_nil, ByteArray.empty_append]
  | p :: r, x => by simp [tailT, tailT_snoc r x, ByteArray.append_assoc]
theorem preT_one (x : ByteArray) : preT [x] = by8 "-" ++ x := by simp [preT, tailT, app_nil]
theorem preT_snoc (p : ByteArray) (r : List ByteArray) (x : ByteArray) : preT (p :: r ++ [x]) = preT (p :: r) ++ (by8 "." ++ x) := by simp [preT, tailT_snoc, ByteArray.append_assoc]
theorem next0 {l : List ByteArray} (h : 0 < l.length) : preT (l.take 1) = by8 "-" ++ l[0] := by
  rw [List.take_succ_eq_append_getElem h, List.take_zero, List.nil_append, preT_one]
theorem nextT {l : List ByteArray} {k : Nat} (h0 : k ≠ 0) (h : k < l.length) : preT (l.take (k + 1)) = preT (l.take k) ++ (by8 "." ++ l[k]) := by
  rw [List.take_succ_eq_append_getElem h]
  cases l with
  | nil => simp at h
  | cons p r =>
    cases k with
    | zero => exact absurd rfl h0
    | succ k => rw [List.take_succ_cons]; exact preT_snoc p _ _
theorem tailT_size : ∀ (l : List ByteArray) (k : Nat), (∀ p ∈ l, p.size ≤ k) → (tailT l).size ≤ l.length * (k + 1)
  | [], k, _ => by have : (tailT []).size = 0 := by decide +kernel
                   omega
  | p :: r, k, h => by
    have h1 := tailT_size r k fun q hq => h q (by simp [hq])
    have h2 := h p (by simp)
    have e : (by8 ".").size = 1 := by decide +kernel
    simp only [tailT, ByteArray.size_append, List.length_cons, Nat.add_mul, e]
    omega
theorem preT_size (l : List ByteArray) (k : Nat) (h : ∀ p ∈ l, p.size ≤ k) : (preT l).size ≤ l.length * (k + 1) := by
  cases l with
  | nil => have : (preT []).size = 0 := by decide +kernel
           omega
  | cons p r =>
    have h1 := tailT_size r k fun q hq => h q (by simp [hq])
    have h2 := h p (by simp)
    have e : (by8 "-").size = 1 := by decide +kernel
    simp only [preT, ByteArray.size_append, List.length_cons, Nat.add_mul, e]
    omega
structure VerB (v : Ver) : Prop where
  maj : ∃ n : Nat, v.maj = n ∧ n ≤ 999999999
  min : ∃ n : Nat, v.min = n ∧ n ≤ 999999999
  pat : ∃ n : Nat, v.pat = n ∧ n ≤ 999999999
  len : v.pre.length ≤ 5
  pre : ∀ p ∈ v.pre, p.size ≤ 20
theorem inR_nat {x : Int} (h : inR x 0 999999999 = true) : ∃ n : Nat, x = n ∧ n ≤ 999999999 := by
  simp [inR] at h
  exact ⟨x.toNat, by omega, by omega⟩
theorem verOk_b {v : Ver} (h : verOk v = true) : VerB v := by
  unfold verOk at h
  simp only [Bool.and_eq_true, decide_eq_true_eq, List.all_eq_true] at h
  obtain ⟨⟨⟨⟨h1, h2⟩, h3⟩, h4⟩, h5⟩ := h
  refine ⟨inR_nat h2, inR_nat h3, inR_nat h4, h5, fun p hp => ?_⟩
  have := h1 p hp
  unfold preOk at this
  simp only [Bool.and_eq_true] at this
  have := this.1.2
  simp [inR] at this
  omega
theorem coreT_size {v : Ver} (h : VerB v) : (coreT v).size ≤ 29 := by
  obtain ⟨a, e1, h1⟩ := h.maj
  obtain ⟨b, e2, h2⟩ := h.min
  obtain ⟨c, e3, h3⟩ := h.pat
  have k1 := decT_size (k := 8) (n := a) (by omega)
  have k2 := decT_size (k := 8) (n := b) (by omega)
  have k3 := decT_size (k := 8) (n := c) (by omega)
  have e : (by8 ".").size = 1 := by decide +kernel
  unfold coreT
  rw [e1, e2, e3]
  simp only [ByteArray.size_append, Int.toNat_natCast, e]
  omega
section
variable {E : Env} (hE : E.P = Go.Proofs.Tryd.prog)
include hE
set_option maxHeartbeats 2000000 in
theorem specVerT_fx (v : Ver) (hl : v.pre.length ≤ 4294967296) (hp : ∀ p ∈ v.pre, p.size ≤ 9223372036854775806) : Fx E 133 [] [.agg v.av] [] (.lit (.string (verT v))) := by
  have hav : v.av = [.lit (.int .i64 v.maj), .lit (.int .i64 v.min), .lit (.int .i64 v.pat), .sl ro 1 (v.pre.map fun x => .lit (.string x))] := rfl
  refine (is133.to hE).fx [] (by simp) rfl rfl ?_
  simp [v133, hav, okC]
  refine vcall_go (specVerOk_fx hE v hl hp) (by simp [hav, ro]) (by simp [hav]) (by simp [hav]) (by simp) ?_
  simp
  cases c1 : verOk v
  · simp
    exact Fin_ret rfl (by simp [verT, c1, reC])
  · obtain ⟨⟨a, e1, h1⟩, ⟨b, e2, h2⟩, ⟨c, e3, h3⟩, h4, h5⟩ := verOk_b c1
    have k1 := decT_size (k := 8) (n := a) (by omega)
    have k2 := decT_size (k := 8) (n := b) (by omega)
    have k3 := decT_size (k := 8) (n := c) (by omega)
    have es : (by8 ".").size = 1 := by decide +kernel
    have es2 : (by8 "-").size = 1 := by decide +kernel
    have hv : verT v = coreT v ++ preT v.pre := by simp [verT, c1]
    have hc : coreT v = decT a ++ by8 "." ++ decT b ++ by8 "." ++ decT c := by simp [coreT, e1, e2, e3]
    have hcs := coreT_size (verOk_b c1)
    simp
    rw [e1, e2, e3]
    refine vcall_go (specDec_fx hE a h1) (by simp) (by simp) (by simp) (by simp) ?_
    simp
    refine ⟨by omega, ?_⟩
    refine vcall_go (specDec_fx hE b h2) (by simp) (by simp) (by simp) (by simp) ?_
    simp
    refine ⟨by omega, by omega, ?_⟩
    refine vcall_go (specDec_fx hE c h3) (by simp) (by simp) (by simp) (by simp) ?_
    simp
    refine ⟨by omega, ?_⟩
    rw [← hc]
    have hps : ∀ k, (preT (v.pre.take k)).size ≤ 105 := fun k => by
      have := preT_size (v.pre.take k) 20 fun p hp => h5 p (List.mem_of_mem_take hp)
      have : (v.pre.take k).length ≤ 5 := by simp; omega
      omega
    refine X_loop (τ := Nat) (fun k => ⟨[(1, .ptr 1001 0 0), (3, .lit (.string (coreT v ++ preT (v.pre.take k)))), (4, .lit (.int .i64 k))], [(1001, [.agg [.lit (.int .i64 a), .lit (.int .i64 b), .lit (.int .i64 c), .sl ro 1 (v.pre.map fun x => .lit (.string x))]])]⟩) (fun k => k ≤ v.pre.length) (fun k => v.pre.length - k) 0 (by simp) (Wk.both (by simp [wkL, wkV.same, preT, app_nil]) (by simp [wkB])) ?_
    rintro k hk
    simp
    have hk1 := hps k
    by_cases hlt : k < v.pre.length
    · have h20 := h5 _ (List.getElem_mem hlt)
      simp [hlt, mkF]
      by_cases k0 : k = 0
      · subst k0
        have hn := next0 hlt
        have hz : (preT []).size = 0 := by decide +kernel
        simp [hlt, mkF]
        refine ⟨by omega, by omega, 1, by omega, by omega, Wk.both (by simp [wkL, wkV.same]; rw [wrap_i64 (by omega) (by omega), hn]; simp [preT, app_nil, ByteArray.append_assoc, wkV.same]) (by simp [wkB])⟩
      · have hn := nextT k0 hlt
        simp [k0, hlt, mkF]
        refine ⟨by omega, by omega, k + 1, by omega, by omega, Wk.both (by simp [wkL, wkV.same]; rw [wrapN (by omega), hn]; simp [ByteArray.append_assoc, wkV.same]) (by simp [wkB])⟩
    · obtain rfl : k = v.pre.length := by omega
      simp
      rw [← hv]
      exact Fin_ret rfl rfl
end
end Go.Proofs.YtgegcfhifojjiaaDoor.Vm
