/- Sums that are right: the reference. -/
import Derived.Test.YtgegcfhifojjiaaDoorIh
import Derived.Test.YtgegcfhifojjiaaDoorRb
namespace Go.Proofs.YtgegcfhifojjiaaDoor.Vm
open Go Go.RowKit
set_option linter.unusedVariables false
set_option linter.unusedSimpArgs false
def v18 : VC := .seq (.reg false [⟨some 2, .as (.c (.lit (.bool false))), none⟩] [2]) (.seq (.seq (.reg false [⟨some 3, .as (.c (.lit (.int .i64 0))), none⟩] []) (.block 0 (.loop (.seq (.seq (.reg false [⟨some 4, .mv (.t 3), none⟩, ⟨some 5, .mv (.t 0), none⟩, ⟨some 6, .len false (.t 5), none⟩, ⟨some 7, .bin .lss 0 (.t 4) (.t 6), none⟩] [4, 5, 6]) (.cond (.t 7) (.skip) (.exit 0))) (.seq (.block 1 (.seq (.reg false [⟨some 10, .mv (.t 0), none⟩, ⟨some 11, .mv (.t 3), none⟩, ⟨some 12, .ia 2 (.t 10) (.t 11), none⟩, ⟨some 13, .fa 0 (.t 12), none⟩, ⟨some 14, .ld false 1 (.t 13), none⟩, ⟨some 15, .bin .eql 0 (.t 14) (.c (.lit (.string (by8 "h1")))), none⟩] [10, 11, 12, 13, 14]) (.cond (.t 15) (.seq (.reg false [⟨some 2, .as (.c (.lit (.bool false))), none⟩] []) (.ret)) (.skip)))) (.reg false [⟨some 8, .mv (.t 3), none⟩, ⟨some 9, .bin .add 0 (.t 8) (.c (.lit (.int .i64 1))), none⟩, ⟨some 3, .as (.t 9), none⟩] [8, 9])))))) (.seq (.reg false [⟨some 16, .mv (.t 0), none⟩, ⟨some 17, .bld [(.lit (.string (by8 ""))), (.lit (.string (by8 ""))), (.lit (.string (by8 ""))), (.sl ⟨.nl, true⟩ 1 []), (.lit (.bool false)), (.sl ⟨.nl, true⟩ 1 [])] [(0, 1, (.c (.lit (.string (by8 "x"))))), (1, 1, (.c (.lit (.string (by8 "0.0.0"))))), (3, 1, (.t 16))], none⟩, ⟨some 18, .call false 42 [(.t 17)], none⟩, ⟨some 2, .as (.t 18), none⟩] [16, 17, 18]) (.ret)))
theorem is18 : Is Go.Proofs.Tryd.prog 18 19 v18 [.t 2] := ⟨Go.Proofs.Tryd.f18, dl [(0, [2]), (2, [4, 5, 6]), (4, [10, 11, 12, 13, 14]), (3, [8, 9]), (6, [16, 17, 18])], Go.Proofs.Tryd.func18, by kernel_rfl, by kernel_rfl, by kernel_rfl, by kernel_rfl⟩
theorem nought : by8 "0.0.0" = verT ⟨0, 0, 0, []⟩ := by
  have h := verT_nums (a := 0) (b := 0) (c := 0) (by omega) (by omega) (by omega)
  have h2 : joinB [decT 0, decT 0, decT 0] (one 46) = by8 "0.0.0" := by rw [dec0]; decide +kernel
  exact (h.trans h2).symm
theorem nought_exact : (exactO (by8 "0.0.0")).isSome = true := by
  have hv : verOk ⟨0, 0, 0, []⟩ = true := verOk_nums (a := 0) (b := 0) (c := 0) (by omega) (by omega) (by omega)
  have h1 : readVer (by8 "0.0.0") = some ⟨0, 0, 0, []⟩ := by rw [nought]; exact ver_round hv
  have h2 : exHigh ⟨0, 0, 0, []⟩ ≠ by8 "" := by
    rw [exHigh, if_pos rfl]
    exact verT_ne (by rw [verOk_pre0]; exact verOk_nums (a := 0) (b := 0) (c := 1) (by omega) (by omega) (by omega))
  rw [exactO, h1]
  simp only
  rw [if_neg h2]; rfl
def h1At (l : List Sm) (i : Nat) : Bool := !decide ((l.getD i sm0).alg = by8 "h1")
noncomputable def rightI (l : List Sm) : Bool := allN l.length (h1At l) && sumsOk l
section
variable {E : Env} (hE : E.P = Go.Proofs.Tryd.prog)
include hE
set_option maxHeartbeats 2000000 in
theorem right_fx (l : List Sm) (hl : l.length ≤ 1048576) (hx : ∀ s ∈ l, s.small) : Fx E 18 [] [.sl ro 2 (l.map fun x => .agg x.av)] [] (.lit (.bool (rightI l))) := by
  have sx : (by8 "x").size = 1 := by decide +kernel
  have s0 : (by8 "0.0.0").size = 5 := by decide +kernel
  have hp : packOk ⟨by8 "x", by8 "0.0.0", by8 "", l, false, []⟩ = sumsOk l := by
    have n1 : nameOk (by8 "x") = true := by decide +kernel
    have n2 : plainOk (by8 "") = true := by decide +kernel
    rw [packOk]
    simp only [n1, n2, nought_exact, Bool.true_and]
  have hf := specPack_fx hE ⟨by8 "x", by8 "0.0.0", by8 "", l, false, []⟩ ⟨by simp [sx], by simp [s0], by simp [by8_nil], ⟨hl, hx⟩, trivial, by simp, by simp⟩
  rw [hp] at hf
  refine (is18.to hE).fx [] (by simp) rfl rfl ?_
  simp [v18]
  refine X_loop (τ := Nat) (fun i => ⟨[(0, .sl ro 2 (l.map fun x => .agg x.av)), (3, .lit (.int .i64 i))], []⟩) (fun i => i ≤ l.length ∧ upTo (h1At l) i) (fun i => l.length - i) 0 ⟨by omega, upTo.zero _⟩ (Wk.both (by simp [wkL, wkV.same]) trivial) ?_
  rintro i ⟨hi, hall⟩
  simp
  by_cases hlt : i < l.length
  · have hav : l[i].av = [.lit (.string l[i].alg), .lit (.string l[i].bytes)] := rfl
    have hat : h1At l i = !decide (l[i].alg = by8 "h1") := by rw [h1At, getD_lt hlt]
    simp [hlt, hav, ro, mkF, mkF.mkL]
    by_cases c : l[i].alg = by8 "h1"
    · have : rightI l = false := by rw [rightI, allN_false hlt (by rw [hat, c]; simp)]; rfl
      simp [c]
      exact Fin_ret rfl (by rw [this]; rfl)
    · simp [c]
      exact ⟨i + 1, ⟨by omega, hall.next (by rw [hat]; simp [c])⟩, by omega, Wk.both (by simp [wkL, wkV.same, ro]; rw [wrapN (by omega)]; exact wkV.same _) trivial⟩
  · obtain rfl : i = l.length := by omega
    simp [fill, upd, okC]
    refine vcall_go hf (by simp [Pk.av, ro]) (by simp) (by simp) (by simp) ?_
    simp
    exact Fin_ret rfl (by rw [rightI, hall.all]; rfl)
end
end Go.Proofs.YtgegcfhifojjiaaDoor.Vm
