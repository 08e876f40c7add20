/- GetIntegrity: the law. -/
import Derived.Test.YtgegcfhifojjiaaDoorIp
import Derived.Test.YtgegcfhifojjiaaDoorGu
namespace Go.Proofs.YtgegcfhifojjiaaDoor.Vm
open Go Go.RowKit
set_option linter.unusedVariables false
set_option linter.unusedSimpArgs false
def v3 : VC := .seq (.reg false [⟨some 2, .as (.c (.lit (.bool false))), none⟩] [2]) (.seq (.seq (.reg false [⟨some 11, .mv (.t 0), none⟩, ⟨some 12, .len true (.t 11), none⟩, ⟨some 13, .bin .gtr 0 (.t 12) (.c (.lit (.int .i64 1048576))), none⟩] [11, 12]) (.cond (.t 13) (.seq (.reg false [⟨some 2, .as (.c (.lit (.bool true))), none⟩] []) (.ret)) (.skip))) (.seq (.reg false [⟨some 15, .mv (.t 0), none⟩, ⟨some 16, .call false 5 [(.t 15)], none⟩, ⟨some 14, .mv (.t 16), none⟩, ⟨some 17, .ext (.t 14) 0, none⟩, ⟨some 18, .ext (.t 14) 1, none⟩, ⟨some 3, .as (.t 17), none⟩, ⟨some 4, .as (.t 18), none⟩] [15, 16, 14, 17, 18]) (.seq (.reg false [⟨some 20, .mv (.t 0), none⟩, ⟨some 21, .call false 6 [(.t 20)], none⟩, ⟨some 19, .mv (.t 21), none⟩, ⟨some 22, .ext (.t 19) 0, none⟩, ⟨some 23, .ext (.t 19) 1, none⟩, ⟨some 5, .as (.t 22), none⟩, ⟨some 6, .as (.t 23), none⟩] [20, 21, 19, 22, 23]) (.seq (.seq (.reg false [⟨some 24, .mv (.t 5), none⟩, ⟨some 25, .mv (.t 3), none⟩, ⟨some 26, .call false 7 [(.t 24), (.t 25)], none⟩, ⟨some 27, .un .not (.t 26), none⟩, ⟨some 28, .mv (.t 27), none⟩, ⟨some 29, .mv (.t 6), (some (28, false))⟩, ⟨some 30, .mv (.t 4), (some (28, false))⟩, ⟨some 31, .bin .neq 2 (.t 29) (.t 30), (some (28, false))⟩, ⟨some 32, .pick (.t 28) (.c (.lit (.bool true))) (.t 31), none⟩] [24, 25, 26, 27, 28, 29, 30, 31]) (.cond (.t 32) (.seq (.reg false [⟨some 2, .as (.c (.lit (.bool false))), none⟩] []) (.ret)) (.skip))) (.seq (.reg false [⟨some 7, .as (.c (.lit (.int .i64 1))), none⟩] []) (.seq (.reg false [⟨some 33, .mv (.t 5), none⟩, ⟨some 34, .mv (.t 7), none⟩, ⟨some 35, .call false 8 [(.t 33), (.t 34)], none⟩, ⟨some 7, .as (.t 35), none⟩] [33, 34, 35]) (.seq (.reg false [⟨some 8, .as (.c (.lit (.int .i64 1))), none⟩] []) (.seq (.reg false [⟨some 36, .mv (.t 5), none⟩, ⟨some 37, .mv (.t 8), none⟩, ⟨some 38, .call false 9 [(.t 36), (.t 37)], none⟩, ⟨some 8, .as (.t 38), none⟩] [36, 37, 38]) (.seq (.seq (.reg false [⟨some 39, .mv (.t 8), none⟩, ⟨some 40, .bin .lss 0 (.t 39) (.c (.lit (.int .i64 0))), none⟩] [39]) (.cond (.t 40) (.seq (.reg false [⟨some 2, .as (.c (.lit (.bool false))), none⟩] []) (.ret)) (.skip))) (.seq (.seq (.reg false [⟨some 41, .mv (.t 8), none⟩, ⟨some 42, .mv (.t 7), none⟩, ⟨some 43, .bin .neq 0 (.t 41) (.t 42), none⟩] [41, 42]) (.cond (.t 43) (.seq (.reg false [⟨some 2, .as (.c (.lit (.bool false))), none⟩] []) (.ret)) (.skip))) (.seq (.reg false [⟨some 45, .mv (.t 0), none⟩, ⟨some 46, .call false 6 [(.t 45)], none⟩, ⟨some 44, .mv (.t 46), none⟩, ⟨some 47, .ext (.t 44) 0, none⟩, ⟨some 48, .ext (.t 44) 1, none⟩, ⟨some 9, .as (.t 47), none⟩, ⟨some 10, .as (.t 48), none⟩] [45, 46, 44, 47, 48]) (.seq (.seq (.reg false [⟨some 49, .mv (.t 9), none⟩, ⟨some 50, .mv (.t 3), none⟩, ⟨some 51, .call false 7 [(.t 49), (.t 50)], none⟩, ⟨some 52, .un .not (.t 51), none⟩, ⟨some 53, .mv (.t 52), none⟩, ⟨some 54, .mv (.t 10), (some (53, false))⟩, ⟨some 55, .mv (.t 4), (some (53, false))⟩, ⟨some 56, .bin .neq 2 (.t 54) (.t 55), (some (53, false))⟩, ⟨some 57, .pick (.t 53) (.c (.lit (.bool true))) (.t 56), none⟩] [49, 50, 51, 52, 53, 54, 55, 56]) (.cond (.t 57) (.seq (.reg false [⟨some 2, .as (.c (.lit (.bool false))), none⟩] []) (.ret)) (.skip))) (.seq (.reg false [⟨some 8, .as (.c (.lit (.int .i64 1))), none⟩] []) (.seq (.reg false [⟨some 58, .mv (.t 5), none⟩, ⟨some 59, .mv (.t 8), none⟩, ⟨some 60, .call false 9 [(.t 58), (.t 59)], none⟩, ⟨some 8, .as (.t 60), none⟩] [58, 59, 60]) (.seq (.seq (.reg false [⟨some 61, .mv (.t 8), none⟩, ⟨some 62, .bin .lss 0 (.t 61) (.c (.lit (.int .i64 0))), none⟩] [61]) (.cond (.t 62) (.seq (.reg false [⟨some 2, .as (.c (.lit (.bool false))), none⟩] []) (.ret)) (.skip))) (.seq (.seq (.reg false [⟨some 63, .mv (.t 8), none⟩, ⟨some 64, .mv (.t 7), none⟩, ⟨some 65, .bin .neq 0 (.t 63) (.t 64), none⟩] [63, 64]) (.cond (.t 65) (.seq (.reg false [⟨some 2, .as (.c (.lit (.bool false))), none⟩] []) (.ret)) (.skip))) (.seq (.reg false [⟨some 2, .as (.c (.lit (.bool true))), none⟩] []) (.ret))))))))))))))))))
theorem is3 : Is Go.Proofs.Tryd.prog 3 66 v3 [.t 2] := ⟨Go.Proofs.Tryd.f3, dl [(0, [2]), (1, [11, 12]), (3, [15, 16, 14, 17, 18]), (4, [20, 21, 19, 22, 23]), (5, [24, 25, 26, 27, 28, 29, 30, 31]), (8, [33, 34, 35]), (10, [36, 37, 38]), (11, [39]), (13, [41, 42]), (15, [45, 46, 44, 47, 48]), (16, [49, 50, 51, 52, 53, 54, 55, 56]), (19, [58, 59, 60]), (20, [61]), (22, [63, 64])], Go.Proofs.Tryd.func3, by kernel_rfl, by kernel_rfl, by kernel_rfl, by kernel_rfl⟩
theorem giRes_some (s : ByteArray) : ∃ (l : List Sm) (b : Bool), l.length ≤ s.size + 1 ∧ giRes s = .tup [.sl ⟨.no, true⟩ 2 (l.map fun x => .agg x.av), .lit (.bool b)] := by
  unfold giRes
  cases h : giI s with
  | none => exact ⟨[], false, by simp, rfl⟩
  | some l =>
    refine ⟨l, true, ?_, rfl⟩
    unfold giI at h
    split at h
    · obtain rfl := Option.some.inj h; simp
    · split at h
      · obtain rfl := Option.some.inj h
        rw [List.length_map]
        exact spl_len_le 32 s
      · cases h
section
variable {E : Env} (hE : E.P = Go.Proofs.Tryd.prog) (hM : ∀ w, E.K w → KM w)
include hE hM
set_option maxHeartbeats 8000000 in
theorem giLaw_fx (s : ByteArray) : Fx E 3 [] [.lit (.string s)] [] (.lit (.bool true)) := by
  refine (is3.to hE).fxo (by simp) (by simp) rfl ?_
  simp [v3, ownA, ownA.ownL, okC]
  by_cases hs : 1048576 < s.size
  · have hs' : ((1048576 : Int) < (s.size : Int)) := by omega
    simp [hs, hs']
    exact Fin_ret rfl rfl
  have hs' : ¬ ((1048576 : Int) < (s.size : Int)) := by omega
  obtain ⟨l, b, hl, hr⟩ := giRes_some s
  have hsp := specGetI_fx hE s (by omega)
  have him := implGetI_fx hE hM s (by omega)
  rw [hr] at hsp him
  simp [hs, hs']
  refine vcall_own (T := 16) hsp (by simp) (by simp) (by simp) (by simp) (by simp [AS.noW, AS.putO, allV, noW, noW.noL]) (by decide) (by intro h; omega) rfl ?_
  simp [ownA, ownA.ownL, okC, putElem, upd]
  refine vcall_own (T := 100021) him (by simp) (by simp) (by simp) (by simp) (by simp [AS.noW, AS.putO, allV, noW, noW.noL]) (by decide) (fun _ => Nat.le_refl _) rfl ?_
  simp [ownA, ownA.ownL, okC, putElem, upd]
  refine vcall_go (eqSumS_any hE l (by omega)) (by simp [ro]) (by simp) (by simp) (by simp) ?_
  simp
  by_cases hn : l = []
  · subst hn
    refine vcall_go (markSum_nil hE 1 (by omega)) (by simp [ro]) (by simp) (by simp) (by simp) ?_
    simp
    refine vcall_go (heldSum_fx hE 0 1 (by omega) (by omega) (by omega)) (by simp [ro, mkSums]) (by simp) (by simp) (by simp) ?_
    simp
    refine vcall_own (T := 46) him (by simp) (by simp) (by simp) (by simp) (by simp [AS.noW, AS.putO, allV, noW, noW.noL]) (by decide) (by intro h; omega) rfl ?_
    simp [ownA, ownA.ownL, okC, putElem, upd]
    refine vcall_go (eqSumS_any hE [] (by simp)) (by simp [ro]) (by simp) (by simp) (by simp) ?_
    simp
    refine vcall_go (heldSum_fx hE 0 1 (by omega) (by omega) (by omega)) (by simp [ro, mkSums]) (by simp) (by simp) (by simp) ?_
    simp
    exact Fin_ret rfl rfl
  · have hk2 : ¬ ((1 : Int) + 2 * l.length < 0) := by omega
    refine vcall_row (T := 100021) (sz := 2) (xs := l.map fun x => .agg x.av) (ys := (mkSums 1 l.length).map fun x => .agg x.av) (rv := .int .i64 ((1 : Int) + (2 * l.length : Nat))) (by simpa [bsT, bsT.bsTL] using markSum_row hE l 1 (by omega) (by omega) (by omega)) (by decide) (by simp [okT, okT.okTL]) rfl (by decide) (by simpa using hn) (rowOk_sums _) (rowOk_sums _) (by simp [mkSums]) ?_
    simp [AS.kp, mapV, kp, kp.kpL, kpB, okC, List.filter, mkF]
    refine vcall_go (heldSum_fx hE l.length 1 (by omega) (by omega) (by omega)) (by simp [ro]) (by simp) (by simp) (by simp) ?_
    simp [hk2]
    refine vcall_own (T := 46) him (by simp) (by simp) (by simp) (by simp) (by simp [AS.noW, AS.putO, allV, noW, noW.noL]) (by decide) (by intro h; omega) rfl ?_
    simp [ownA, ownA.ownL, okC, putElem, upd]
    refine vcall_go (eqSumS_any hE l (by omega)) (by simp [ro]) (by simp) (by simp) (by simp) ?_
    simp
    refine vcall_go (heldSum_fx hE l.length 1 (by omega) (by omega) (by omega)) (by simp [ro]) (by simp) (by simp) (by simp) ?_
    simp [hk2]
    exact Fin_ret rfl rfl
end
end Go.Proofs.YtgegcfhifojjiaaDoor.Vm
