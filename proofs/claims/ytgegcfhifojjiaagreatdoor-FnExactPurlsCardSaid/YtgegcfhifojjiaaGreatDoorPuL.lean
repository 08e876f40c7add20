/- Purls: the law. -/
import Derived.Test.YtgegcfhifojjiaaGreatDoorPu
import Derived.Test.YtgegcfhifojjiaaGreatDoorGm
namespace Go.Proofs.YtgegcfhifojjiaaGreatDoor.Vm
open Go Go.RowKit
set_option linter.unusedVariables false
set_option linter.unusedSimpArgs false
def v9 : VC := .seq (.reg false [⟨some 2, .box 2 (.t 0), none⟩, ⟨some 4, .as (.c (.lit (.bool false))), none⟩] [4]) (.seq (.reg false [⟨some 5, .as (.c (.lit (.int .i64 1048576))), none⟩] []) (.seq (.reg false [⟨some 13, .ld true 2 (.t 2), none⟩, ⟨some 14, .mv (.t 5), none⟩, ⟨some 15, .call false 18 [(.t 13), (.t 14)], none⟩, ⟨some 5, .as (.t 15), none⟩] [13, 14, 15]) (.seq (.seq (.reg false [⟨some 16, .mv (.t 5), none⟩, ⟨some 17, .bin .lss 0 (.t 16) (.c (.lit (.int .i64 0))), none⟩] [16]) (.cond (.t 17) (.seq (.reg false [⟨some 4, .as (.c (.lit (.bool true))), none⟩] []) (.ret)) (.skip))) (.seq (.reg false [⟨some 18, .ld true 2 (.t 2), none⟩, ⟨some 19, .call false 20 [(.t 18)], none⟩, ⟨some 20, .mv (.t 1), none⟩, ⟨some 21, .call false 31 [(.t 19), (.t 20)], none⟩, ⟨some 6, .as (.t 21), none⟩] [18, 19, 20, 21]) (.seq (.reg false [⟨some 22, .ld true 2 (.t 2), none⟩, ⟨some 23, .call false 20 [(.t 22)], none⟩, ⟨some 7, .alloc (.agg [(.sl ⟨.nl, true⟩ 1 []), (.sl ⟨.nl, true⟩ 1 [])]), none⟩, ⟨none, .st 2 (.t 7) (.t 23), none⟩] [22, 23]) (.seq (.reg false [⟨some 24, .ld true 2 (.t 7), none⟩, ⟨some 25, .mv (.t 1), none⟩, ⟨some 26, .call false 32 [(.t 24), (.t 25)], none⟩, ⟨some 8, .as (.t 26), none⟩] [24, 25, 26]) (.seq (.seq (.reg false [⟨some 27, .mv (.t 8), none⟩, ⟨some 28, .mv (.t 6), none⟩, ⟨some 29, .call false 33 [(.t 27), (.t 28)], none⟩, ⟨some 30, .un .not (.t 29), none⟩] [27, 28, 29]) (.cond (.t 30) (.seq (.reg false [⟨some 4, .as (.c (.lit (.bool false))), none⟩] []) (.ret)) (.skip))) (.seq (.seq (.reg true [⟨some 31, .ld true 2 (.t 7), none⟩, ⟨some 32, .ld true 2 (.t 2), none⟩, ⟨some 33, .call true 20 [(.t 32)], none⟩, ⟨some 34, .call true 22 [(.t 31), (.t 33)], none⟩, ⟨some 35, .un .not (.t 34), none⟩] [31, 32, 33, 34]) (.cond (.t 35) (.seq (.reg false [⟨some 4, .as (.c (.lit (.bool false))), none⟩] []) (.ret)) (.skip))) (.seq (.reg false [⟨some 9, .as (.c (.lit (.int .i64 1))), none⟩] []) (.seq (.reg false [⟨some 36, .ld true 2 (.t 7), none⟩, ⟨some 37, .mv (.t 9), none⟩, ⟨some 38, .call false 28 [(.t 36), (.t 37)], none⟩, ⟨some 9, .as (.t 38), none⟩] [36, 37, 38]) (.seq (.seq (.reg false [⟨some 39, .mv (.t 9), none⟩, ⟨some 40, .bin .lss 0 (.t 39) (.c (.lit (.int .i64 0))), none⟩, ⟨some 41, .mv (.t 40), none⟩, ⟨some 42, .mv (.t 8), (some (41, false))⟩, ⟨some 43, .mv (.t 6), (some (41, false))⟩, ⟨some 44, .call false 33 [(.t 42), (.t 43)], (some (41, false))⟩, ⟨some 45, .un .not (.t 44), (some (41, false))⟩, ⟨some 46, .pick (.t 41) (.c (.lit (.bool true))) (.t 45), none⟩] [39, 40, 41, 42, 43, 44, 45]) (.cond (.t 46) (.seq (.reg false [⟨some 4, .as (.c (.lit (.bool false))), none⟩] []) (.ret)) (.skip))) (.seq (.reg false [⟨some 10, .as (.c (.lit (.int .i64 1))), none⟩] []) (.seq (.reg false [⟨some 47, .mv (.t 8), none⟩, ⟨some 48, .mv (.t 10), none⟩, ⟨some 49, .call false 34 [(.t 47), (.t 48)], none⟩, ⟨some 10, .as (.t 49), none⟩] [47, 48, 49]) (.seq (.reg false [⟨some 11, .as (.c (.lit (.int .i64 1))), none⟩] []) (.seq (.reg false [⟨some 50, .mv (.t 8), none⟩, ⟨some 51, .mv (.t 11), none⟩, ⟨some 52, .call false 35 [(.t 50), (.t 51)], none⟩, ⟨some 11, .as (.t 52), none⟩] [50, 51, 52]) (.seq (.seq (.reg false [⟨some 53, .mv (.t 11), none⟩, ⟨some 54, .bin .lss 0 (.t 53) (.c (.lit (.int .i64 0))), none⟩] [53]) (.cond (.t 54) (.seq (.reg false [⟨some 4, .as (.c (.lit (.bool false))), none⟩] []) (.ret)) (.skip))) (.seq (.seq (.reg false [⟨some 55, .mv (.t 11), none⟩, ⟨some 56, .mv (.t 10), none⟩, ⟨some 57, .bin .neq 0 (.t 55) (.t 56), none⟩] [55, 56]) (.cond (.t 57) (.seq (.reg false [⟨some 4, .as (.c (.lit (.bool false))), none⟩] []) (.ret)) (.skip))) (.seq (.reg false [⟨some 58, .ld true 2 (.t 2), none⟩, ⟨some 59, .call false 20 [(.t 58)], none⟩, ⟨some 60, .mv (.t 1), none⟩, ⟨some 61, .call false 32 [(.t 59), (.t 60)], none⟩, ⟨some 12, .as (.t 61), none⟩] [58, 59, 60, 61]) (.seq (.seq (.reg false [⟨some 62, .mv (.t 12), none⟩, ⟨some 63, .mv (.t 6), none⟩, ⟨some 64, .call false 33 [(.t 62), (.t 63)], none⟩, ⟨some 65, .un .not (.t 64), none⟩] [62, 63, 64]) (.cond (.t 65) (.seq (.reg false [⟨some 4, .as (.c (.lit (.bool false))), none⟩] []) (.ret)) (.skip))) (.seq (.reg false [⟨some 11, .as (.c (.lit (.int .i64 1))), none⟩] []) (.seq (.reg false [⟨some 66, .mv (.t 8), none⟩, ⟨some 67, .mv (.t 11), none⟩, ⟨some 68, .call false 35 [(.t 66), (.t 67)], none⟩, ⟨some 11, .as (.t 68), none⟩] [66, 67, 68]) (.seq (.seq (.reg false [⟨some 69, .mv (.t 11), none⟩, ⟨some 70, .bin .lss 0 (.t 69) (.c (.lit (.int .i64 0))), none⟩] [69]) (.cond (.t 70) (.seq (.reg false [⟨some 4, .as (.c (.lit (.bool false))), none⟩] []) (.ret)) (.skip))) (.seq (.seq (.reg false [⟨some 71, .mv (.t 11), none⟩, ⟨some 72, .mv (.t 10), none⟩, ⟨some 73, .bin .neq 0 (.t 71) (.t 72), none⟩] [71, 72]) (.cond (.t 73) (.seq (.reg false [⟨some 4, .as (.c (.lit (.bool false))), none⟩] []) (.ret)) (.skip))) (.seq (.reg false [⟨some 4, .as (.c (.lit (.bool true))), none⟩] []) (.ret)))))))))))))))))))))))))
theorem is9 : Is Go.Proofs.Tryz.prog 9 74 v9 [.t 4] := ⟨Go.Proofs.Tryz.f9, dl [(0, [4]), (2, [13, 14, 15]), (3, [16]), (5, [18, 19, 20, 21]), (6, [22, 23]), (7, [24, 25, 26]), (8, [27, 28, 29]), (10, [31, 32, 33, 34]), (13, [36, 37, 38]), (14, [39, 40, 41, 42, 43, 44, 45]), (17, [47, 48, 49]), (19, [50, 51, 52]), (20, [53]), (22, [55, 56]), (24, [58, 59, 60, 61]), (25, [62, 63, 64]), (28, [66, 67, 68]), (29, [69]), (31, [71, 72])], Go.Proofs.Tryz.func9, by kernel_rfl, by kernel_rfl, by kernel_rfl, by kernel_rfl⟩
theorem flatL_sums (l : List Sm) : flat.flatL (l.map fun x => AV.agg x.av) = true := by
  induction l with
  | nil => rfl
  | cons x l ih =>
    have h1 : flat.flatL x.av = true := by simp [Sm.av, flat.flatL, flat, isSl]
    simp only [List.map_cons, flat.flatL, flat, h1, ih, Bool.and_self]
theorem flatL_packs (l : List Pk) : flat.flatL (l.map fun x => AV.agg x.av) = true := by
  induction l with
  | nil => rfl
  | cons x l ih =>
    have h1 : flat.flatL x.av = true := by simp [Pk.av, flat.flatL, flat, isSl, flatL_strs, flatL_sums]
    simp only [List.map_cons, flat.flatL, flat, h1, ih, Bool.and_self]
section
variable {E : Env} (hE : E.P = Go.Proofs.Tryz.prog) (hZ : ∀ w, E.K w → KZ w)
include hE hZ
set_option maxHeartbeats 8000000 in
theorem purlsLaw_fx (g : Gr) (hg : g.good) (k : Int) : Fx E 9 [] [.agg g.av, .lit (.int .i64 k)] [] (.lit (.bool true)) := by
  have hgv : g.av = [.sl ro 1 (g.top.map fun x => .lit (.string x)), .sl ro 6 (g.packs.map fun x => .agg x.av)] := rfl
  refine (is9.to hE).fxo (by simp [Gr.av]) (by simp) rfl ?_
  simp [v9, hgv, ownA, ownA.ownL, okC, mkF, ro]
  refine vcall_go (szGraph_fx hE g 1048576 hg (by omega) (by omega)) (by simp [hgv, ro]) (by simp) (by simp) (by simp) ?_
  simp
  by_cases c1 : g.sz 1048576 < 0
  · simp [c1]
    exact Fin_ret rfl rfl
  have hs := g.small_of 1048576 (by omega) (by omega) (by omega)
  have hcs := Gr.cnt_small hs
  have hss : ∀ p ∈ g.packs, p.sums.length ≤ 1048576 := fun p hp => (hs.2.2 p hp).2.2.2.1.1
  have hto : Fx E 20 [] [.agg g.av] [] (.agg [.sl ⟨.no, true⟩ 1 (g.top.map fun x => .lit (.string x)), .sl ⟨.no, true⟩ 6 (g.packs.map fun x => .agg x.av)]) := toGraph_fx hE g hs
  have hsp := specPurls_fx hE g hs k
  have him := implPurls_fx hE hZ g hs k
  have hll := purls_len k g
  unfold purlsRes at hsp him
  obtain ⟨l, hl⟩ : ∃ l, purls k g = l := ⟨_, rfl⟩
  rw [hl] at hsp him hll
  have hlz : l.length ≤ 1048576 := by have := hs.2.1; omega
  simp [c1]
  refine vcall_go hto (by simp [hgv, ro]) (by simp) (by simp) (by simp) ?_
  simp [hgv, mkF, mkF.mkL]
  refine vcall_own (T := 21) hsp (by simp [hgv, ro]) (by simp) (by simp) (by simp) (by simp [AS.noW, AS.putO, allV, noW, noW.noL]) (by decide) (by intro h; omega) rfl ?_
  simp [ownA, ownA.ownL, okC, putElem, upd]
  refine vcall_own (T := 23) hto (by simp [hgv, ro]) (by simp) (by simp) (by simp) (by simp [AS.noW, AS.putO, allV, noW, noW.noL]) (by decide) (by intro h; omega) rfl ?_
  simp [ownA, ownA.ownL, okC, putElem, upd]
  refine vcall_own (T := 100026) him (by simp [hgv, ro]) (by simp) (by simp) (by simp) (by simp [AS.noW, AS.putO, allV, noW, noW.noL]) (by decide) (fun _ => Nat.le_refl _) rfl ?_
  simp [ownA, ownA.ownL, okC, putElem, upd]
  refine vcall_go (eqStr_fx (is33.to hE) (by decide) l l (by omega)) (by simp [ro]) (by simp) (by simp) (by simp) ?_
  simp [all2_refl]
  refine vcall_go hto (by simp [hgv, ro]) (by simp) (by simp) (by simp) ?_
  simp
  refine vcall_go (eqGraph_fx hE g hs) (by simp [hgv, ro]) (by simp) (by simp) (by simp) ?_
  simp
  refine vcall_junk (T := 23) (rv := .int .i64 ((1 : Int) + g.cnt)) (by simpa [hsT, hsT.hsTL, hsL_packs, hsL_strs] using markGraph_junk hE g 1 (by omega) hs.2.1 hss (by omega)) (by decide) (by simp [okJ, okJ.okJL, flatL_packs, flatL_strs]) ?_
  have hk1 : ¬ ((1 : Int) + g.cnt < 0) := by omega
  simp [AS.kp, mapV, kp, kp.kpL, kpB, okC, List.filter, hk1, mkF]
  refine vcall_go (eqStr_fx (is33.to hE) (by decide) l l (by omega)) (by simp [ro]) (by simp) (by simp) (by simp) ?_
  simp [all2_refl]
  by_cases hn : l = []
  · subst hn
    refine vcall_go (markStr_nil hE 1 (by omega)) (by simp [ro]) (by simp) (by simp) (by simp) ?_
    simp
    refine vcall_go (heldStr_fx hE 0 1 (by omega) (by omega)) (by simp [ro, mkRow]) (by simp) (by simp) (by simp) ?_
    simp
    refine vcall_go hto (by simp [hgv, ro]) (by simp) (by simp) (by simp) ?_
    simp
    refine vcall_own (T := 61) him (by simp [hgv, ro]) (by simp) (by simp) (by simp) (by simp [AS.noW, AS.putO, allV, noW, noW.noL]) (by decide) (by intro h; omega) rfl ?_
    simp [ownA, ownA.ownL, okC, putElem, upd]
    refine vcall_go (eqStr_fx (is33.to hE) (by decide) [] [] (by simp)) (by simp [ro]) (by simp) (by simp) (by simp) ?_
    simp [all2_refl]
    refine vcall_go (heldStr_fx hE 0 1 (by omega) (by omega)) (by simp [ro, mkRow]) (by simp) (by simp) (by simp) ?_
    simp
    exact Fin_ret rfl rfl
  · have hk2 : ¬ ((1 : Int) + l.length < 0) := by omega
    refine vcall_row (T := 100026) (sz := 1) (xs := l.map fun x => .lit (.string x)) (ys := (mkRow 1 l.length).map fun x => .lit (.string x)) (rv := .int .i64 ((1 : Int) + l.length)) (by simpa [bsT, bsT.bsTL] using markStr_row hE l 1 (by omega) (by omega)) (by decide) (by simp [okT, okT.okTL]) rfl (by decide) (by simpa using hn) (rowOk_strs _) (rowOk_strs _) (by simp [mkRow]) ?_
    simp [AS.kp, mapV, kp, kp.kpL, kpB, okC, List.filter, mkF]
    refine vcall_go (heldStr_fx hE l.length 1 (by omega) (by omega)) (by simp [ro]) (by simp) (by simp) (by simp) ?_
    simp [hk2]
    refine vcall_go hto (by simp [hgv, ro]) (by simp) (by simp) (by simp) ?_
    simp
    refine vcall_own (T := 61) him (by simp [hgv, ro]) (by simp) (by simp) (by simp) (by simp [AS.noW, AS.putO, allV, noW, noW.noL]) (by decide) (by intro h; omega) rfl ?_
    simp [ownA, ownA.ownL, okC, putElem, upd]
    refine vcall_go (eqStr_fx (is33.to hE) (by decide) l l (by omega)) (by simp [ro]) (by simp) (by simp) (by simp) ?_
    simp [all2_refl]
    refine vcall_go (heldStr_fx hE l.length 1 (by omega) (by omega)) (by simp [ro]) (by simp) (by simp) (by simp) ?_
    simp [hk2]
    exact Fin_ret rfl rfl
end
end Go.Proofs.YtgegcfhifojjiaaGreatDoor.Vm
