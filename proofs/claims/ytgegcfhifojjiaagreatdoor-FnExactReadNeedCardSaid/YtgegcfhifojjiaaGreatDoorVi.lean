/- Versions: impl's side. -/
import Derived.Test.YtgegcfhifojjiaaGreatDoorVr
namespace Go.Proofs.YtgegcfhifojjiaaGreatDoor.Vm
open Go Go.RowKit
set_option linter.unusedVariables false
set_option linter.unusedSimpArgs false
def v194 : VC := .seq (.reg false [⟨some 1, .box 4 (.t 0), none⟩, ⟨some 2, .as (.c (.lit (.bool false))), none⟩] [2]) (.seq (.seq (.reg false [⟨some 7, .fa 0 (.t 1), none⟩, ⟨some 8, .ld false 1 (.t 7), none⟩, ⟨some 9, .fa 1 (.t 1), none⟩, ⟨some 10, .ld false 1 (.t 9), none⟩, ⟨some 11, .fa 2 (.t 1), none⟩, ⟨some 12, .ld false 1 (.t 11), none⟩, ⟨some 13, .bsl 1 [(.t 8), (.t 10), (.t 12)], none⟩, ⟨some 14, .len false (.t 13), none⟩, ⟨some 15, .mv (.c (.lit (.int .i64 0))), none⟩] [7, 8, 9, 10, 11, 12]) (.block 0 (.loop (.seq (.reg false [⟨some 16, .bin .lss 0 (.t 15) (.t 14), none⟩] []) (.seq (.cond (.t 16) (.skip) (.exit 0)) (.seq (.block 1 (.seq (.reg false [⟨some 17, .ia 1 (.t 13) (.t 15), none⟩, ⟨some 18, .ld false 1 (.t 17), none⟩, ⟨some 4, .as (.t 18), none⟩] [17, 18]) (.seq (.reg false [⟨some 19, .mv (.t 4), none⟩, ⟨some 20, .call false 108 [(.t 19), (.c (.lit (.int .i64 0))), (.c (.lit (.int .i64 999999999)))], none⟩, ⟨some 21, .un .not (.t 20), none⟩] [19, 20]) (.cond (.t 21) (.seq (.reg false [⟨some 2, .as (.c (.lit (.bool false))), none⟩] []) (.ret)) (.skip))))) (.reg false [⟨some 22, .bin .add 0 (.t 15) (.c (.lit (.int .i64 1))), none⟩, ⟨some 15, .mv (.t 22), none⟩] [22]))))))) (.seq (.seq (.reg false [⟨some 23, .fa 3 (.t 1), none⟩, ⟨some 24, .ld false 1 (.t 23), none⟩, ⟨some 25, .len false (.t 24), none⟩, ⟨some 26, .mv (.c (.lit (.int .i64 0))), none⟩] [23]) (.block 2 (.loop (.seq (.reg false [⟨some 27, .bin .lss 0 (.t 26) (.t 25), none⟩] []) (.seq (.cond (.t 27) (.skip) (.exit 2)) (.seq (.block 3 (.seq (.reg false [⟨some 28, .ia 1 (.t 24) (.t 26), none⟩, ⟨some 29, .ld false 1 (.t 28), none⟩, ⟨some 6, .as (.t 29), none⟩] [28, 29]) (.seq (.reg false [⟨some 30, .mv (.t 6), none⟩, ⟨some 31, .len true (.t 30), none⟩, ⟨some 32, .call false 108 [(.t 31), (.c (.lit (.int .i64 1))), (.c (.lit (.int .i64 20)))], none⟩, ⟨some 33, .un .not (.t 32), none⟩, ⟨some 34, .mv (.t 33), none⟩, ⟨some 35, .mv (.t 6), (some (34, false))⟩, ⟨some 36, .call false 110 [(.t 35), (.c (.fn 228 []))], (some (34, false))⟩, ⟨some 37, .un .not (.t 36), (some (34, false))⟩, ⟨some 38, .pick (.t 34) (.c (.lit (.bool true))) (.t 37), none⟩, ⟨some 39, .mv (.t 38), none⟩, ⟨some 40, .mv (.t 6), (some (39, false))⟩, ⟨some 41, .call false 229 [(.t 40)], (some (39, false))⟩, ⟨some 42, .mv (.t 41), (some (39, false))⟩, ⟨some 43, .mv (.t 6), (some (42, true))⟩, ⟨some 44, .call false 157 [(.t 43)], (some (42, true))⟩, ⟨some 45, .bin .lss 0 (.t 44) (.c (.lit (.int .i64 0))), (some (42, true))⟩, ⟨some 46, .pick (.t 42) (.t 45) (.c (.lit (.bool false))), (some (39, false))⟩, ⟨some 47, .pick (.t 39) (.c (.lit (.bool true))) (.t 46), none⟩] [30, 31, 32, 33, 34, 35, 36, 37, 38, 39, 40, 41, 42, 43, 44, 45, 46]) (.cond (.t 47) (.seq (.reg false [⟨some 2, .as (.c (.lit (.bool false))), none⟩] []) (.ret)) (.skip))))) (.reg false [⟨some 48, .bin .add 0 (.t 26) (.c (.lit (.int .i64 1))), none⟩, ⟨some 26, .mv (.t 48), none⟩] [48]))))))) (.seq (.reg false [⟨some 49, .fa 3 (.t 1), none⟩, ⟨some 50, .ld false 1 (.t 49), none⟩, ⟨some 51, .len false (.t 50), none⟩, ⟨some 52, .bin .leq 0 (.t 51) (.c (.lit (.int .i64 5))), none⟩, ⟨some 2, .as (.t 52), none⟩] [49, 50, 51, 52]) (.ret))))
theorem is194 : Is Go.Proofs.Tryz.prog 194 53 v194 [.t 2] := ⟨Go.Proofs.Tryz.f194, dl [(0, [2]), (1, [7, 8, 9, 10, 11, 12]), (3, [17, 18]), (4, [19, 20]), (6, [22]), (7, [23]), (9, [28, 29]), (10, [30, 31, 32, 33, 34, 35, 36, 37, 38, 39, 40, 41, 42, 43, 44, 45, 46]), (12, [48]), (13, [49, 50, 51, 52])], Go.Proofs.Tryz.func194, by kernel_rfl, by kernel_rfl, by kernel_rfl, by kernel_rfl⟩
def v158 : VC := .seq (.reg false [⟨some 1, .box 4 (.t 0), none⟩, ⟨some 2, .as (.c (.lit (.string (by8 "")))), none⟩] [2]) (.seq (.seq (.reg false [⟨some 4, .ld true 4 (.t 1), none⟩, ⟨some 5, .call false 194 [(.t 4)], none⟩, ⟨some 6, .un .not (.t 5), none⟩] [4, 5]) (.cond (.t 6) (.seq (.reg false [⟨some 2, .as (.c (.lit (.string (by8 "")))), none⟩] []) (.ret)) (.skip))) (.seq (.reg true [⟨some 7, .fa 0 (.t 1), none⟩, ⟨some 8, .ld false 1 (.t 7), none⟩, ⟨some 9, .call true 193 [(.t 8)], none⟩, ⟨some 10, .bin .add 0 (.t 9) (.c (.lit (.string (by8 ".")))), none⟩, ⟨some 11, .fa 1 (.t 1), none⟩, ⟨some 12, .ld false 1 (.t 11), none⟩, ⟨some 13, .call true 193 [(.t 12)], none⟩, ⟨some 14, .bin .add 0 (.t 10) (.t 13), none⟩, ⟨some 15, .bin .add 0 (.t 14) (.c (.lit (.string (by8 ".")))), none⟩, ⟨some 16, .fa 2 (.t 1), none⟩, ⟨some 17, .ld false 1 (.t 16), none⟩, ⟨some 18, .call true 193 [(.t 17)], none⟩, ⟨some 19, .bin .add 0 (.t 15) (.t 18), none⟩, ⟨some 3, .as (.t 19), none⟩] [7, 8, 9, 10, 11, 12, 13, 14, 15, 16, 17, 18, 19]) (.seq (.seq (.reg false [⟨some 20, .fa 3 (.t 1), none⟩, ⟨some 21, .ld false 1 (.t 20), none⟩, ⟨some 22, .len false (.t 21), none⟩, ⟨some 23, .bin .gtr 0 (.t 22) (.c (.lit (.int .i64 0))), none⟩] [20, 21, 22]) (.cond (.t 23) (.reg false [⟨some 24, .mv (.t 3), none⟩, ⟨some 25, .fa 3 (.t 1), none⟩, ⟨some 26, .ld false 1 (.t 25), none⟩, ⟨some 27, .call false 49 [(.t 26), (.c (.lit (.string (by8 "."))))], none⟩, ⟨some 28, .bin .add 0 (.c (.lit (.string (by8 "-")))) (.t 27), none⟩, ⟨some 29, .bin .add 0 (.t 24) (.t 28), none⟩, ⟨some 3, .as (.t 29), none⟩] [24, 25, 26, 27, 28, 29]) (.skip))) (.seq (.reg false [⟨some 30, .mv (.t 3), none⟩, ⟨some 2, .as (.t 30), none⟩] [30]) (.ret)))))
theorem is158 : Is Go.Proofs.Tryz.prog 158 31 v158 [.t 2] := ⟨Go.Proofs.Tryz.f158, dl [(0, [2]), (1, [4, 5]), (3, [7, 8, 9, 10, 11, 12, 13, 14, 15, 16, 17, 18, 19]), (4, [20, 21, 22]), (5, [24, 25, 26, 27, 28, 29]), (6, [30])], Go.Proofs.Tryz.func158, by kernel_rfl, by kernel_rfl, by kernel_rfl, by kernel_rfl⟩
def v114 : VC := .seq (.reg false [⟨some 2, .alloc (.agg [(.lit (.int .i64 0)), (.lit (.int .i64 0)), (.lit (.int .i64 0)), (.sl ⟨.nl, true⟩ 1 [])]), none⟩, ⟨some 3, .as (.c (.lit (.bool false))), none⟩] [3]) (.seq (.reg false [⟨some 10, .mv (.t 0), none⟩, ⟨some 11, .call false 56 [(.t 10), (.c (.lit (.string (by8 "-"))))], none⟩, ⟨some 9, .mv (.t 11), none⟩, ⟨some 12, .ext (.t 9) 0, none⟩, ⟨some 13, .ext (.t 9) 1, none⟩, ⟨some 14, .ext (.t 9) 2, none⟩, ⟨some 4, .as (.t 12), none⟩, ⟨some 5, .as (.t 13), none⟩, ⟨some 6, .as (.t 14), none⟩] [10, 11, 9, 12, 13, 14]) (.seq (.reg false [⟨some 15, .mv (.t 4), none⟩, ⟨some 16, .call false 47 [(.t 15), (.c (.lit (.string (by8 "."))))], none⟩, ⟨some 7, .as (.t 16), none⟩] [15, 16]) (.seq (.seq (.reg false [⟨some 17, .mv (.t 7), none⟩, ⟨some 18, .len false (.t 17), none⟩, ⟨some 19, .bin .neq 0 (.t 18) (.c (.lit (.int .i64 3))), none⟩] [17, 18]) (.cond (.t 19) (.seq (.reg false [⟨some 20, .bld [(.lit (.int .i64 0)), (.lit (.int .i64 0)), (.lit (.int .i64 0)), (.sl ⟨.nl, true⟩ 1 [])] [], none⟩, ⟨none, .st 4 (.t 2) (.t 20), none⟩, ⟨some 3, .as (.c (.lit (.bool false))), none⟩] [20]) (.ret)) (.skip))) (.seq (.reg true [⟨some 21, .mv (.t 7), none⟩, ⟨some 22, .ia 1 (.t 21) (.c (.lit (.int .i64 0))), none⟩, ⟨some 23, .ld false 1 (.t 22), none⟩, ⟨some 24, .call true 157 [(.t 23)], none⟩, ⟨some 25, .mv (.t 7), none⟩, ⟨some 26, .ia 1 (.t 25) (.c (.lit (.int .i64 1))), none⟩, ⟨some 27, .ld false 1 (.t 26), none⟩, ⟨some 28, .call true 157 [(.t 27)], none⟩, ⟨some 29, .mv (.t 7), none⟩, ⟨some 30, .ia 1 (.t 29) (.c (.lit (.int .i64 2))), none⟩, ⟨some 31, .ld false 1 (.t 30), none⟩, ⟨some 32, .call true 157 [(.t 31)], none⟩, ⟨some 33, .bld [(.lit (.int .i64 0)), (.lit (.int .i64 0)), (.lit (.int .i64 0)), (.sl ⟨.nl, true⟩ 1 [])] [(0, 1, (.t 24)), (1, 1, (.t 28)), (2, 1, (.t 32))], none⟩, ⟨some 8, .alloc (.agg [(.lit (.int .i64 0)), (.lit (.int .i64 0)), (.lit (.int .i64 0)), (.sl ⟨.nl, true⟩ 1 [])]), none⟩, ⟨none, .st 4 (.t 8) (.t 33), none⟩] [21, 22, 23, 24, 25, 26, 27, 28, 29, 30, 31, 32, 33]) (.seq (.seq (.reg false [⟨some 34, .mv (.t 6), none⟩] []) (.cond (.t 34) (.reg false [⟨some 35, .mv (.t 5), none⟩, ⟨some 36, .call false 47 [(.t 35), (.c (.lit (.string (by8 "."))))], none⟩, ⟨some 37, .fa 3 (.t 8), none⟩, ⟨none, .st 1 (.t 37) (.t 36), none⟩] [35, 36, 37]) (.skip))) (.seq (.seq (.reg false [⟨some 38, .ld true 4 (.t 8), none⟩, ⟨some 39, .call false 158 [(.t 38)], none⟩, ⟨some 40, .mv (.t 0), none⟩, ⟨some 41, .bin .neq 0 (.t 39) (.t 40), none⟩, ⟨some 42, .mv (.t 41), none⟩, ⟨some 43, .mv (.t 0), (some (42, false))⟩, ⟨some 44, .bin .eql 0 (.t 43) (.c (.lit (.string (by8 "")))), (some (42, false))⟩, ⟨some 45, .pick (.t 42) (.c (.lit (.bool true))) (.t 44), none⟩] [38, 39, 40, 41, 42, 43, 44]) (.cond (.t 45) (.seq (.reg false [⟨some 46, .bld [(.lit (.int .i64 0)), (.lit (.int .i64 0)), (.lit (.int .i64 0)), (.sl ⟨.nl, true⟩ 1 [])] [], none⟩, ⟨none, .st 4 (.t 2) (.t 46), none⟩, ⟨some 3, .as (.c (.lit (.bool false))), none⟩] [46]) (.ret)) (.skip))) (.seq (.reg false [⟨some 47, .ld true 4 (.t 8), none⟩, ⟨none, .st 4 (.t 2) (.t 47), none⟩, ⟨some 3, .as (.c (.lit (.bool true))), none⟩] [47]) (.ret))))))))
theorem is114 : Is Go.Proofs.Tryz.prog 114 48 v114 [.b 2 true 4, .t 3] := ⟨Go.Proofs.Tryz.f114, dl [(0, [3]), (1, [10, 11, 9, 12, 13, 14]), (2, [15, 16]), (3, [17, 18]), (4, [20]), (5, [21, 22, 23, 24, 25, 26, 27, 28, 29, 30, 31, 32, 33]), (7, [35, 36, 37]), (8, [38, 39, 40, 41, 42, 43, 44]), (9, [46]), (10, [47])], Go.Proofs.Tryz.func114, by kernel_rfl, by kernel_rfl, by kernel_rfl, by kernel_rfl⟩
def v46 : VC := .seq (.reg false [⟨some 2, .as (.c (.lit (.bool false))), none⟩] [2]) (.seq (.reg false [⟨some 6, .mv (.t 0), none⟩, ⟨some 7, .call false 114 [(.t 6)], none⟩, ⟨some 5, .mv (.t 7), none⟩, ⟨some 8, .ext (.t 5) 0, none⟩, ⟨some 9, .ext (.t 5) 1, none⟩, ⟨some 3, .alloc (.agg [(.lit (.int .i64 0)), (.lit (.int .i64 0)), (.lit (.int .i64 0)), (.sl ⟨.nl, true⟩ 1 [])]), none⟩, ⟨none, .st 4 (.t 3) (.t 8), none⟩, ⟨some 4, .as (.t 9), none⟩] [6, 7, 5, 8, 9, 3]) (.seq (.reg false [⟨some 10, .mv (.t 4), none⟩, ⟨some 2, .as (.t 10), none⟩] [10]) (.ret)))
theorem is46 : Is Go.Proofs.Tryz.prog 46 11 v46 [.t 2] := ⟨Go.Proofs.Tryz.f46, dl [(0, [2]), (1, [6, 7, 5, 8, 9, 3]), (2, [10])], Go.Proofs.Tryz.func46, by kernel_rfl, by kernel_rfl, by kernel_rfl, by kernel_rfl⟩
theorem joinB_pre : ∀ (p : ByteArray) (r : List ByteArray), joinB (p :: r) (by8 ".") = p ++ tailT r := by
  intro p r
  refine ba_ext ?_
  have h1 : (joinB (p :: r) (by8 ".")).data.toList = Lib.join ((p :: r).map (·.data.toList)) (by8 ".").data.toList := rfl
  rw [h1, List.map_cons, Lib.join_cons]
  have h2 : ∀ r : List ByteArray, (tailT r).data.toList = Lib.joinTail (by8 ".").data.toList (r.map (·.data.toList)) := by
    intro r
    induction r with
    | nil => simp [tailT, Lib.joinTail]; decide +kernel
    | cons q r ih =>
      simp only [tailT, Lib.joinTail, List.map_cons, List.flatten_cons] at ih ⊢
      rw [← ih]
      simp
  rw [← h2]
  simp
section
variable {E : Env} (hE : E.P = Go.Proofs.Tryz.prog) (hZ : ∀ w, E.K w → KZ w)
include hE hZ
set_option maxHeartbeats 2000000 in
theorem implVerOk_fx (v : Ver) (hl : v.pre.length ≤ 4294967296) (hp : ∀ p ∈ v.pre, p.size ≤ 281474976710656) : Fx E 194 [] [.agg v.av] [] (.lit (.bool (verOk v))) := by
  have hav : v.av = [.lit (.int .i64 v.maj), .lit (.int .i64 v.min), .lit (.int .i64 v.pat), .sl ro 1 (v.pre.map fun x => .lit (.string x))] := rfl
  refine (is194.to hE).fx [] (by simp) rfl rfl ?_
  simp [v194, hav, okC, frA, frA.frL]
  refine X_loop (τ := Nat) (fun i => ⟨[(1, .ptr 1001 0 0), (13, .sl ⟨.no, true⟩ 1 [.lit (.int .i64 v.maj), .lit (.int .i64 v.min), .lit (.int .i64 v.pat)]), (14, .lit (.int .i64 3)), (15, .lit (.int .i64 i))], [(1001, [.agg v.av])]⟩) (fun i => i ≤ 3 ∧ (0 < i → inR v.maj 0 999999999 = true) ∧ (1 < i → inR v.min 0 999999999 = true) ∧ (2 < i → inR v.pat 0 999999999 = true)) (fun i => 3 - i) 0 (by simp) (Wk.both (by simp [wkL, wkV.same]; exact wkV_no _ _ _ _) (by simp [wkB, hav])) ?_
  rintro i ⟨hi, g1, g2, g3⟩
  simp [hav]
  match i, hi with
  | 0, _ =>
    simp [mkF]
    refine vcall_go (within_fx hE v.maj 0 999999999) (by simp) (by simp) (by simp) (by simp) ?_
    simp
    cases c1 : inR v.maj 0 999999999
    · simp
      exact Fin_ret rfl (by simp [verOk, c1, reC])
    · simp
      exact ⟨1, ⟨by omega, fun h => by omega, fun h => by omega⟩, by omega, Wk.both (by simp [wkL, wkV.same]; rw [wrap_i64 (by omega) (by omega)]; exact wkV.same _) (by simp [wkB, hav])⟩
  | 1, _ =>
    simp [mkF]
    refine vcall_go (within_fx hE v.min 0 999999999) (by simp) (by simp) (by simp) (by simp) ?_
    simp
    cases c1 : inR v.min 0 999999999
    · simp
      exact Fin_ret rfl (by simp [verOk, c1, reC])
    · simp
      exact ⟨2, ⟨by omega, fun _ => g1 (by omega), fun h => by omega⟩, by omega, Wk.both (by simp [wkL, wkV.same]; rw [wrap_i64 (by omega) (by omega)]; exact wkV.same _) (by simp [wkB, hav])⟩
  | 2, _ =>
    simp [mkF]
    refine vcall_go (within_fx hE v.pat 0 999999999) (by simp) (by simp) (by simp) (by simp) ?_
    simp
    cases c1 : inR v.pat 0 999999999
    · simp
      exact Fin_ret rfl (by simp [verOk, c1, reC])
    · simp
      exact ⟨3, ⟨by omega, fun _ => g1 (by omega), fun h => g2 (by omega)⟩, by omega, Wk.both (by simp [wkL, wkV.same]; rw [wrap_i64 (by omega) (by omega)]; exact wkV.same _) (by simp [wkB, hav])⟩
  | 3, _ =>
    have k1 := g1 (by omega)
    have k2 := g2 (by omega)
    have k3 := g3 (by omega)
    simp
    refine X_loop (τ := Nat) (fun i => ⟨[(1, .ptr 1001 0 0), (24, .sl ro 1 (v.pre.map fun x => .lit (.string x))), (25, .lit (.int .i64 v.pre.length)), (26, .lit (.int .i64 i))], [(1001, [.agg v.av])]⟩) (fun i => i ≤ v.pre.length ∧ ∀ (k : Nat) (x : ByteArray), k < i → v.pre[k]? = some x → preOk x = true) (fun i => v.pre.length - i) 0 (by simp) (Wk.both (by simp [wkL, wkV.same]) (by simp [wkB, hav])) ?_
    rintro i ⟨hi, hall⟩
    simp [hav]
    by_cases hlt : i < v.pre.length
    · have hpz := hp _ (List.getElem_mem hlt)
      have no : preOk v.pre[i] = false → verOk v = false := fun h => by simp only [verOk, all_false hlt h]; rfl
      have next : preOk v.pre[i] = true → ∃ j, (j ≤ v.pre.length ∧ ∀ (k : Nat) (x : ByteArray), k < j → v.pre[k]? = some x → preOk x = true) ∧ v.pre.length - j < v.pre.length - i ∧ j = i + 1 := fun h => ⟨i + 1, ⟨by omega, fun k x hk hx => by
        rcases Nat.lt_succ_iff_lt_or_eq.1 hk with h2 | rfl
        · exact hall k x h2 hx
        · rw [List.getElem?_eq_getElem hlt] at hx; rw [← Option.some.inj hx]; exact h⟩, by omega, rfl⟩
      obtain ⟨p, hpe⟩ : ∃ p, v.pre[i] = p := ⟨_, rfl⟩
      simp [hlt, mkF]
      rw [hpe] at no next hpz ⊢
      refine vcall_go (within_fx hE p.size 1 20) (by simp) (by simp) (by simp) (by simp) ?_
      simp
      cases c1 : inR p.size 1 20
      · have := no (by simp [preOk, c1])
        simp
        exact Fin_ret rfl (by rw [this]; rfl)
      · simp
        refine vcall_go (all_fx hE (g := 228) (hE ▸ (by kernel_rfl : fnOk Go.Proofs.Tryz.prog 228 = true)) (verOk1_fx hE) p (by omega)) (by simp [strip]) (by simp [argOk]) (by simp [ptrs]) (by simp) ?_
        simp
        cases c2 : allB preB p
        · have := no (by simp [preOk, c2])
          simp
          exact Fin_ret rfl (by rw [this]; rfl)
        · simp
          refine vcall_go (isNumber_fx hE p (by omega)) (by simp) (by simp) (by simp) (by simp) ?_
          simp
          cases c3 : numB p
          · obtain ⟨j, h1, h2, rfl⟩ := next (by simp [preOk, c1, c2, c3])
            simp
            exact ⟨_, h1, h2, Wk.both (by simp [wkL, wkV.same]; rw [wrapN (by omega)]; exact wkV.same _) (by simp [wkB, hav])⟩
          · simp
            refine vcall_go (implReadDec_fx hE hZ p (by omega)) (by simp) (by simp) (by simp) (by simp) ?_
            simp
            by_cases c4 : readDec p < 0
            · have := no (by simp [preOk, c1, c2, c3]; omega)
              simp [c4]
              exact Fin_ret rfl (by rw [this]; rfl)
            · obtain ⟨j, h1, h2, rfl⟩ := next (by simp [preOk, c1, c2, c3]; omega)
              simp [c4]
              exact ⟨_, h1, h2, Wk.both (by simp [wkL, wkV.same]; rw [wrapN (by omega)]; exact wkV.same _) (by simp [wkB, hav])⟩
    · have hpre : v.pre.all preOk = true := all_true fun k x hx => hall k x (by have := (List.getElem?_eq_some_iff.1 hx).1; omega) hx
      simp [hlt]
      exact Fin_ret rfl (by simp [verOk, k1, k2, k3, hpre, reC]; omega)
set_option maxHeartbeats 2000000 in
theorem implVerT_fx (v : Ver) (hl : v.pre.length ≤ 4294967296) (hp : ∀ p ∈ v.pre, p.size ≤ 281474976710656) : Fx E 158 [] [.agg v.av] [] (.lit (.string (verT v))) := by
  have hav : v.av = [.lit (.int .i64 v.maj), .lit (.int .i64 v.min), .lit (.int .i64 v.pat), .sl ro 1 (v.pre.map fun x => .lit (.string x))] := rfl
  refine (is158.to hE).fx [] (by simp) rfl rfl ?_
  simp [v158, hav, okC]
  refine vcall_go (implVerOk_fx hE hZ v hl hp) (by simp [hav, ro]) (by simp [hav]) (by simp [hav]) (by simp) ?_
  simp
  cases c1 : verOk v
  · simp
    exact Fin_ret rfl (by simp [verT, c1, reC])
  · obtain ⟨⟨a, e1, h1⟩, ⟨b, e2, h2⟩, ⟨c, e3, h3⟩, h4, h5⟩ := verOk_b c1
    have k1 := decT_size (k := 8) (n := a) (by omega)
    have k2 := decT_size (k := 8) (n := b) (by omega)
    have k3 := decT_size (k := 8) (n := c) (by omega)
    have es : (by8 ".").size = 1 := by decide +kernel
    have es2 : (by8 "-").size = 1 := by decide +kernel
    have hv : verT v = coreT v ++ preT v.pre := by simp [verT, c1]
    have hc : coreT v = decT a ++ by8 "." ++ decT b ++ by8 "." ++ decT c := by simp [coreT, e1, e2, e3]
    have hcs := coreT_size (verOk_b c1)
    have hps : (preT v.pre).size ≤ 105 := by
      have := preT_size v.pre 20 h5
      omega
    simp
    rw [e1, e2, e3]
    refine vcall_go (implDec_fx hE hZ a (by omega)) (by simp) (by simp) (by simp) (by simp) ?_
    simp
    refine ⟨by omega, ?_⟩
    refine vcall_go (implDec_fx hE hZ b (by omega)) (by simp) (by simp) (by simp) (by simp) ?_
    simp
    refine ⟨by omega, by omega, ?_⟩
    refine vcall_go (implDec_fx hE hZ c (by omega)) (by simp) (by simp) (by simp) (by simp) ?_
    simp
    refine ⟨by omega, ?_⟩
    rw [← hc]
    cases hpr : v.pre with
    | nil =>
      rw [hpr] at hv
      simp
      exact Fin_ret rfl (by rw [hv, preT, app_nil]; rfl)
    | cons p r =>
      have hj := joinB_pre p r
      rw [hpr] at hv hps h4
      have hjs : (joinB (p :: r) (by8 ".")).size ≤ 105 := by
        rw [hj]
        simp only [preT, ByteArray.size_append] at hps ⊢
        omega
      simp
      refine vcall_go (join_fx hE (p :: r) (by8 ".") (by omega) (by omega)) (by simp [ro]) (by simp) (by simp) (by simp) ?_
      simp
      refine ⟨by omega, by omega, ?_⟩
      exact Fin_ret rfl (by rw [hv, preT, hj]; simp [reC, ByteArray.append_assoc])
end
def cutC (c : UInt8) (s : ByteArray) : AV := .tup (if 0 ≤ Lib.indexB s (one c) then [.lit (.string (s.extract 0 (Lib.indexB s (one c)).toNat)), .lit (.string (s.extract ((Lib.indexB s (one c)).toNat + 1) s.size)), .lit (.bool true)] else [.lit (.string s), .lit (.string (by8 "")), .lit (.bool false)])
section
variable {E : Env} (hE : E.P = Go.Proofs.Tryz.prog) (hZ : ∀ w, E.K w → KZ w)
include hE hZ
theorem cut_fx (c : UInt8) (s : ByteArray) (hs : s.size < 4294967281) : Fx E 56 [] [.lit (.string s), .lit (.string (one c))] [] (cutC c s) := by
  have hres : resOk (cutC c s) = true := by unfold cutC; split <;> rfl
  have hrel : ∀ x base, Rel x base (.tuple #[.string ⟨(Lib.cut s.data.toList (one c).data.toList).1.toArray⟩, .string ⟨(Lib.cut s.data.toList (one c).data.toList).2.1.toArray⟩, .bool (Lib.cut s.data.toList (one c).data.toList).2.2]) (cutC c s) := by
    intro x base
    have tup3 : ∀ (a b : ByteArray) (d : Bool), Rel x base (.tuple #[.string a, .string b, .bool d]) (.tup [.lit (.string a), .lit (.string b), .lit (.bool d)]) := by
      intro a b d
      refine .tup _ _ rfl fun j v e hv he => ?_
      match j with
      | 0 => obtain rfl := Option.some.inj hv; obtain rfl := Option.some.inj he; exact .lit _ rfl
      | 1 => obtain rfl := Option.some.inj hv; obtain rfl := Option.some.inj he; exact .lit _ rfl
      | 2 => obtain rfl := Option.some.inj hv; obtain rfl := Option.some.inj he; exact .lit _ rfl
      | j + 3 => simp at he
    rcases idx_cases c s with ⟨h, _⟩ | ⟨i, _, _, _, h⟩
    · obtain ⟨q1, q2, q3⟩ := Lib.cutB_miss s (one c) h
      rw [q1, q2, q3, cutC, h, ← ba_nil]
      exact tup3 _ _ _
    · obtain ⟨q1, q2, q3⟩ := Lib.cutB_hit s (one c) i h
      rw [q1, q2, q3, cutC, h, if_pos (by omega)]
      exact tup3 _ _ _
  refine Fx_res (args := [.string s, .string (one c)]) hres hrel fun w hw => ?_
  rw [hE]
  obtain ⟨m, hm⟩ := (hZ w hw).maxl
  refine (Go.Proofs.Tryz.strings_Cut s (one c) m w hs hm).mono ?_
  rintro e w' ⟨rfl, n, rfl⟩
  exact ⟨rfl, ⟨rfl, rfl, rfl, Nat.le_refl _, fun _ _ => rfl⟩⟩
set_option maxHeartbeats 2000000 in
theorem implReadVer_fx (s : ByteArray) (hs : s.size ≤ 1099511627) : Fx E 114 [] [.lit (.string s)] [] (verRes s) := by
  have e45 : by8 "-" = one 45 := by decide +kernel
  have e46 : by8 "." = one 46 := by decide +kernel
  refine (is114.to hE).fx [] (by simp) rfl (verRes_ok s) ?_
  simp [v114, okC, putElem, upd, fill]
  rw [e45, e46]
  refine vcall_go (cut_fx hE hZ 45 s (by omega)) (by simp) (by simp) (by simp) (by simp) ?_
  obtain ⟨core, hcore⟩ : ∃ core, coreS s = core := ⟨_, rfl⟩
  obtain ⟨pre, hpre⟩ : ∃ pre, preS s = pre := ⟨_, rfl⟩
  obtain ⟨ap, hap⟩ : ∃ ap, apS s = ap := ⟨_, rfl⟩
  have hcz : core.size ≤ s.size := hcore ▸ coreS_size s
  have hpl : pre.length ≤ s.size + 1 := hpre ▸ preS_len s
  have hpz : ∀ p ∈ pre, p.size ≤ s.size := fun p hp => preS_size (hpre ▸ hp)
  rcases idx_cases 45 s with ⟨h1, _⟩ | ⟨i, hi, _, _, h2⟩
  have e0 : cutC 45 s = .tup [.lit (.string core), .lit (.string (by8 "")), .lit (.bool false)] := by rw [cutC, h1, ← hcore, coreS, dashI, h1]; rfl
  have e2 : pre = [] := by rw [← hpre, preS, dashI, h1]; rfl
  have e3 : ap = .nl := by rw [← hap, apS, dashI, h1]; rfl
  rw [e0]
  obtain ⟨hs', hsr⟩ : ∃ b : Bool, b = false := ⟨_, rfl⟩
  rotate_left
  have e0 : cutC 45 s = .tup [.lit (.string core), .lit (.string (s.extract (i + 1) s.size)), .lit (.bool true)] := by rw [cutC, h2, ← hcore, coreS, dashI, h2, if_pos (by omega), if_pos (by omega)]; rfl
  have e2 : spl 46 (s.extract (i + 1) s.size) = pre := by rw [← hpre, preS, dashI, h2, if_pos (by omega)]; rfl
  have e3 : ap = .no := by rw [← hap, apS, dashI, h2, if_pos (by omega)]
  have hsplit := split_fx hE hZ (s.extract (i + 1) s.size) (one 46) (by rw [ext_size]; omega) (by decide)
  rw [show spB (one 46) (s.extract (i + 1) s.size) = pre from e2] at hsplit
  rw [e0]
  rotate_left
  all_goals
    simp
    refine vcall_go (split_fx hE hZ core (one 46) (by omega) (by decide)) (by simp) (by simp) (by simp) (by simp) ?_
    rw [show spB (one 46) core = spl 46 core from rfl]
    have hpz' : ∀ (i : Nat) (p : ByteArray), (spl 46 core)[i]? = some p → p.size ≤ s.size := fun i p h => by have := spl_size h; omega
    have hcand : cand s = mk3 pre (spl 46 core) := by rw [cand, hcore, hpre]
    obtain ⟨ps, hps⟩ : ∃ ps, spl 46 core = ps := ⟨_, rfl⟩
    rw [hps] at hpz' hcand ⊢
    simp
    by_cases hl3 : ps.length = 3
    · obtain ⟨a, b, c, rfl⟩ : ∃ a b c, ps = [a, b, c] := by
        match ps, hl3 with
        | [a, b, c], _ => exact ⟨a, b, c, rfl⟩
      have hca : cand s = some ⟨readDec a, readDec b, readDec c, pre⟩ := hcand
      have za := hpz' 0 a rfl
      have zb := hpz' 1 b rfl
      have zc := hpz' 2 c rfl
      simp [mkF]
      refine vcall_go (implReadDec_fx hE hZ a (by omega)) (by simp) (by simp) (by simp) (by simp) ?_
      simp [okC, putElem, upd, mkF]
      refine vcall_go (implReadDec_fx hE hZ b (by omega)) (by simp) (by simp) (by simp) (by simp) ?_
      simp [okC, putElem, upd, mkF]
      refine vcall_go (implReadDec_fx hE hZ c (by omega)) (by simp) (by simp) (by simp) (by simp) ?_
      simp [okC, putElem, upd, mkF, fill]
      first
        | (refine vcall_go hsplit (by simp) (by simp) (by simp) (by simp) ?_; simp [okC, putElem, upd, mkF, fill])
        | skip
      refine vcall_go (implVerT_fx hE hZ ⟨readDec a, readDec b, readDec c, pre⟩ (by simp; omega) (fun p hp => by have := hpz p hp; omega)) (by simp [Ver.av, ro, e2]) (by simp) (by simp) (by simp) ?_
      simp
      by_cases hv : verT ⟨readDec a, readDec b, readDec c, pre⟩ = s
      · have hr : verRes s = verSome ap ⟨readDec a, readDec b, readDec c, pre⟩ := by rw [verRes, readVer, hca]; simp [hv, hap]
        rw [hr]
        have hne : ¬ s = by8 "" := by
          rintro rfl
          have h3 := spl_len_le 46 core
          rw [hps] at h3
          have h4 : (by8 "").size = 0 := by decide +kernel
          simp at h3
          omega
        simp [hv, hne, okC, putElem, upd]
        exact Fin_ret2 rfl (by simp [verSome, e2, e3, reC, reC.reL])
      · have hr : verRes s = verNone := by rw [verRes, readVer, hca]; simp [hv]
        rw [hr]
        simp [hv, okC, putElem, upd, fill]
        exact Fin_ret2 rfl rfl
    · have hl3' : ¬ (ps.length : Int) = 3 := by omega
      have hr : verRes s = verNone := by
        rw [verRes, readVer, hcand, mk3_none hl3]; rfl
      rw [hr]
      simp [hl3', okC, putElem, upd, fill]
      exact Fin_ret2 rfl rfl
noncomputable def isVer (s : ByteArray) : Bool := (readVer s).isSome
theorem isVersion_fx (s : ByteArray) (hs : s.size ≤ 1099511627) : Fx E 46 [] [.lit (.string s)] [] (.lit (.bool (isVer s))) := by
  refine (is46.to hE).fx [] (by simp) rfl rfl ?_
  simp [v46]
  refine vcall_go (implReadVer_fx hE hZ s hs) (by simp) (by simp) (by simp) (by simp) ?_
  unfold isVer verRes
  cases readVer s with
  | none =>
    simp [verNone, okC, putElem, upd]
    exact Fin_ret rfl rfl
  | some v =>
    rcases apS_cases s with h | h
    · simp [verSome, okC, putElem, upd, h]
      exact Fin_ret rfl rfl
    · simp [verSome, okC, putElem, upd, h]
      exact Fin_ret rfl rfl
end
end Go.Proofs.YtgegcfhifojjiaaGreatDoor.Vm
