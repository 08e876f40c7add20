/- Versions: the model; spec's VersionOk. -/
import Derived.Test.YtgegcfhifojjiaaDoorNl
namespace Go.Proofs.YtgegcfhifojjiaaDoor.Vm
open Go Go.RowKit
set_option linter.unusedVariables false
set_option linter.unusedSimpArgs false
def v152 : VC := .seq (.reg false [⟨some 2, .as (.c (.lit (.bool false))), none⟩] [2]) (.seq (.seq (.reg false [⟨some 3, .as (.c (.lit (.int .i64 0))), none⟩] []) (.block 0 (.loop (.seq (.seq (.reg false [⟨some 4, .mv (.t 3), none⟩, ⟨some 5, .mv (.t 0), none⟩, ⟨some 6, .len true (.t 5), none⟩, ⟨some 7, .bin .lss 0 (.t 4) (.t 6), none⟩] [4, 5, 6]) (.cond (.t 7) (.skip) (.exit 0))) (.seq (.block 1 (.seq (.reg false [⟨some 10, .mv (.t 0), none⟩, ⟨some 11, .mv (.t 3), none⟩, ⟨some 12, .idx (.t 10) (.t 11), none⟩, ⟨some 13, .call false 88 [(.t 12)], none⟩, ⟨some 14, .un .not (.t 13), none⟩, ⟨some 15, .mv (.t 14), none⟩, ⟨some 16, .mv (.t 0), (some (15, true))⟩, ⟨some 17, .mv (.t 3), (some (15, true))⟩, ⟨some 18, .idx (.t 16) (.t 17), (some (15, true))⟩, ⟨some 19, .call false 159 [(.t 18)], (some (15, true))⟩, ⟨some 20, .un .not (.t 19), (some (15, true))⟩, ⟨some 21, .pick (.t 15) (.t 20) (.c (.lit (.bool false))), none⟩, ⟨some 22, .mv (.t 21), none⟩, ⟨some 23, .mv (.t 0), (some (22, true))⟩, ⟨some 24, .mv (.t 3), (some (22, true))⟩, ⟨some 25, .idx (.t 23) (.t 24), (some (22, true))⟩, ⟨some 26, .bin .neq 0 (.t 25) (.c (.lit (.int .u8 45))), (some (22, true))⟩, ⟨some 27, .pick (.t 22) (.t 26) (.c (.lit (.bool false))), none⟩] [10, 11, 12, 13, 14, 15, 16, 17, 18, 19, 20, 21, 22, 23, 24, 25, 26]) (.cond (.t 27) (.seq (.reg false [⟨some 2, .as (.c (.lit (.bool false))), none⟩] []) (.ret)) (.skip)))) (.reg false [⟨some 8, .mv (.t 3), none⟩, ⟨some 9, .bin .add 0 (.t 8) (.c (.lit (.int .i64 1))), none⟩, ⟨some 3, .as (.t 9), none⟩] [8, 9])))))) (.seq (.reg false [⟨some 28, .mv (.t 0), none⟩, ⟨some 29, .len true (.t 28), none⟩, ⟨some 30, .call false 79 [(.t 29), (.c (.lit (.int .i64 1))), (.c (.lit (.int .i64 20)))], none⟩, ⟨some 31, .mv (.t 30), none⟩, ⟨some 32, .mv (.t 0), (some (31, true))⟩, ⟨some 33, .call false 160 [(.t 32)], (some (31, true))⟩, ⟨some 34, .un .not (.t 33), (some (31, true))⟩, ⟨some 35, .mv (.t 34), (some (31, true))⟩, ⟨some 36, .mv (.t 0), (some (35, false))⟩, ⟨some 37, .call false 80 [(.t 36)], (some (35, false))⟩, ⟨some 38, .bin .geq 0 (.t 37) (.c (.lit (.int .i64 0))), (some (35, false))⟩, ⟨some 39, .pick (.t 35) (.c (.lit (.bool true))) (.t 38), (some (31, true))⟩, ⟨some 40, .pick (.t 31) (.t 39) (.c (.lit (.bool false))), none⟩, ⟨some 2, .as (.t 40), none⟩] [28, 29, 30, 31, 32, 33, 34, 35, 36, 37, 38, 39, 40]) (.ret)))
theorem is152 : Is Go.Proofs.Tryd.prog 152 41 v152 [.t 2] := ⟨Go.Proofs.Tryd.f152, dl [(0, [2]), (2, [4, 5, 6]), (4, [10, 11, 12, 13, 14, 15, 16, 17, 18, 19, 20, 21, 22, 23, 24, 25, 26]), (3, [8, 9]), (6, [28, 29, 30, 31, 32, 33, 34, 35, 36, 37, 38, 39, 40])], Go.Proofs.Tryd.func152, by kernel_rfl, by kernel_rfl, by kernel_rfl, by kernel_rfl⟩
def v143 : VC := .seq (.reg false [⟨some 1, .box 4 (.t 0), none⟩, ⟨some 2, .as (.c (.lit (.bool false))), none⟩] [2]) (.seq (.seq (.reg false [⟨some 3, .as (.c (.lit (.int .i64 0))), none⟩] []) (.block 0 (.loop (.seq (.seq (.reg false [⟨some 4, .mv (.t 3), none⟩, ⟨some 5, .fa 3 (.t 1), none⟩, ⟨some 6, .ld false 1 (.t 5), none⟩, ⟨some 7, .len false (.t 6), none⟩, ⟨some 8, .bin .lss 0 (.t 4) (.t 7), none⟩] [4, 5, 6, 7]) (.cond (.t 8) (.skip) (.exit 0))) (.seq (.block 1 (.seq (.reg false [⟨some 11, .fa 3 (.t 1), none⟩, ⟨some 12, .ld false 1 (.t 11), none⟩, ⟨some 13, .mv (.t 3), none⟩, ⟨some 14, .ia 1 (.t 12) (.t 13), none⟩, ⟨some 15, .ld false 1 (.t 14), none⟩, ⟨some 16, .call false 152 [(.t 15)], none⟩, ⟨some 17, .un .not (.t 16), none⟩] [11, 12, 13, 14, 15, 16]) (.cond (.t 17) (.seq (.reg false [⟨some 2, .as (.c (.lit (.bool false))), none⟩] []) (.ret)) (.skip)))) (.reg false [⟨some 9, .mv (.t 3), none⟩, ⟨some 10, .bin .add 0 (.t 9) (.c (.lit (.int .i64 1))), none⟩, ⟨some 3, .as (.t 10), none⟩] [9, 10])))))) (.seq (.reg false [⟨some 18, .fa 0 (.t 1), none⟩, ⟨some 19, .ld false 1 (.t 18), none⟩, ⟨some 20, .call false 79 [(.t 19), (.c (.lit (.int .i64 0))), (.c (.lit (.int .i64 999999999)))], none⟩, ⟨some 21, .mv (.t 20), none⟩, ⟨some 22, .fa 1 (.t 1), (some (21, true))⟩, ⟨some 23, .ld false 1 (.t 22), (some (21, true))⟩, ⟨some 24, .call false 79 [(.t 23), (.c (.lit (.int .i64 0))), (.c (.lit (.int .i64 999999999)))], (some (21, true))⟩, ⟨some 25, .pick (.t 21) (.t 24) (.c (.lit (.bool false))), none⟩, ⟨some 26, .mv (.t 25), none⟩, ⟨some 27, .fa 2 (.t 1), (some (26, true))⟩, ⟨some 28, .ld false 1 (.t 27), (some (26, true))⟩, ⟨some 29, .call false 79 [(.t 28), (.c (.lit (.int .i64 0))), (.c (.lit (.int .i64 999999999)))], (some (26, true))⟩, ⟨some 30, .pick (.t 26) (.t 29) (.c (.lit (.bool false))), none⟩, ⟨some 31, .mv (.t 30), none⟩, ⟨some 32, .fa 3 (.t 1), (some (31, true))⟩, ⟨some 33, .ld false 1 (.t 32), (some (31, true))⟩, ⟨some 34, .len false (.t 33), (some (31, true))⟩, ⟨some 35, .bin .leq 0 (.t 34) (.c (.lit (.int .i64 5))), (some (31, true))⟩, ⟨some 36, .pick (.t 31) (.t 35) (.c (.lit (.bool false))), none⟩, ⟨some 2, .as (.t 36), none⟩] [18, 19, 20, 21, 22, 23, 24, 25, 26, 27, 28, 29, 30, 31, 32, 33, 34, 35, 36]) (.ret)))
theorem is143 : Is Go.Proofs.Tryd.prog 143 37 v143 [.t 2] := ⟨Go.Proofs.Tryd.f143, dl [(0, [2]), (2, [4, 5, 6, 7]), (4, [11, 12, 13, 14, 15, 16]), (3, [9, 10]), (6, [18, 19, 20, 21, 22, 23, 24, 25, 26, 27, 28, 29, 30, 31, 32, 33, 34, 35, 36])], Go.Proofs.Tryd.func143, by kernel_rfl, by kernel_rfl, by kernel_rfl, by kernel_rfl⟩
structure Ver where
  maj : Int
  min : Int
  pat : Int
  pre : List ByteArray
def Ver.av (v : Ver) : List AV := [.lit (.int .i64 v.maj), .lit (.int .i64 v.min), .lit (.int .i64 v.pat), .sl ro 1 (v.pre.map fun x => .lit (.string x))]
theorem Ver.pl (v : Ver) : PlL v.av := by simp [Ver.av]
noncomputable def preOk (p : ByteArray) : Bool := allB preB p && inR p.size 1 20 && (!numB p || decide (0 ≤ readDec p))
noncomputable def verOk (v : Ver) : Bool := v.pre.all preOk && inR v.maj 0 999999999 && inR v.min 0 999999999 && inR v.pat 0 999999999 && decide (v.pre.length ≤ 5)
theorem all_false {α : Type} {p : α → Bool} {l : List α} {i : Nat} (h : i < l.length) (hp : p l[i] = false) : l.all p = false := by
  rw [List.all_eq_false]; exact ⟨l[i], List.getElem_mem h, by simp [hp]⟩
theorem all_true {α : Type} {p : α → Bool} {l : List α} (h : ∀ (i : Nat) (x : α), l[i]? = some x → p x = true) : l.all p = true := by
  rw [List.all_eq_true]; intro x hx
  obtain ⟨i, hi, rfl⟩ := List.getElem_of_mem hx
  exact h i _ (List.getElem?_eq_getElem hi)
section
variable {E : Env} (hE : E.P = Go.Proofs.Tryd.prog)
include hE
set_option maxHeartbeats 1000000 in
theorem l02Pre_fx (s : ByteArray) (hs : s.size ≤ 9223372036854775806) : Fx E 152 [] [.lit (.string s)] [] (.lit (.bool (preOk s))) := by
  refine (is152.to hE).fx [] (by simp) rfl rfl ?_
  simp [v152]
  refine X_loop (τ := Nat) (fun i => ⟨[(0, .lit (.string s)), (3, .lit (.int .i64 i))], []⟩) (fun i => i ≤ s.size ∧ ∀ k, k < i → preB (bt s k) = true) (fun i => s.size - i) 0 (by simp) (Wk.both (by simp [wkL, wkV.same]) trivial) ?_
  rintro i ⟨hi, hall⟩
  simp
  by_cases hlt : i < s.size
  · simp [hlt]
    have next : preB (bt s i) = true → ∃ j, (j ≤ s.size ∧ ∀ k, k < j → preB (bt s k) = true) ∧ s.size - j < s.size - i ∧ j = i + 1 := fun hk => ⟨i + 1, ⟨by omega, fun k hk' => by
      rcases Nat.lt_succ_iff_lt_or_eq.1 hk' with h | rfl
      · exact hall k h
      · exact hk⟩, by omega, rfl⟩
    have no : preB (bt s i) = false → preOk s = false := fun h => by simp [preOk, allB_false hlt h]
    refine vcall_go (l01Letter_fx hE (bt s i)) (by simp) (by simp) (by simp) (by simp) ?_
    simp
    cases c1 : letB (bt s i)
    · simp [hlt]
      refine vcall_go (l01Great_fx hE (bt s i)) (by simp) (by simp) (by simp) (by simp) ?_
      simp
      cases c2 : grB (bt s i)
      · simp [hlt]
        by_cases c3 : ((bt s i).toNat : Int) = 45
        · simp [c3]
          obtain ⟨j, h1, h2, rfl⟩ := next (by simp [preB, isB, c3])
          exact ⟨_, h1, h2, Wk.both (by simp [wkL, wkV.same]; rw [wrapN (by omega)]; exact wkV.same _) trivial⟩
        · have := no (by simp [preB, isB, c1, c2, c3])
          simp [c3]
          exact Fin_ret rfl (by rw [this]; rfl)
      · simp
        obtain ⟨j, h1, h2, rfl⟩ := next (by simp [preB, c2])
        exact ⟨_, h1, h2, Wk.both (by simp [wkL, wkV.same]; rw [wrapN (by omega)]; exact wkV.same _) trivial⟩
    · simp
      obtain ⟨j, h1, h2, rfl⟩ := next (by simp [preB, c1])
      exact ⟨_, h1, h2, Wk.both (by simp [wkL, wkV.same]; rw [wrapN (by omega)]; exact wkV.same _) trivial⟩
  · simp [hlt]
    have hp : allB preB s = true := allB_true fun k hk => hall k (by omega)
    refine vcall_go (l01In_fx hE s.size 1 20) (by simp) (by simp) (by simp) (by simp) ?_
    simp
    cases c1 : inR s.size 1 20
    · simp
      exact Fin_ret rfl (by simp [preOk, c1, reC])
    · simp
      refine vcall_go (l02Digits_fx hE s hs) (by simp) (by simp) (by simp) (by simp) ?_
      simp
      cases c2 : numB s
      · simp
        exact Fin_ret rfl (by simp [preOk, c1, c2, hp, reC])
      · simp
        refine vcall_go (specReadDec_fx hE s hs) (by simp) (by simp) (by simp) (by simp) ?_
        simp
        exact Fin_ret rfl (by simp [preOk, c1, c2, hp, reC])
set_option maxHeartbeats 1000000 in
theorem specVerOk_fx (v : Ver) (hl : v.pre.length ≤ 4294967296) (hp : ∀ p ∈ v.pre, p.size ≤ 9223372036854775806) : Fx E 143 [] [.agg v.av] [] (.lit (.bool (verOk v))) := by
  have hav : v.av = [.lit (.int .i64 v.maj), .lit (.int .i64 v.min), .lit (.int .i64 v.pat), .sl ro 1 (v.pre.map fun x => .lit (.string x))] := rfl
  refine (is143.to hE).fx [] (by simp) rfl rfl ?_
  simp [v143, hav, okC]
  refine X_loop (τ := Nat) (fun i => ⟨[(1, .ptr 1001 0 0), (3, .lit (.int .i64 i))], [(1001, [.agg v.av])]⟩) (fun i => i ≤ v.pre.length ∧ ∀ (k : Nat) (x : ByteArray), k < i → v.pre[k]? = some x → preOk x = true) (fun i => v.pre.length - i) 0 (by simp) (Wk.both (by simp [wkL, wkV.same]) (by simp [wkB, hav])) ?_
  rintro i ⟨hi, hall⟩
  simp [hav]
  by_cases hlt : i < v.pre.length
  · simp [hlt, mkF]
    refine vcall_go (l02Pre_fx hE v.pre[i] (hp _ (List.getElem_mem hlt))) (by simp) (by simp) (by simp) (by simp) ?_
    simp
    cases c1 : preOk v.pre[i]
    · simp
      exact Fin_ret rfl (by simp only [verOk, all_false hlt c1]; rfl)
    · simp
      refine ⟨i + 1, ⟨by omega, fun k x hk hx => ?_⟩, by omega, Wk.both (by simp [wkL, wkV.same]; rw [wrapN (by omega)]; exact wkV.same _) (by simp [wkB, hav])⟩
      rcases Nat.lt_succ_iff_lt_or_eq.1 hk with h | rfl
      · exact hall k x h hx
      · rw [List.getElem?_eq_getElem hlt] at hx; rw [← Option.some.inj hx]; exact c1
  · simp [hlt]
    have hpre : v.pre.all preOk = true := all_true fun k x hx => hall k x (by have := (List.getElem?_eq_some_iff.1 hx).1; omega) hx
    refine vcall_go (l01In_fx hE v.maj 0 999999999) (by simp) (by simp) (by simp) (by simp) ?_
    simp
    cases c1 : inR v.maj 0 999999999
    · simp
      exact Fin_ret rfl (by simp [verOk, c1, reC])
    · simp
      refine vcall_go (l01In_fx hE v.min 0 999999999) (by simp) (by simp) (by simp) (by simp) ?_
      simp
      cases c2 : inR v.min 0 999999999
      · simp
        exact Fin_ret rfl (by simp [verOk, c1, c2, reC])
      · simp
        refine vcall_go (l01In_fx hE v.pat 0 999999999) (by simp) (by simp) (by simp) (by simp) ?_
        simp
        cases c3 : inR v.pat 0 999999999
        · simp
          exact Fin_ret rfl (by simp [verOk, c1, c2, c3, reC])
        · simp
          exact Fin_ret rfl (by simp [verOk, c1, c2, c3, hpre, reC]; omega)
end
end Go.Proofs.YtgegcfhifojjiaaDoor.Vm
