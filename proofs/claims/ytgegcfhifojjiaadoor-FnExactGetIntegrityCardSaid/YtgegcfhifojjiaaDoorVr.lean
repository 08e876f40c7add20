/- Versions read: the model; spec's side. -/
import Derived.Test.YtgegcfhifojjiaaDoorVt
namespace Go.Proofs.YtgegcfhifojjiaaDoor.Vm
open Go Go.RowKit
set_option linter.unusedVariables false
set_option linter.unusedSimpArgs false
def v113 : VC := .seq (.reg false [⟨some 2, .alloc (.agg [(.lit (.int .i64 0)), (.lit (.int .i64 0)), (.lit (.int .i64 0)), (.sl ⟨.nl, true⟩ 1 [])]), none⟩, ⟨some 3, .as (.c (.lit (.bool false))), none⟩] [3]) (.seq (.reg false [⟨some 8, .bld [(.lit (.int .i64 0)), (.lit (.int .i64 0)), (.lit (.int .i64 0)), (.sl ⟨.nl, true⟩ 1 [])] [], none⟩, ⟨some 4, .alloc (.agg [(.lit (.int .i64 0)), (.lit (.int .i64 0)), (.lit (.int .i64 0)), (.sl ⟨.nl, true⟩ 1 [])]), none⟩, ⟨none, .st 4 (.t 4) (.t 8), none⟩] [8]) (.seq (.reg false [⟨some 9, .mv (.t 0), none⟩, ⟨some 5, .as (.t 9), none⟩] [9]) (.seq (.seq (.reg false [⟨some 10, .mv (.t 0), none⟩, ⟨some 11, .call false 16 [(.t 10), (.c (.lit (.int .u8 45)))], none⟩, ⟨some 6, .as (.t 11), none⟩] [10, 11]) (.seq (.reg false [⟨some 12, .mv (.t 6), none⟩, ⟨some 13, .bin .geq 0 (.t 12) (.c (.lit (.int .i64 0))), none⟩] [12]) (.cond (.t 13) (.seq (.reg false [⟨some 14, .mv (.t 0), none⟩, ⟨some 15, .mv (.t 6), none⟩, ⟨some 16, .slS (.t 14) none (some (.t 15)), none⟩, ⟨some 5, .as (.t 16), none⟩] [14, 15, 16]) (.reg false [⟨some 17, .mv (.t 0), none⟩, ⟨some 18, .mv (.t 6), none⟩, ⟨some 19, .bin .add 0 (.t 18) (.c (.lit (.int .i64 1))), none⟩, ⟨some 20, .slS (.t 17) (some (.t 19)) none, none⟩, ⟨some 21, .call false 39 [(.t 20), (.c (.lit (.int .u8 46)))], none⟩, ⟨some 22, .fa 3 (.t 4), none⟩, ⟨none, .st 1 (.t 22) (.t 21), none⟩] [17, 18, 19, 20, 21, 22])) (.skip)))) (.seq (.reg false [⟨some 23, .mv (.t 5), none⟩, ⟨some 24, .call false 39 [(.t 23), (.c (.lit (.int .u8 46)))], none⟩, ⟨some 7, .as (.t 24), none⟩] [23, 24]) (.seq (.seq (.reg false [⟨some 25, .mv (.t 7), none⟩, ⟨some 26, .len false (.t 25), none⟩, ⟨some 27, .bin .neq 0 (.t 26) (.c (.lit (.int .i64 3))), none⟩] [25, 26]) (.cond (.t 27) (.seq (.reg false [⟨some 28, .bld [(.lit (.int .i64 0)), (.lit (.int .i64 0)), (.lit (.int .i64 0)), (.sl ⟨.nl, true⟩ 1 [])] [], none⟩, ⟨none, .st 4 (.t 2) (.t 28), none⟩, ⟨some 3, .as (.c (.lit (.bool false))), none⟩] [28]) (.ret)) (.skip))) (.seq (.reg false [⟨some 29, .mv (.t 7), none⟩, ⟨some 30, .ia 1 (.t 29) (.c (.lit (.int .i64 0))), none⟩, ⟨some 31, .ld false 1 (.t 30), none⟩, ⟨some 32, .call false 80 [(.t 31)], none⟩, ⟨some 33, .fa 0 (.t 4), none⟩, ⟨none, .st 1 (.t 33) (.t 32), none⟩] [29, 30, 31, 32, 33]) (.seq (.reg false [⟨some 34, .mv (.t 7), none⟩, ⟨some 35, .ia 1 (.t 34) (.c (.lit (.int .i64 1))), none⟩, ⟨some 36, .ld false 1 (.t 35), none⟩, ⟨some 37, .call false 80 [(.t 36)], none⟩, ⟨some 38, .fa 1 (.t 4), none⟩, ⟨none, .st 1 (.t 38) (.t 37), none⟩] [34, 35, 36, 37, 38]) (.seq (.reg false [⟨some 39, .mv (.t 7), none⟩, ⟨some 40, .ia 1 (.t 39) (.c (.lit (.int .i64 2))), none⟩, ⟨some 41, .ld false 1 (.t 40), none⟩, ⟨some 42, .call false 80 [(.t 41)], none⟩, ⟨some 43, .fa 2 (.t 4), none⟩, ⟨none, .st 1 (.t 43) (.t 42), none⟩] [39, 40, 41, 42, 43]) (.seq (.seq (.reg false [⟨some 44, .ld true 4 (.t 4), none⟩, ⟨some 45, .call false 133 [(.t 44)], none⟩, ⟨some 46, .mv (.t 0), none⟩, ⟨some 47, .bin .neq 0 (.t 45) (.t 46), none⟩] [44, 45, 46]) (.cond (.t 47) (.seq (.reg false [⟨some 48, .bld [(.lit (.int .i64 0)), (.lit (.int .i64 0)), (.lit (.int .i64 0)), (.sl ⟨.nl, true⟩ 1 [])] [], none⟩, ⟨none, .st 4 (.t 2) (.t 48), none⟩, ⟨some 3, .as (.c (.lit (.bool false))), none⟩] [48]) (.ret)) (.skip))) (.seq (.reg false [⟨some 49, .ld true 4 (.t 4), none⟩, ⟨none, .st 4 (.t 2) (.t 49), none⟩, ⟨some 3, .as (.c (.lit (.bool true))), none⟩] [49]) (.ret)))))))))))
theorem is113 : Is Go.Proofs.Tryd.prog 113 50 v113 [.b 2 true 4, .t 3] := ⟨Go.Proofs.Tryd.f113, dl [(0, [3]), (1, [8]), (2, [9]), (3, [10, 11]), (4, [12]), (5, [14, 15, 16]), (6, [17, 18, 19, 20, 21, 22]), (7, [23, 24]), (8, [25, 26]), (9, [28]), (10, [29, 30, 31, 32, 33]), (11, [34, 35, 36, 37, 38]), (12, [39, 40, 41, 42, 43]), (13, [44, 45, 46]), (14, [48]), (15, [49])], Go.Proofs.Tryd.func113, by kernel_rfl, by kernel_rfl, by kernel_rfl, by kernel_rfl⟩
def dashI (s : ByteArray) : Int := Lib.indexB s (one 45)
def coreS (s : ByteArray) : ByteArray := if 0 ≤ dashI s then s.extract 0 (dashI s).toNat else s
def preS (s : ByteArray) : List ByteArray := if 0 ≤ dashI s then spl 46 (s.extract ((dashI s).toNat + 1) s.size) else []
def apS (s : ByteArray) : Ap := if 0 ≤ dashI s then .no else .nl
theorem apS_cases (s : ByteArray) : apS s = .no ∨ apS s = .nl := by unfold apS; split; exact .inl rfl; exact .inr rfl
noncomputable def mk3 (pre : List ByteArray) : List ByteArray → Option Ver
  | [a, b, c] => some ⟨readDec a, readDec b, readDec c, pre⟩
  | _ => none
theorem mk3_none {pre ps : List ByteArray} (h : ¬ ps.length = 3) : mk3 pre ps = none := by
  match ps, h with
  | [], _ => rfl
  | [_], _ => rfl
  | [_, _], _ => rfl
  | _ :: _ :: _ :: _ :: _, _ => rfl
  | [_, _, _], h => exact absurd rfl h
noncomputable def cand (s : ByteArray) : Option Ver := mk3 (preS s) (spl 46 (coreS s))
noncomputable def readVer (s : ByteArray) : Option Ver := (cand s).bind fun v => if verT v = s then some v else none
def verNone : AV := .tup [.agg [.lit (.int .i64 0), .lit (.int .i64 0), .lit (.int .i64 0), .sl ⟨.nl, true⟩ 1 []], .lit (.bool false)]
def verSome (ap : Ap) (v : Ver) : AV := .tup [.agg [.lit (.int .i64 v.maj), .lit (.int .i64 v.min), .lit (.int .i64 v.pat), .sl ⟨ap, true⟩ 1 (v.pre.map fun x => .lit (.string x))], .lit (.bool true)]
noncomputable def verRes (s : ByteArray) : AV := match readVer s with
  | some v => verSome (apS s) v
  | none => verNone
theorem verRes_ok (s : ByteArray) : resOk (verRes s) = true := by
  unfold verRes
  cases readVer s with
  | none => rfl
  | some v =>
    simp only [verSome, apS]
    split <;> rfl
theorem preS_size {s p : ByteArray} (h : p ∈ preS s) : p.size ≤ s.size := by
  unfold preS at h
  split at h
  · obtain ⟨i, hi, rfl⟩ := List.getElem_of_mem h
    have := spl_size (List.getElem?_eq_getElem hi)
    rw [ext_size] at this
    omega
  · simp at h
theorem preS_len (s : ByteArray) : (preS s).length ≤ s.size + 1 := by
  unfold preS
  split
  · have := spl_len_le 46 (s.extract ((dashI s).toNat + 1) s.size)
    rw [ext_size] at this
    omega
  · simp
theorem coreS_size (s : ByteArray) : (coreS s).size ≤ s.size := by
  unfold coreS
  split
  · rw [ext_size]; omega
  · omega
section
variable {E : Env} (hE : E.P = Go.Proofs.Tryd.prog)
include hE
set_option maxHeartbeats 2000000 in
theorem specReadVer_fx (s : ByteArray) (hs : s.size ≤ 1099511627) : Fx E 113 [] [.lit (.string s)] [] (verRes s) := by
  refine (is113.to hE).fx [] (by simp) rfl (verRes_ok s) ?_
  simp [v113, okC, putElem, upd, fill]
  refine vcall_go (l01At_fx hE s 45 (by omega)) (by simp) (by simp) (by simp) (by simp) ?_
  simp
  rw [show Lib.indexB s (one 45) = dashI s from rfl]
  obtain ⟨core, hcore⟩ : ∃ core, coreS s = core := ⟨_, rfl⟩
  obtain ⟨pre, hpre⟩ : ∃ pre, preS s = pre := ⟨_, rfl⟩
  obtain ⟨ap, hap⟩ : ∃ ap, apS s = ap := ⟨_, rfl⟩
  have hcz : core.size ≤ s.size := hcore ▸ coreS_size s
  have hpl : pre.length ≤ s.size + 1 := hpre ▸ preS_len s
  have hpz : ∀ p ∈ pre, p.size ≤ s.size := fun p hp => preS_size (hpre ▸ hp)
  rcases idx_cases 45 s with ⟨h1, _⟩ | ⟨i, h1, _, _, h2⟩
  have h1 : dashI s = -1 := h1
  have e1 : core = s := by rw [← hcore, coreS, h1]; rfl
  have e2 : pre = [] := by rw [← hpre, preS, h1]; rfl
  have e3 : ap = .nl := by rw [← hap, apS, h1]; rfl
  rw [h1]
  simp
  refine vcall_go (l01Cut_fx hE core 46 (by omega)) (by simp [e1]) (by simp) (by simp) (by simp) ?_
  rotate_left
  have h2 : dashI s = i := h2
  have e1 : s.extract 0 i = core := by rw [← hcore, coreS, h2, if_pos (by omega)]; rfl
  have e2 : spl 46 (s.extract (i + 1) s.size) = pre := by rw [← hpre, preS, h2, if_pos (by omega)]; rfl
  have e3 : ap = .no := by rw [← hap, apS, h2, if_pos (by omega)]
  have hi0 : (0 : Int) ≤ i := by omega
  rw [h2]
  simp [hi0]
  refine wh_h (h := i) rfl (by omega) (by omega) ?_
  simp
  rw [wrapN (by omega)]
  refine wh_l (l := (i + 1 : Nat)) rfl (by omega) (by omega) ?_
  simp
  refine vcall_go (l01Cut_fx hE (s.extract (i + 1) s.size) 46 (by rw [ext_size]; omega)) (by simp) (by simp) (by simp) (by simp) ?_
  rw [e2]
  simp [okC, putElem, upd]
  refine vcall_go (l01Cut_fx hE core 46 (by omega)) (by simp [e1]) (by simp) (by simp) (by simp) ?_
  rotate_left
  all_goals
    have hpz' : ∀ (i : Nat) (p : ByteArray), (spl 46 core)[i]? = some p → p.size ≤ s.size := fun i p h => by have := spl_size h; omega
    have hcand : cand s = mk3 pre (spl 46 core) := by rw [cand, hcore, hpre]
    obtain ⟨ps, hps⟩ : ∃ ps, spl 46 core = ps := ⟨_, rfl⟩
    rw [hps] at hpz' hcand ⊢
    simp
    by_cases hl3 : ps.length = 3
    · obtain ⟨a, b, c, rfl⟩ : ∃ a b c, ps = [a, b, c] := by
        match ps, hl3 with
        | [a, b, c], _ => exact ⟨a, b, c, rfl⟩
      have hca : cand s = some ⟨readDec a, readDec b, readDec c, pre⟩ := hcand
      have za := hpz' 0 a rfl
      have zb := hpz' 1 b rfl
      have zc := hpz' 2 c rfl
      simp [mkF]
      refine vcall_go (specReadDec_fx hE a (by omega)) (by simp) (by simp) (by simp) (by simp) ?_
      simp [okC, putElem, upd, mkF]
      refine vcall_go (specReadDec_fx hE b (by omega)) (by simp) (by simp) (by simp) (by simp) ?_
      simp [okC, putElem, upd, mkF]
      refine vcall_go (specReadDec_fx hE c (by omega)) (by simp) (by simp) (by simp) (by simp) ?_
      simp [okC, putElem, upd, mkF]
      refine vcall_go (specVerT_fx hE ⟨readDec a, readDec b, readDec c, pre⟩ (by simp; omega) (fun p hp => by have := hpz p hp; omega)) (by simp [Ver.av, ro, e2]) (by simp) (by simp) (by simp) ?_
      simp
      by_cases hv : verT ⟨readDec a, readDec b, readDec c, pre⟩ = s
      · have hr : verRes s = verSome ap ⟨readDec a, readDec b, readDec c, pre⟩ := by rw [verRes, readVer, hca]; simp [hv, hap]
        rw [hr]
        simp [hv, okC, putElem, upd]
        exact Fin_ret2 rfl (by simp [verSome, e2, e3, reC, reC.reL])
      · have hr : verRes s = verNone := by rw [verRes, readVer, hca]; simp [hv]
        rw [hr]
        simp [hv, okC, putElem, upd, fill]
        exact Fin_ret2 rfl rfl
    · have hl3' : ¬ (ps.length : Int) = 3 := by omega
      have hr : verRes s = verNone := by
        rw [verRes, readVer, hcand, mk3_none hl3]; rfl
      rw [hr]
      simp [hl3', okC, putElem, upd, fill]
      exact Fin_ret2 rfl rfl
end
end Go.Proofs.YtgegcfhifojjiaaDoor.Vm
