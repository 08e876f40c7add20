/- The laws' marks of graphs. -/
import Derived.Test.YticamghmcikfcaaMt
import Derived.Test.YticamghmcikfcaaGd
namespace Go.Proofs.Yticamghmcikfcaa.Vm
open Go Go.RowKit
set_option linter.unusedVariables false
set_option linter.unusedSimpArgs false
def v39 : VC := .seq (.reg false [⟨some 4, .as (.c (.lit (.int .i64 0))), none⟩] [4]) (.seq (.seq (.reg false [⟨some 5, .as (.c (.lit (.int .i64 0))), none⟩] []) (.block 0 (.loop (.seq (.seq (.reg false [⟨some 6, .mv (.t 5), none⟩, ⟨some 7, .mv (.t 0), none⟩, ⟨some 8, .len false (.t 7), none⟩, ⟨some 9, .bin .lss 0 (.t 6) (.t 8), none⟩] [6, 7, 8]) (.cond (.t 9) (.skip) (.exit 0))) (.seq (.block 1 (.seq (.reg false [⟨some 12, .mv (.t 0), none⟩, ⟨some 13, .mv (.t 5), none⟩, ⟨some 14, .mv (.t 1), none⟩, ⟨some 15, .call false 28 [(.t 14)], none⟩, ⟨some 16, .ia 2 (.t 12) (.t 13), none⟩, ⟨some 17, .fa 0 (.t 16), none⟩, ⟨none, .st 1 (.t 17) (.t 15), none⟩] [12, 13, 14, 15, 16, 17]) (.seq (.reg false [⟨some 18, .mv (.t 1), none⟩, ⟨some 19, .bin .add 0 (.t 18) (.c (.lit (.int .i64 1))), none⟩, ⟨some 1, .as (.t 19), none⟩] [18, 19]) (.seq (.reg false [⟨some 20, .mv (.t 0), none⟩, ⟨some 21, .mv (.t 5), none⟩, ⟨some 22, .mv (.t 1), none⟩, ⟨some 23, .call false 28 [(.t 22)], none⟩, ⟨some 24, .ia 2 (.t 20) (.t 21), none⟩, ⟨some 25, .fa 1 (.t 24), none⟩, ⟨none, .st 1 (.t 25) (.t 23), none⟩] [20, 21, 22, 23, 24, 25]) (.reg false [⟨some 26, .mv (.t 1), none⟩, ⟨some 27, .bin .add 0 (.t 26) (.c (.lit (.int .i64 1))), none⟩, ⟨some 1, .as (.t 27), none⟩] [26, 27]))))) (.reg false [⟨some 10, .mv (.t 5), none⟩, ⟨some 11, .bin .add 0 (.t 10) (.c (.lit (.int .i64 1))), none⟩, ⟨some 5, .as (.t 11), none⟩] [10, 11])))))) (.seq (.reg false [⟨some 28, .mv (.t 1), none⟩, ⟨some 4, .as (.t 28), none⟩] [28]) (.ret)))
theorem is39 : Is Go.Proofs.Try.prog 39 29 v39 [.t 4] := ⟨Go.Proofs.Try.f39, dl [(0, [4]), (2, [6, 7, 8]), (4, [12, 13, 14, 15, 16, 17]), (5, [18, 19]), (6, [20, 21, 22, 23, 24, 25]), (7, [26, 27]), (3, [10, 11]), (8, [28])], Go.Proofs.Try.func39, by kernel_rfl, by kernel_rfl, by kernel_rfl, by kernel_rfl⟩
def v27 : VC := .seq (.reg false [⟨some 4, .as (.c (.lit (.int .i64 0))), none⟩] [4]) (.seq (.seq (.reg false [⟨some 5, .as (.c (.lit (.int .i64 0))), none⟩] []) (.block 0 (.loop (.seq (.seq (.reg false [⟨some 6, .mv (.t 5), none⟩, ⟨some 7, .mv (.t 0), none⟩, ⟨some 8, .len false (.t 7), none⟩, ⟨some 9, .bin .lss 0 (.t 6) (.t 8), none⟩] [6, 7, 8]) (.cond (.t 9) (.skip) (.exit 0))) (.seq (.block 1 (.seq (.reg false [⟨some 12, .mv (.t 0), none⟩, ⟨some 13, .mv (.t 5), none⟩, ⟨some 14, .mv (.t 1), none⟩, ⟨some 15, .call false 28 [(.t 14)], none⟩, ⟨some 16, .ia 6 (.t 12) (.t 13), none⟩, ⟨some 17, .fa 0 (.t 16), none⟩, ⟨none, .st 1 (.t 17) (.t 15), none⟩] [12, 13, 14, 15, 16, 17]) (.seq (.reg false [⟨some 18, .mv (.t 1), none⟩, ⟨some 19, .bin .add 0 (.t 18) (.c (.lit (.int .i64 1))), none⟩, ⟨some 1, .as (.t 19), none⟩] [18, 19]) (.seq (.reg false [⟨some 20, .mv (.t 0), none⟩, ⟨some 21, .mv (.t 5), none⟩, ⟨some 22, .mv (.t 1), none⟩, ⟨some 23, .call false 28 [(.t 22)], none⟩, ⟨some 24, .ia 6 (.t 20) (.t 21), none⟩, ⟨some 25, .fa 1 (.t 24), none⟩, ⟨none, .st 1 (.t 25) (.t 23), none⟩] [20, 21, 22, 23, 24, 25]) (.seq (.reg false [⟨some 26, .mv (.t 1), none⟩, ⟨some 27, .bin .add 0 (.t 26) (.c (.lit (.int .i64 1))), none⟩, ⟨some 1, .as (.t 27), none⟩] [26, 27]) (.seq (.reg false [⟨some 28, .mv (.t 0), none⟩, ⟨some 29, .mv (.t 5), none⟩, ⟨some 30, .mv (.t 1), none⟩, ⟨some 31, .call false 28 [(.t 30)], none⟩, ⟨some 32, .ia 6 (.t 28) (.t 29), none⟩, ⟨some 33, .fa 2 (.t 32), none⟩, ⟨none, .st 1 (.t 33) (.t 31), none⟩] [28, 29, 30, 31, 32, 33]) (.seq (.reg false [⟨some 34, .mv (.t 1), none⟩, ⟨some 35, .bin .add 0 (.t 34) (.c (.lit (.int .i64 1))), none⟩, ⟨some 1, .as (.t 35), none⟩] [34, 35]) (.seq (.reg false [⟨some 36, .mv (.t 0), none⟩, ⟨some 37, .mv (.t 5), none⟩, ⟨some 38, .ia 6 (.t 36) (.t 37), none⟩, ⟨some 39, .fa 3 (.t 38), none⟩, ⟨some 40, .ld false 1 (.t 39), none⟩, ⟨some 41, .mv (.t 1), none⟩, ⟨some 42, .call false 39 [(.t 40), (.t 41)], none⟩, ⟨some 1, .as (.t 42), none⟩] [36, 37, 38, 39, 40, 41, 42]) (.seq (.reg false [⟨some 43, .mv (.t 0), none⟩, ⟨some 44, .mv (.t 5), none⟩, ⟨some 45, .mv (.t 1), none⟩, ⟨some 46, .bin .rem 0 (.t 45) (.c (.lit (.int .i64 3))), none⟩, ⟨some 47, .bin .eql 0 (.t 46) (.c (.lit (.int .i64 0))), none⟩, ⟨some 48, .ia 6 (.t 43) (.t 44), none⟩, ⟨some 49, .fa 4 (.t 48), none⟩, ⟨none, .st 1 (.t 49) (.t 47), none⟩] [43, 44, 45, 46, 47, 48, 49]) (.seq (.reg false [⟨some 50, .mv (.t 1), none⟩, ⟨some 51, .bin .add 0 (.t 50) (.c (.lit (.int .i64 1))), none⟩, ⟨some 1, .as (.t 51), none⟩] [50, 51]) (.reg false [⟨some 52, .mv (.t 0), none⟩, ⟨some 53, .mv (.t 5), none⟩, ⟨some 54, .ia 6 (.t 52) (.t 53), none⟩, ⟨some 55, .fa 5 (.t 54), none⟩, ⟨some 56, .ld false 1 (.t 55), none⟩, ⟨some 57, .mv (.t 1), none⟩, ⟨some 58, .call false 26 [(.t 56), (.t 57)], none⟩, ⟨some 1, .as (.t 58), none⟩] [52, 53, 54, 55, 56, 57, 58]))))))))))) (.reg false [⟨some 10, .mv (.t 5), none⟩, ⟨some 11, .bin .add 0 (.t 10) (.c (.lit (.int .i64 1))), none⟩, ⟨some 5, .as (.t 11), none⟩] [10, 11])))))) (.seq (.reg false [⟨some 59, .mv (.t 1), none⟩, ⟨some 4, .as (.t 59), none⟩] [59]) (.ret)))
theorem is27 : Is Go.Proofs.Try.prog 27 60 v27 [.t 4] := ⟨Go.Proofs.Try.f27, dl [(0, [4]), (2, [6, 7, 8]), (4, [12, 13, 14, 15, 16, 17]), (5, [18, 19]), (6, [20, 21, 22, 23, 24, 25]), (7, [26, 27]), (8, [28, 29, 30, 31, 32, 33]), (9, [34, 35]), (10, [36, 37, 38, 39, 40, 41, 42]), (11, [43, 44, 45, 46, 47, 48, 49]), (12, [50, 51]), (13, [52, 53, 54, 55, 56, 57, 58]), (3, [10, 11]), (14, [59])], Go.Proofs.Try.func27, by kernel_rfl, by kernel_rfl, by kernel_rfl, by kernel_rfl⟩
def v10 : VC := .seq (.reg false [⟨some 2, .box 2 (.t 0), none⟩, ⟨some 4, .as (.c (.lit (.int .i64 0))), none⟩] [4]) (.seq (.reg false [⟨some 5, .fa 0 (.t 2), none⟩, ⟨some 6, .ld false 1 (.t 5), none⟩, ⟨some 7, .mv (.t 1), none⟩, ⟨some 8, .call false 26 [(.t 6), (.t 7)], none⟩, ⟨some 1, .as (.t 8), none⟩] [5, 6, 7, 8]) (.seq (.reg false [⟨some 9, .fa 1 (.t 2), none⟩, ⟨some 10, .ld false 1 (.t 9), none⟩, ⟨some 11, .mv (.t 1), none⟩, ⟨some 12, .call false 27 [(.t 10), (.t 11)], none⟩, ⟨some 1, .as (.t 12), none⟩] [9, 10, 11, 12]) (.seq (.reg false [⟨some 13, .mv (.t 1), none⟩, ⟨some 4, .as (.t 13), none⟩] [13]) (.ret))))
theorem is10 : Is Go.Proofs.Try.prog 10 14 v10 [.t 4] := ⟨Go.Proofs.Try.f10, dl [(0, [4]), (1, [5, 6, 7, 8]), (2, [9, 10, 11, 12]), (3, [13])], Go.Proofs.Try.func10, by kernel_rfl, by kernel_rfl, by kernel_rfl, by kernel_rfl⟩
/-- packs as junk, and how many marks they take -/
def Sm.hv : List AV := [.un, .un]
def Pk.hv (p : Pk) : List AV := [.un, .un, .un, .hs 2 (p.sums.map fun _ => .agg Sm.hv), .un, .hs 1 (List.replicate p.needs.length .un)]
def Pk.cnt (p : Pk) : Nat := 2 * p.sums.length + p.needs.length + 4
def cntP : List Pk → Nat
  | [] => 0
  | f :: l => f.cnt + cntP l
theorem cntP_take : ∀ (l : List Pk) (i : Nat) (h : i < l.length), cntP (l.take (i + 1)) = cntP (l.take i) + l[i].cnt
  | [], i, h => by simp at h
  | x :: l, 0, h => by simp [cntP]
  | x :: l, i + 1, h => by
    have := cntP_take l i (by simpa using h)
    simp only [List.take_succ_cons, cntP, List.getElem_cons_succ]
    omega
theorem cntP_le : ∀ (l : List Pk) (i : Nat), cntP (l.take i) ≤ cntP l
  | [], i => by simp
  | x :: l, 0 => by simp [cntP]
  | x :: l, i + 1 => by
    have := cntP_le l i
    simp only [List.take_succ_cons, cntP]; omega
theorem cntP_small : ∀ (l : List Pk), (∀ p ∈ l, p.small) → cntP l ≤ 4194304 * l.length
  | [], _ => by simp [cntP]
  | x :: l, h => by
    have ih := cntP_small l fun p hp => h p (List.mem_cons_of_mem _ hp)
    obtain ⟨g1, g2, g3, ⟨g4, g5⟩, _, g6, _⟩ := h x List.mem_cons_self
    simp only [cntP, Pk.cnt, List.length_cons]; omega
def Gr.cnt (g : Gr) : Nat := g.top.length + cntP g.packs
theorem Gr.cnt_small {g : Gr} (h : g.small) : g.cnt ≤ 4398047559680 := by
  obtain ⟨⟨h1, _⟩, h2, h3⟩ := h
  have := cntP_small g.packs h3
  unfold Gr.cnt; omega
theorem hsL_sums (l : List Sm) : hsE.hsL (l.map fun x => AV.agg x.av) = l.map fun _ => AV.agg Sm.hv := by
  induction l with
  | nil => rfl
  | cons x l ih =>
    have e : hsE (AV.agg x.av) = AV.agg Sm.hv := by simp [hsE, hsE.hsL, Sm.av, Sm.hv]
    simp only [List.map_cons, hsE.hsL, e, ih]
theorem hsL_packs (l : List Pk) : hsE.hsL (l.map fun x => AV.agg x.av) = l.map fun x => AV.agg x.hv := by
  induction l with
  | nil => rfl
  | cons x l ih =>
    have e : hsE (AV.agg x.av) = AV.agg x.hv := by simp [hsE, hsE.hsL, Pk.av, Pk.hv, hsL_sums, hsL_strs]
    simp only [List.map_cons, hsE.hsL, e, ih]
section
variable {E : Env} (hE : E.P = Go.Proofs.Try.prog)
include hE
theorem markSumS_junk (l : List Sm) (k : Nat) (h0 : 0 < k) (hl : l.length ≤ 1048576) (hk : k + 2 * l.length ≤ 1152921504606846976) : Fx E 39 [] [.hs 2 (l.map fun _ => .agg Sm.hv), .lit (.int .i64 k)] [] (.lit (.int .i64 ((k : Int) + (2 * l.length : Nat)))) := by
  refine (is39.to hE).fx [] (by simp) rfl rfl ?_
  simp [v39]
  refine X_loop (τ := Nat) (fun i => ⟨[(0, .hs 2 (l.map fun _ => .agg Sm.hv)), (1, .lit (.int .i64 ((k + 2 * i : Nat) : Int))), (5, .lit (.int .i64 i))], []⟩) (fun i => i ≤ l.length) (fun i => l.length - i) 0 (by simp) (Wk.both (by simp [wkL, wkV.same]) trivial) ?_
  intro i hi
  simp
  by_cases hlt : i < l.length
  · have hav : Sm.hv = [.un, .un] := rfl
    simp [hlt]
    refine vcall_go (markText_fx hE (k + 2 * i) (by omega) (by omega)) (by simp) (by simp) (by simp) (by simp) ?_
    simp [hlt, hav, okC]
    rw [wrap_i64 (by omega) (by omega)]
    refine vcall_go (markText_fx hE (k + 2 * i + 1) (by omega) (by omega)) (by simp) (by simp) (by simp) (by simp) ?_
    simp [hlt, hav, okC]
    have e1 : IntKind.i64.wrap ((k : Int) + 2 * i + 1 + 1) = (k : Int) + 2 * (i + 1 : Nat) := by rw [wrap_i64 (by omega) (by omega)]; omega
    rw [e1]
    exact ⟨i + 1, by omega, by omega, Wk.both (by simp [wkL, wkV.same]; rw [wrapN (by omega)]; exact wkV.same _) trivial⟩
  · obtain rfl : i = l.length := by omega
    simp
    exact Fin_ret rfl (by simp [reC])
theorem markPackS_junk (l : List Pk) (k : Nat) (h0 : 0 < k) (hl : l.length ≤ 1048576) (hs : ∀ p ∈ l, p.sums.length ≤ 1048576) (hk : k + cntP l ≤ 1152921504606846976) : Fx E 27 [] [.hs 6 (l.map fun x => .agg x.hv), .lit (.int .i64 k)] [] (.lit (.int .i64 ((k : Int) + cntP l))) := by
  refine (is27.to hE).fx [] (by simp) rfl rfl ?_
  simp [v27]
  refine X_loop (τ := Nat) (fun i => ⟨[(0, .hs 6 (l.map fun x => .agg x.hv)), (1, .lit (.int .i64 ((k : Int) + cntP (l.take i)))), (5, .lit (.int .i64 i))], []⟩) (fun i => i ≤ l.length) (fun i => l.length - i) 0 (by simp) (Wk.both (by simp [wkL, wkV.same, cntP]) trivial) ?_
  intro i hi
  simp
  have hle := cntP_le l i
  by_cases hlt : i < l.length
  · have ht := cntP_take l i hlt
    have hle2 := cntP_le l (i + 1)
    have hcn : l[i].cnt = 2 * l[i].sums.length + l[i].needs.length + 4 := rfl
    have hav : l[i].hv = [.un, .un, .un, .hs 2 (l[i].sums.map fun _ => .agg Sm.hv), .un, .hs 1 (List.replicate l[i].needs.length .un)] := rfl
    obtain ⟨c, hc⟩ : ∃ c, k + cntP (l.take i) = c := ⟨_, rfl⟩
    have hc' : (k : Int) + cntP (l.take i) = c := by omega
    rw [hc']
    simp [hlt]
    refine vcall_go (markText_fx hE c (by omega) (by omega)) (by simp) (by simp) (by simp) (by simp) ?_
    simp [hlt, hav, okC]
    rw [wrap_i64 (by omega) (by omega)]
    refine vcall_go (markText_fx hE (c + 1) (by omega) (by omega)) (by simp) (by simp) (by simp) (by simp) ?_
    simp [hlt, hav, okC]
    rw [wrap_i64 (by omega) (by omega)]
    refine vcall_go (markText_fx hE (c + 1 + 1) (by omega) (by omega)) (by simp) (by simp) (by simp) (by simp) ?_
    simp [hlt, hav, okC]
    rw [wrap_i64 (by omega) (by omega)]
    refine vcall_go (markSumS_junk hE l[i].sums (c + 1 + 1 + 1) (by omega) (hs _ (List.getElem_mem hlt)) (by omega)) (by simp) (by simp) (by simp) (by simp) ?_
    simp [hlt, hav, okC]
    rw [wrap_i64 (i := (c : Int) + 1 + 1 + 1 + 2 * l[i].sums.length + 1) (by omega) (by omega)]
    refine vcall_go (markStr_junk hE l[i].needs.length (c + 1 + 1 + 1 + 2 * l[i].sums.length + 1) (by omega) (by omega)) (by simp) (by simp) (by simp) (by simp) ?_
    simp
    have e1 : (c : Int) + 1 + 1 + 1 + 2 * l[i].sums.length + 1 + l[i].needs.length = (k : Int) + cntP (l.take (i + 1)) := by omega
    rw [e1]
    exact ⟨i + 1, by omega, by omega, Wk.both (by simp [wkL, wkV.same]; rw [wrapN (by omega)]; exact wkV.same _) trivial⟩
  · obtain rfl : i = l.length := by omega
    simp
    exact Fin_ret rfl (by simp [reC])
theorem markGraph_junk (x : Gr) (k : Nat) (h0 : 0 < k) (hl : x.packs.length ≤ 1048576) (hs : ∀ p ∈ x.packs, p.sums.length ≤ 1048576) (hk : k + x.cnt ≤ 1152921504606846976) : Fx E 10 [] [.agg [.hs 1 (List.replicate x.top.length .un), .hs 6 (x.packs.map fun x => .agg x.hv)], .lit (.int .i64 k)] [] (.lit (.int .i64 ((k : Int) + x.cnt))) := by
  unfold Gr.cnt at hk ⊢
  refine (is10.to hE).fx [] (by simp) rfl rfl ?_
  simp [v10, okC]
  refine vcall_go (markStr_junk hE x.top.length k h0 (by omega)) (by simp) (by simp) (by simp) (by simp) ?_
  simp
  refine vcall_go (markPackS_junk hE x.packs (k + x.top.length) (by omega) hl hs (by omega)) (by simp) (by simp) (by simp) (by simp) ?_
  simp
  exact Fin_ret rfl (by simp [reC]; omega)
end
end Go.Proofs.Yticamghmcikfcaa.Vm
