/- Unmet: both sides, the function itself. -/
import Derived.Test.YtpopccnnjpdmlaaUnS
namespace Go.Proofs.Ytpopccnnjpdmlaa.Vm
open Go Go.RowKit
set_option linter.unusedVariables false
set_option linter.unusedSimpArgs false
def v23 : VC := .seq (.reg false [⟨some 2, .as (.c (.sl ⟨.nl, true⟩ 1 [])), none⟩] [2]) (.seq (.reg false [⟨some 9, .bsl 2 [], none⟩, ⟨some 3, .as (.t 9), none⟩] [9]) (.seq (.seq (.reg false [⟨some 4, .as (.c (.lit (.int .i64 0))), none⟩] []) (.block 0 (.loop (.seq (.seq (.reg false [⟨some 10, .mv (.t 4), none⟩, ⟨some 11, .mv (.t 0), none⟩, ⟨some 12, .len false (.t 11), none⟩, ⟨some 13, .bin .lss 0 (.t 10) (.t 12), none⟩] [10, 11, 12]) (.cond (.t 13) (.skip) (.exit 0))) (.seq (.block 1 (.seq (.reg false [⟨some 5, .as (.c (.lit (.int .i64 0))), none⟩] []) (.block 2 (.loop (.seq (.seq (.reg false [⟨some 16, .mv (.t 5), none⟩, ⟨some 17, .mv (.t 0), none⟩, ⟨some 18, .mv (.t 4), none⟩, ⟨some 19, .ia 5 (.t 17) (.t 18), none⟩, ⟨some 20, .fa 4 (.t 19), none⟩, ⟨some 21, .ld false 1 (.t 20), none⟩, ⟨some 22, .len false (.t 21), none⟩, ⟨some 23, .bin .lss 0 (.t 16) (.t 22), none⟩] [16, 17, 18, 19, 20, 21, 22]) (.cond (.t 23) (.skip) (.exit 2))) (.seq (.block 3 (.seq (.reg false [⟨some 26, .mv (.t 0), none⟩, ⟨some 27, .mv (.t 4), none⟩, ⟨some 28, .ia 5 (.t 26) (.t 27), none⟩, ⟨some 29, .fa 4 (.t 28), none⟩, ⟨some 30, .ld false 1 (.t 29), none⟩, ⟨some 31, .mv (.t 5), none⟩, ⟨some 32, .ia 2 (.t 30) (.t 31), none⟩, ⟨some 33, .ld true 2 (.t 32), none⟩, ⟨some 6, .alloc (.agg [(.lit (.string (by8 ""))), (.lit (.string (by8 "")))]), none⟩, ⟨none, .st 2 (.t 6) (.t 33), none⟩] [26, 27, 28, 29, 30, 31, 32, 33]) (.seq (.reg false [⟨some 34, .mv (.t 0), none⟩, ⟨some 35, .ld true 2 (.t 6), none⟩, ⟨some 36, .call false 63 [(.t 34), (.t 35)], none⟩, ⟨some 37, .bin .geq 0 (.t 36) (.c (.lit (.int .i64 0))), none⟩, ⟨some 7, .as (.t 37), none⟩] [34, 35, 36, 37]) (.seq (.seq (.reg false [⟨some 8, .as (.c (.lit (.int .i64 0))), none⟩] []) (.block 4 (.loop (.seq (.seq (.reg false [⟨some 38, .mv (.t 8), none⟩, ⟨some 39, .mv (.t 3), none⟩, ⟨some 40, .len false (.t 39), none⟩, ⟨some 41, .bin .lss 0 (.t 38) (.t 40), none⟩] [38, 39, 40]) (.cond (.t 41) (.skip) (.exit 4))) (.seq (.block 5 (.reg true [⟨some 44, .mv (.t 7), none⟩, ⟨some 45, .mv (.t 44), none⟩, ⟨some 46, .mv (.t 3), (some (45, false))⟩, ⟨some 47, .mv (.t 8), (some (45, false))⟩, ⟨some 48, .ia 2 (.t 46) (.t 47), (some (45, false))⟩, ⟨some 49, .ld true 2 (.t 48), (some (45, false))⟩, ⟨some 50, .ld true 2 (.t 6), (some (45, false))⟩, ⟨some 51, .bin .eql 1 (.t 49) (.t 50), (some (45, false))⟩, ⟨some 52, .pick (.t 45) (.c (.lit (.bool true))) (.t 51), none⟩, ⟨some 7, .as (.t 52), none⟩] [44, 45, 46, 47, 48, 49, 50, 51, 52])) (.reg false [⟨some 42, .mv (.t 8), none⟩, ⟨some 43, .bin .add 0 (.t 42) (.c (.lit (.int .i64 1))), none⟩, ⟨some 8, .as (.t 43), none⟩] [42, 43])))))) (.seq (.reg false [⟨some 53, .mv (.t 7), none⟩, ⟨some 54, .un .not (.t 53), none⟩] [53]) (.cond (.t 54) (.reg false [⟨some 55, .mv (.t 3), none⟩, ⟨some 56, .ld true 2 (.t 6), none⟩, ⟨some 57, .bsl 2 [(.t 56)], none⟩, ⟨some 58, .app 2 32 (.t 55) (.t 57), none⟩, ⟨some 3, .as (.t 58), none⟩] [55, 56, 57, 58]) (.skip))))))) (.reg false [⟨some 24, .mv (.t 5), none⟩, ⟨some 25, .bin .add 0 (.t 24) (.c (.lit (.int .i64 1))), none⟩, ⟨some 5, .as (.t 25), none⟩] [24, 25]))))))) (.reg false [⟨some 14, .mv (.t 4), none⟩, ⟨some 15, .bin .add 0 (.t 14) (.c (.lit (.int .i64 1))), none⟩, ⟨some 4, .as (.t 15), none⟩] [14, 15])))))) (.seq (.reg false [⟨some 59, .mv (.t 3), none⟩, ⟨some 2, .as (.t 59), none⟩] [59]) (.ret))))
theorem is23 : Is Go.Proofs.Try.prog 23 60 v23 [.t 2] := ⟨Go.Proofs.Try.f23, dl [(0, [2]), (1, [9]), (3, [10, 11, 12]), (6, [16, 17, 18, 19, 20, 21, 22]), (8, [26, 27, 28, 29, 30, 31, 32, 33]), (9, [34, 35, 36, 37]), (11, [38, 39, 40]), (13, [44, 45, 46, 47, 48, 49, 50, 51, 52]), (12, [42, 43]), (14, [53]), (15, [55, 56, 57, 58]), (7, [24, 25]), (4, [14, 15]), (16, [59])], Go.Proofs.Try.func23, by kernel_rfl, by kernel_rfl, by kernel_rfl, by kernel_rfl⟩
def v25 : VC := .seq (.reg false [⟨some 2, .as (.c (.sl ⟨.nl, true⟩ 1 [])), none⟩] [2]) (.seq (.reg false [⟨some 8, .bsl 2 [], none⟩, ⟨some 3, .as (.t 8), none⟩] [8]) (.seq (.seq (.reg false [⟨some 9, .mv (.t 0), none⟩, ⟨some 10, .len false (.t 9), none⟩, ⟨some 11, .mv (.c (.lit (.int .i64 0))), none⟩] []) (.block 0 (.loop (.seq (.reg false [⟨some 12, .bin .lss 0 (.t 11) (.t 10), none⟩] []) (.seq (.cond (.t 12) (.skip) (.exit 0)) (.seq (.block 1 (.seq (.reg false [⟨some 13, .ia 5 (.t 9) (.t 11), none⟩, ⟨some 14, .ld true 5 (.t 13), none⟩, ⟨some 5, .alloc (.agg [(.sl ⟨.nl, true⟩ 1 []), (.lit (.string (by8 ""))), (.lit (.string (by8 ""))), (.lit (.string (by8 ""))), (.sl ⟨.nl, true⟩ 1 [])]), none⟩, ⟨none, .st 5 (.t 5) (.t 14), none⟩] [13, 14]) (.seq (.reg false [⟨some 15, .fa 4 (.t 5), none⟩, ⟨some 16, .ld false 1 (.t 15), none⟩, ⟨some 17, .len false (.t 16), none⟩, ⟨some 18, .mv (.c (.lit (.int .i64 0))), none⟩] [15]) (.block 2 (.loop (.seq (.reg false [⟨some 19, .bin .lss 0 (.t 18) (.t 17), none⟩] []) (.seq (.cond (.t 19) (.skip) (.exit 2)) (.seq (.block 3 (.seq (.reg false [⟨some 20, .ia 2 (.t 16) (.t 18), none⟩, ⟨some 21, .ld true 2 (.t 20), none⟩, ⟨some 7, .alloc (.agg [(.lit (.string (by8 ""))), (.lit (.string (by8 "")))]), none⟩, ⟨none, .st 2 (.t 7) (.t 21), none⟩] [20, 21]) (.seq (.reg false [⟨some 22, .mv (.t 0), none⟩, ⟨some 23, .ld true 2 (.t 7), none⟩, ⟨some 24, .call false 65 [(.t 22), (.t 23)], none⟩, ⟨some 25, .bin .lss 0 (.t 24) (.c (.lit (.int .i64 0))), none⟩, ⟨some 26, .mv (.t 25), none⟩, ⟨some 27, .mv (.t 3), (some (26, true))⟩, ⟨some 28, .ld true 2 (.t 7), (some (26, true))⟩, ⟨some 29, .call false 66 [(.t 27), (.t 28)], (some (26, true))⟩, ⟨some 30, .un .not (.t 29), (some (26, true))⟩, ⟨some 31, .pick (.t 26) (.t 30) (.c (.lit (.bool false))), none⟩] [22, 23, 24, 25, 26, 27, 28, 29, 30]) (.cond (.t 31) (.reg false [⟨some 32, .mv (.t 3), none⟩, ⟨some 33, .ld true 2 (.t 7), none⟩, ⟨some 34, .bsl 2 [(.t 33)], none⟩, ⟨some 35, .app 2 32 (.t 32) (.t 34), none⟩, ⟨some 3, .as (.t 35), none⟩] [32, 33, 34, 35]) (.skip))))) (.reg false [⟨some 36, .bin .add 0 (.t 18) (.c (.lit (.int .i64 1))), none⟩, ⟨some 18, .mv (.t 36), none⟩] [36]))))))))) (.reg false [⟨some 37, .bin .add 0 (.t 11) (.c (.lit (.int .i64 1))), none⟩, ⟨some 11, .mv (.t 37), none⟩] [37]))))))) (.seq (.reg false [⟨some 38, .mv (.t 3), none⟩, ⟨some 2, .as (.t 38), none⟩] [38]) (.ret))))
theorem is25 : Is Go.Proofs.Try.prog 25 39 v25 [.t 2] := ⟨Go.Proofs.Try.f25, dl [(0, [2]), (1, [8]), (4, [13, 14]), (5, [15]), (7, [20, 21]), (8, [22, 23, 24, 25, 26, 27, 28, 29, 30]), (9, [32, 33, 34, 35]), (10, [36]), (11, [37]), (12, [38])], Go.Proofs.Try.func25, by kernel_rfl, by kernel_rfl, by kernel_rfl, by kernel_rfl⟩
def meets (l : List En) (n : Nd) : Bool := l.any fun e => hasN e.heads n
def addU (l : List En) (out : List Nd) (n : Nd) : List Nd := if (meets l n || hasN out n) = true then out else out ++ [n]
def outI (l : List En) (i : Nat) : List Nd := (l.take i).foldl (fun out e => e.needs.foldl (addU l) out) []
def unm (l : List En) : List Nd := l.foldl (fun out e => e.needs.foldl (addU l) out) []
theorem fold_take {α β : Type} (f : β → α → β) (a : β) (l : List α) (i : Nat) (h : i < l.length) : (l.take (i + 1)).foldl f a = f ((l.take i).foldl f a) l[i] := by
  rw [List.take_succ_eq_append_getElem h, List.foldl_append]; rfl
theorem outI_next (l : List En) (i : Nat) (h : i < l.length) : outI l (i + 1) = l[i].needs.foldl (addU l) (outI l i) := fold_take _ _ _ _ h
theorem outI_all (l : List En) : outI l l.length = unm l := by simp [outI, unm]
def outJ (l : List En) (i : Nat) (ns : List Nd) (j : Nat) : List Nd := (ns.take j).foldl (addU l) (outI l i)
theorem addU_len (l : List En) (out : List Nd) (n : Nd) : (addU l out n).length ≤ out.length + 1 := by
  unfold addU; split <;> simp
theorem foldU_len (l : List En) : ∀ (ns out : List Nd), (ns.foldl (addU l) out).length ≤ out.length + ns.length
  | [], out => by simp
  | n :: ns, out => by
    have h1 := foldU_len l ns (addU l out n)
    have h2 := addU_len l out n
    simp only [List.foldl_cons, List.length_cons]; omega
theorem outI_len (l : List En) : ∀ (i : Nat), i ≤ l.length → (outI l i).length ≤ cntE (l.take i)
  | 0, _ => by simp [outI]
  | i + 1, h => by
    have h1 := outI_len l i (by omega)
    have h2 := cntE_take l i (by omega)
    rw [outI_next l i (by omega)]
    have h3 := foldU_len l l[i].needs (outI l i)
    have h4 : l[i].cnt = 2 * l[i].heads.length + 3 + 2 * l[i].needs.length := rfl
    omega
theorem outJ_len (l : List En) (i : Nat) (ns : List Nd) (j : Nat) : (outJ l i ns j).length ≤ (outI l i).length + j := by
  have := foldU_len l (ns.take j) (outI l i)
  have h2 : (ns.take j).length ≤ j := by simp; omega
  unfold outJ; omega
theorem hasN_take {l : List Nd} {n : Nd} {k : Nat} (h : k < l.length) : hasN (l.take (k + 1)) n = (hasN (l.take k) n || decide (l[k] = n)) := by
  unfold hasN
  rw [List.take_succ_eq_append_getElem h, List.any_append]
  simp
section
variable {E : Env} (hE : E.P = Go.Proofs.Try.prog)
include hE
set_option maxHeartbeats 4000000 in
theorem implUnmet_fx (l : List En) (hl : l.length ≤ 1048576) (hx : ∀ e ∈ l, e.heads.length ≤ 1048576 ∧ e.needs.length ≤ 1048576) (hc : cntE l ≤ 1073741824) : Fx E 25 [] [.sl ro 5 (l.map fun x => .agg x.av)] [] (.sl ⟨.no, true⟩ 2 ((unm l).map fun x => .agg x.av)) := by
  refine (is25.to hE).fx [] (by simp) rfl rfl ?_
  simp [v25]
  refine X_loop (τ := Nat) (fun i => ⟨[(0, .sl ro 5 (l.map fun x => .agg x.av)), (3, .sl ⟨.cl 512, true⟩ 2 ((outI l i).map fun x => .agg x.av)), (9, .sl ro 5 (l.map fun x => .agg x.av)), (10, .lit (.int .i64 l.length)), (11, .lit (.int .i64 i))], []⟩) (fun i => i ≤ l.length) (fun i => l.length - i) 0 (by simp) (Wk.both (by simp [wkL, wkV.same, outI, frA.frL]) trivial) ?_
  rintro i hi
  simp
  by_cases hlt : i < l.length
  · obtain ⟨hle, hle2⟩ := hx _ (List.getElem_mem hlt)
    have hev : l[i].av = [.sl ro 2 (l[i].heads.map fun x => .agg x.av), .lit (.string l[i].version), .lit (.string l[i].resolved), .lit (.string l[i].integrity), .sl ro 2 (l[i].needs.map fun x => .agg x.av)] := rfl
    have hol := outI_len l i hi
    have hcl := cntE_le l i
    simp [hlt, hev, mkF, mkF.mkL, ro, okC, putElem, upd]
    refine X_loop (τ := Nat) (fun j => ⟨[(0, .sl ro 5 (l.map fun x => .agg x.av)), (3, .sl ⟨.cl 512, true⟩ 2 ((outJ l i l[i].needs j).map fun x => .agg x.av)), (9, .sl ro 5 (l.map fun x => .agg x.av)), (10, .lit (.int .i64 l.length)), (11, .lit (.int .i64 i)), (16, .sl ro 2 (l[i].needs.map fun x => .agg x.av)), (17, .lit (.int .i64 l[i].needs.length)), (18, .lit (.int .i64 j))], []⟩) (fun j => j ≤ l[i].needs.length) (fun j => l[i].needs.length - j) 0 (by simp) (Wk.both (by simp [wkL, wkV.same, outJ, ro]) (by simp [wkB])) ?_
    rintro j hj
    simp
    by_cases hlt2 : j < l[i].needs.length
    · have hav : l[i].needs[j].av = [.lit (.string l[i].needs[j].name), .lit (.string l[i].needs[j].range)] := rfl
      have hnext : outJ l i l[i].needs (j + 1) = addU l (outJ l i l[i].needs j) l[i].needs[j] := fold_take _ _ _ _ hlt2
      have hlj := outJ_len l i l[i].needs j
      simp [hlt2, ro, mkF, mkF.mkL, hav, okC, putElem, upd]
      refine vcall_go (implRes_fx hE l l[i].needs[j] hl (fun e he => (hx e he).1)) (by simp [hav, ro]) (by simp) (by simp) (by simp) ?_
      simp
      have hm : meets l l[i].needs[j] = decide (0 ≤ fidx (fun e => hasN e.heads l[i].needs[j]) l) := (fidx_has _ _).symm
      generalize fidx (fun e => hasN e.heads l[i].needs[j]) l = q at hm
      generalize hout : outJ l i l[i].needs j = out at hnext hlj
      by_cases c : q < 0
      · have hm : meets l l[i].needs[j] = false := by rw [hm]; simpa using c
        simp [c]
        refine vcall_go (contN_fx hE out l[i].needs[j] (by omega)) (by simp [hav, ro]) (by simp) (by simp) (by simp) ?_
        simp
        cases c2 : hasN out l[i].needs[j]
        · have hn2 : outJ l i l[i].needs (j + 1) = out ++ [l[i].needs[j]] := by rw [hnext, addU, hm, c2]; rfl
          simp [okC, hav, frA, frA.frL, AS.dem, mapV, dem, dem.demL, ro]
          refine ⟨by omega, j + 1, by omega, by omega, Wk.both (by rw [hn2]; simp [wkL, wkV.same, hav]; rw [wrapN (by omega)]; exact wkV.same _) (by simp [wkB])⟩
        · have hn2 : outJ l i l[i].needs (j + 1) = out := by rw [hnext, addU, hm, c2]; rfl
          simp
          refine ⟨j + 1, by omega, by omega, Wk.both (by rw [hn2]; simp [wkL, wkV.same, ro]; rw [wrapN (by omega)]; exact wkV.same _) (by simp [wkB])⟩
      · have hm : meets l l[i].needs[j] = true := by rw [hm]; simpa using c
        have hn2 : outJ l i l[i].needs (j + 1) = out := by rw [hnext, addU, hm]; rfl
        simp [c]
        refine ⟨j + 1, by omega, by omega, Wk.both (by rw [hn2]; simp [wkL, wkV.same, ro]; rw [wrapN (by omega)]; exact wkV.same _) (by simp [wkB])⟩
    · obtain rfl : j = l[i].needs.length := by omega
      have hall : outJ l i l[i].needs l[i].needs.length = outI l (i + 1) := by rw [outI_next l i hlt, outJ, List.take_length]
      simp
      rw [hall]
      exact ⟨i + 1, by omega, by omega, Wk.both (by simp [wkL, wkV.same, ro]; rw [wrapN (by omega)]; exact wkV.same _) (by simp [wkB])⟩
  · obtain rfl : i = l.length := by omega
    simp
    rw [outI_all]
    exact Fin_ret rfl rfl
set_option maxHeartbeats 4000000 in
theorem specUnmet_fx (l : List En) (hl : l.length ≤ 1048576) (hx : ∀ e ∈ l, e.heads.length ≤ 1048576 ∧ e.needs.length ≤ 1048576) (hc : cntE l ≤ 1073741824) : Fx E 23 [] [.sl ro 5 (l.map fun x => .agg x.av)] [] (.sl ⟨.no, true⟩ 2 ((unm l).map fun x => .agg x.av)) := by
  refine (is23.to hE).fx [] (by simp) rfl rfl ?_
  simp [v23]
  refine X_loop (τ := Nat) (fun i => ⟨[(0, .sl ro 5 (l.map fun x => .agg x.av)), (3, .sl ⟨.cl 576, true⟩ 2 ((outI l i).map fun x => .agg x.av)), (4, .lit (.int .i64 i))], []⟩) (fun i => i ≤ l.length) (fun i => l.length - i) 0 (by simp) (Wk.both (by simp [wkL, wkV.same, outI, frA.frL]) trivial) ?_
  rintro i hi
  simp
  by_cases hlt : i < l.length
  · obtain ⟨hle, hle2⟩ := hx _ (List.getElem_mem hlt)
    have hev : l[i].av = [.sl ro 2 (l[i].heads.map fun x => .agg x.av), .lit (.string l[i].version), .lit (.string l[i].resolved), .lit (.string l[i].integrity), .sl ro 2 (l[i].needs.map fun x => .agg x.av)] := rfl
    have hol := outI_len l i hi
    have hcl := cntE_le l i
    simp [hlt]
    refine X_loop (τ := Nat) (fun j => ⟨[(0, .sl ro 5 (l.map fun x => .agg x.av)), (3, .sl ⟨.cl 576, true⟩ 2 ((outJ l i l[i].needs j).map fun x => .agg x.av)), (4, .lit (.int .i64 i)), (5, .lit (.int .i64 j))], []⟩) (fun j => j ≤ l[i].needs.length) (fun j => l[i].needs.length - j) 0 (by simp) (Wk.both (by simp [wkL, wkV.same, outJ, ro]) (by simp [wkB])) ?_
    rintro j hj
    simp [hlt, hev, mkF, ro]
    by_cases hlt2 : j < l[i].needs.length
    · have hav : l[i].needs[j].av = [.lit (.string l[i].needs[j].name), .lit (.string l[i].needs[j].range)] := rfl
      have hnext : outJ l i l[i].needs (j + 1) = addU l (outJ l i l[i].needs j) l[i].needs[j] := fold_take _ _ _ _ hlt2
      have hlj := outJ_len l i l[i].needs j
      simp [hlt, hlt2, hev, ro, mkF, mkF.mkL, hav, okC, putElem, upd]
      refine vcall_go (specRes_fx hE l l[i].needs[j] hl (fun e he => (hx e he).1)) (by simp [hav, ro]) (by simp) (by simp) (by simp) ?_
      simp
      have hm : meets l l[i].needs[j] = decide (0 ≤ fidx (fun e => hasN e.heads l[i].needs[j]) l) := (fidx_has _ _).symm
      generalize fidx (fun e => hasN e.heads l[i].needs[j]) l = q at hm
      generalize hout : outJ l i l[i].needs j = out at hnext hlj
      rw [← hm]
      generalize hmm : meets l l[i].needs[j] = mm at hm
      refine X_loop (τ := Nat) (fun k => ⟨[(0, .sl ro 5 (l.map fun x => .agg x.av)), (3, .sl ⟨.cl 576, true⟩ 2 (out.map fun x => .agg x.av)), (4, .lit (.int .i64 i)), (5, .lit (.int .i64 j)), (6, .ptr 1006 0 0), (7, .lit (.bool (mm || hasN (out.take k) l[i].needs[j]))), (8, .lit (.int .i64 k))], [(1006, [.agg l[i].needs[j].av])]⟩) (fun k => k ≤ out.length) (fun k => out.length - k) 0 (by simp) (Wk.both (by simp [wkL, wkV.same, ro, hasN]) (by simp [wkB, hav])) ?_
      rintro k hk
      simp [hav]
      by_cases hlt3 : k < out.length
      · have hov : out[k].av = [.lit (.string out[k].name), .lit (.string out[k].range)] := rfl
        have htk := hasN_take (n := l[i].needs[j]) hlt3
        simp [hlt3]
        cases hg : (mm || hasN (out.take k) l[i].needs[j])
        · simp only [Bool.or_eq_false_iff] at hg
          obtain ⟨hg1, hg2⟩ := hg
          have hb : (decide (out[k].name = l[i].needs[j].name) && decide (out[k].range = l[i].needs[j].range)) = decide (out[k] = l[i].needs[j]) := by
            rw [Bool.eq_iff_iff]; simp [Nd.ext']
          rw [hg2, Bool.false_or] at htk
          simp [hg1, hg2, hlt3, hov, mkF, mkF.mkL]
          rw [hb, ← htk]
          exact ⟨k + 1, by omega, by omega, Wk.both (by simp [wkL, wkV.same, ro]; rw [wrapN (by omega)]; exact wkV.same _) (by simp [wkB, hav])⟩
        · have hg2 : (mm || hasN (out.take (k + 1)) l[i].needs[j]) = true := by rw [htk, ← Bool.or_assoc, hg, Bool.true_or]
          simp
          exact ⟨k + 1, by omega, by omega, Wk.both (by rw [hg2]; simp [wkL, wkV.same, ro]; rw [wrapN (by omega)]; exact wkV.same _) (by simp [wkB, hav])⟩
      · obtain rfl : k = out.length := by omega
        simp
        cases c2 : hasN out l[i].needs[j]
        · cases mm
          · have hn2 : outJ l i l[i].needs (j + 1) = out ++ [l[i].needs[j]] := by rw [hnext, addU, hmm, c2]; rfl
            simp [okC, hav, frA, frA.frL, AS.dem, mapV, dem, dem.demL, ro]
            refine ⟨by omega, j + 1, by omega, by omega, Wk.both (by rw [hn2]; simp [wkL, wkV.same, hav]; rw [wrapN (by omega)]; exact wkV.same _) (by simp [wkB])⟩
          · have hn2 : outJ l i l[i].needs (j + 1) = out := by rw [hnext, addU, hmm]; rfl
            simp
            refine ⟨j + 1, by omega, by omega, Wk.both (by rw [hn2]; simp [wkL, wkV.same, ro]; rw [wrapN (by omega)]; exact wkV.same _) (by simp [wkB])⟩
        · have hn2 : outJ l i l[i].needs (j + 1) = out := by rw [hnext, addU, c2, Bool.or_true]; rfl
          simp
          refine ⟨j + 1, by omega, by omega, Wk.both (by rw [hn2]; simp [wkL, wkV.same, ro]; rw [wrapN (by omega)]; exact wkV.same _) (by simp [wkB])⟩
    · obtain rfl : j = l[i].needs.length := by omega
      have hall : outJ l i l[i].needs l[i].needs.length = outI l (i + 1) := by rw [outI_next l i hlt, outJ, List.take_length]
      simp
      rw [hall]
      exact ⟨i + 1, by omega, by omega, Wk.both (by simp [wkL, wkV.same, ro]; rw [wrapN (by omega)]; exact wkV.same _) (by simp [wkB])⟩
  · obtain rfl : i = l.length := by omega
    simp
    rw [outI_all]
    exact Fin_ret rfl rfl
end
end Go.Proofs.Ytpopccnnjpdmlaa.Vm
