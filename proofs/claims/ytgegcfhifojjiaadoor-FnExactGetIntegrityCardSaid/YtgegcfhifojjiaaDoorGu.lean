/- The laws' marks of sums. -/
import Derived.Test.YtgegcfhifojjiaaDoorMz
import Derived.Test.YtgegcfhifojjiaaDoorGd
namespace Go.Proofs.YtgegcfhifojjiaaDoor.Vm
open Go Go.RowKit
set_option linter.unusedVariables false
set_option linter.unusedSimpArgs false
def v8 : VC := .seq (.reg false [⟨some 4, .as (.c (.lit (.int .i64 0))), none⟩] [4]) (.seq (.seq (.reg false [⟨some 5, .as (.c (.lit (.int .i64 0))), none⟩] []) (.block 0 (.loop (.seq (.seq (.reg false [⟨some 6, .mv (.t 5), none⟩, ⟨some 7, .mv (.t 0), none⟩, ⟨some 8, .len false (.t 7), none⟩, ⟨some 9, .bin .lss 0 (.t 6) (.t 8), none⟩] [6, 7, 8]) (.cond (.t 9) (.skip) (.exit 0))) (.seq (.block 1 (.seq (.reg false [⟨some 12, .mv (.t 0), none⟩, ⟨some 13, .mv (.t 5), none⟩, ⟨some 14, .mv (.t 1), none⟩, ⟨some 15, .call false 26 [(.t 14)], none⟩, ⟨some 16, .ia 2 (.t 12) (.t 13), none⟩, ⟨some 17, .fa 0 (.t 16), none⟩, ⟨none, .st 1 (.t 17) (.t 15), none⟩] [12, 13, 14, 15, 16, 17]) (.seq (.reg false [⟨some 18, .mv (.t 1), none⟩, ⟨some 19, .bin .add 0 (.t 18) (.c (.lit (.int .i64 1))), none⟩, ⟨some 1, .as (.t 19), none⟩] [18, 19]) (.seq (.reg false [⟨some 20, .mv (.t 0), none⟩, ⟨some 21, .mv (.t 5), none⟩, ⟨some 22, .mv (.t 1), none⟩, ⟨some 23, .call false 26 [(.t 22)], none⟩, ⟨some 24, .ia 2 (.t 20) (.t 21), none⟩, ⟨some 25, .fa 1 (.t 24), none⟩, ⟨none, .st 1 (.t 25) (.t 23), none⟩] [20, 21, 22, 23, 24, 25]) (.reg false [⟨some 26, .mv (.t 1), none⟩, ⟨some 27, .bin .add 0 (.t 26) (.c (.lit (.int .i64 1))), none⟩, ⟨some 1, .as (.t 27), none⟩] [26, 27]))))) (.reg false [⟨some 10, .mv (.t 5), none⟩, ⟨some 11, .bin .add 0 (.t 10) (.c (.lit (.int .i64 1))), none⟩, ⟨some 5, .as (.t 11), none⟩] [10, 11])))))) (.seq (.reg false [⟨some 28, .mv (.t 1), none⟩, ⟨some 4, .as (.t 28), none⟩] [28]) (.ret)))
theorem is8 : Is Go.Proofs.Tryd.prog 8 29 v8 [.t 4] := ⟨Go.Proofs.Tryd.f8, dl [(0, [4]), (2, [6, 7, 8]), (4, [12, 13, 14, 15, 16, 17]), (5, [18, 19]), (6, [20, 21, 22, 23, 24, 25]), (7, [26, 27]), (3, [10, 11]), (8, [28])], Go.Proofs.Tryd.func8, by kernel_rfl, by kernel_rfl, by kernel_rfl, by kernel_rfl⟩
def v9 : VC := .seq (.reg false [⟨some 4, .as (.c (.lit (.int .i64 0))), none⟩] [4]) (.seq (.seq (.reg false [⟨some 5, .as (.c (.lit (.int .i64 0))), none⟩] []) (.block 0 (.loop (.seq (.seq (.reg false [⟨some 6, .mv (.t 5), none⟩, ⟨some 7, .mv (.t 0), none⟩, ⟨some 8, .len false (.t 7), none⟩, ⟨some 9, .bin .lss 0 (.t 6) (.t 8), none⟩] [6, 7, 8]) (.cond (.t 9) (.skip) (.exit 0))) (.seq (.block 1 (.seq (.seq (.reg true [⟨some 12, .mv (.t 0), none⟩, ⟨some 13, .mv (.t 5), none⟩, ⟨some 14, .ia 2 (.t 12) (.t 13), none⟩, ⟨some 15, .fa 0 (.t 14), none⟩, ⟨some 16, .ld false 1 (.t 15), none⟩, ⟨some 17, .mv (.t 1), none⟩, ⟨some 18, .call true 26 [(.t 17)], none⟩, ⟨some 19, .bin .neq 0 (.t 16) (.t 18), none⟩] [12, 13, 14, 15, 16, 17, 18]) (.cond (.t 19) (.seq (.reg false [⟨some 4, .as (.c (.lit (.int .i64 (-1)))), none⟩] []) (.ret)) (.skip))) (.seq (.reg false [⟨some 20, .mv (.t 1), none⟩, ⟨some 21, .bin .add 0 (.t 20) (.c (.lit (.int .i64 1))), none⟩, ⟨some 1, .as (.t 21), none⟩] [20, 21]) (.seq (.seq (.reg true [⟨some 22, .mv (.t 0), none⟩, ⟨some 23, .mv (.t 5), none⟩, ⟨some 24, .ia 2 (.t 22) (.t 23), none⟩, ⟨some 25, .fa 1 (.t 24), none⟩, ⟨some 26, .ld false 1 (.t 25), none⟩, ⟨some 27, .mv (.t 1), none⟩, ⟨some 28, .call true 26 [(.t 27)], none⟩, ⟨some 29, .bin .neq 0 (.t 26) (.t 28), none⟩] [22, 23, 24, 25, 26, 27, 28]) (.cond (.t 29) (.seq (.reg false [⟨some 4, .as (.c (.lit (.int .i64 (-1)))), none⟩] []) (.ret)) (.skip))) (.reg false [⟨some 30, .mv (.t 1), none⟩, ⟨some 31, .bin .add 0 (.t 30) (.c (.lit (.int .i64 1))), none⟩, ⟨some 1, .as (.t 31), none⟩] [30, 31]))))) (.reg false [⟨some 10, .mv (.t 5), none⟩, ⟨some 11, .bin .add 0 (.t 10) (.c (.lit (.int .i64 1))), none⟩, ⟨some 5, .as (.t 11), none⟩] [10, 11])))))) (.seq (.reg false [⟨some 32, .mv (.t 1), none⟩, ⟨some 4, .as (.t 32), none⟩] [32]) (.ret)))
theorem is9 : Is Go.Proofs.Tryd.prog 9 33 v9 [.t 4] := ⟨Go.Proofs.Tryd.f9, dl [(0, [4]), (2, [6, 7, 8]), (4, [12, 13, 14, 15, 16, 17, 18]), (6, [20, 21]), (7, [22, 23, 24, 25, 26, 27, 28]), (9, [30, 31]), (3, [10, 11]), (10, [32])], Go.Proofs.Tryd.func9, by kernel_rfl, by kernel_rfl, by kernel_rfl, by kernel_rfl⟩
def mkSums (k n : Nat) : List Sm := (List.range n).map fun i => ⟨mkT (k + 2 * i), mkT (k + 2 * i + 1)⟩
theorem mkSums_len (k n : Nat) : (mkSums k n).length = n := by simp [mkSums]
theorem mkSums_get {k n i : Nat} (h : i < n) : (mkSums k n)[i]? = some ⟨mkT (k + 2 * i), mkT (k + 2 * i + 1)⟩ := by simp [mkSums, h]
theorem PlL_sums (l : List Sm) : PlL (l.map fun x => AV.agg x.av) := PlL_iff.2 fun c hc => by
  obtain ⟨x, _, rfl⟩ := List.mem_map.1 hc
  exact Pl_agg.2 (Sm.pl x)
theorem litL_sums (l : List Sm) : litL (l.map fun x => AV.agg x.av) = true := by simp [litL, AV.cells, isLit, Sm.av]
theorem rowOk_sums (l : List Sm) : rowOk 2 (l.map fun x => AV.agg x.av) = true := by simp [rowOk, AV.cells, isLit, Sm.av]
theorem PlL_set {l : List AV} (h : PlL l) (i : Nat) {c : AV} (hc : Pl c) : PlL (l.set i c) := PlL_iff.2 fun d hd => by
  rcases List.mem_or_eq_of_mem_set hd with hd | rfl
  · exact PlL_iff.1 h d hd
  · exact hc
section
variable {E : Env} (hE : E.P = Go.Proofs.Tryd.prog)
include hE
theorem eqSum_any (x : Sm) : Fx E 25 [] [.agg x.av, .agg x.av] [] (.lit (.bool true)) := by
  refine (is25.to hE).fx [] (by simp) rfl rfl ?_
  simp [v25, Sm.av, okC, mkF]
  exact Fin_ret rfl rfl
theorem eqSumS_any (xs : List Sm) (h : xs.length ≤ 2097152) : Fx E 7 [] [.sl ro 2 (xs.map fun x => .agg x.av), .sl ro 2 (xs.map fun x => .agg x.av)] [] (.lit (.bool true)) := eqSame_fx (is7.to hE) (by decide) Sm.pl Sm.len xs (fun x _ => eqSum_any hE x) (by omega)
theorem markSum_row (xs : List Sm) (k : Nat) (h0 : 0 < k) (hl : xs.length ≤ 2097152) (hk : k + 2 * xs.length ≤ 1152921504606846976) : Fx E 8 [xs.map fun x => .agg x.av] [.bs 0 2 xs.length, .lit (.int .i64 k)] [(mkSums k xs.length).map fun x => .agg x.av] (.lit (.int .i64 ((k : Int) + (2 * xs.length : Nat)))) := by
  refine (is8.to hE).fxb [] (by simp) rfl ⟨rfl, by simp [(PlL_sums _).res]⟩ rfl (by simp) ?_
  have hpl : ∀ i, PlL (rowM (fun i => AV.agg [.lit (.string (mkT (k + 2 * i))), .lit (.string (mkT (k + 2 * i + 1)))]) (xs.map fun x => AV.agg x.av) i) := fun i => PlL_row (fun _ => by simp) (PlL_iff.1 (PlL_sums xs))
  simp [v8]
  refine X_loop (τ := Nat) (fun i => ⟨[(0, .bs 0 2 xs.length), (1, .lit (.int .i64 ((k : Int) + 2 * i))), (5, .lit (.int .i64 i))], [(0, rowM (fun i => .agg [.lit (.string (mkT (k + 2 * i))), .lit (.string (mkT (k + 2 * i + 1)))]) (xs.map fun x => .agg x.av) i)]⟩) (fun i => i ≤ xs.length) (fun i => xs.length - i) 0 (by simp) (Wk.both (by simp [wkL, wkV.same]) (by rw [rowM_zero]; simp [wkB])) ?_
  intro i hi
  simp
  by_cases hlt : i < xs.length
  · simp [hlt]
    have e0 : (k : Int) + 2 * i = ((k + 2 * i : Nat) : Int) := by omega
    rw [e0]
    refine vcall_go (markText_fx hE (k + 2 * i) (by omega) (by omega)) (by simp) (by simp) (by simp) (by simp [(hpl i).noC]) ?_
    have hg := rowM_get (fun i => AV.agg [.lit (.string (mkT (k + 2 * i))), .lit (.string (mkT (k + 2 * i + 1)))]) (xs.map fun x => AV.agg x.av) i (by simpa using hlt)
    have hs := rowM_set (fun i => AV.agg [.lit (.string (mkT (k + 2 * i))), .lit (.string (mkT (k + 2 * i + 1)))]) (xs.map fun x => AV.agg x.av) i (by simpa using hlt)
    have hlen := rowM_len (fun i => AV.agg [.lit (.string (mkT (k + 2 * i))), .lit (.string (mkT (k + 2 * i + 1)))]) (xs.map fun x => AV.agg x.av) i (by simpa using hi)
    rw [List.length_map] at hlen
    obtain ⟨R, hR⟩ : ∃ R, rowM (fun i => AV.agg [.lit (.string (mkT (k + 2 * i))), .lit (.string (mkT (k + 2 * i + 1)))]) (xs.map fun x => AV.agg x.av) i = R := ⟨_, rfl⟩
    have hplR := hpl i
    rw [hR] at hg hs hlen hplR
    have hlt2 : i < R.length := by omega
    have hav : xs[i].av = [.lit (.string xs[i].alg), .lit (.string xs[i].bytes)] := rfl
    rw [hR]
    simp at hg
    simp [hlt, okC, hg, putElem, hav, upd]
    have e1 : IntKind.i64.wrap ((k : Int) + 2 * i + 1) = ((k + 2 * i + 1 : Nat) : Int) := by rw [wrap_i64 (by omega) (by omega)]; omega
    rw [e1]
    refine vcall_go (markText_fx hE (k + 2 * i + 1) (by omega) (by omega)) (by simp) (by simp) (by simp) (by simp [(PlL_set hplR i (c := .agg [.lit (.string (mkT (k + 2 * i))), .lit (.string xs[i].bytes)]) (by simp)).noC]) ?_
    simp [hlt, okC, List.getElem?_set, hlt2, putElem, upd, hs]
    have e2 : IntKind.i64.wrap ((k : Int) + 2 * i + 1 + 1) = (k : Int) + 2 * (i + 1 : Nat) := by rw [wrap_i64 (by omega) (by omega)]; omega
    rw [e2]
    exact ⟨i + 1, by omega, by omega, Wk.both (by simp [wkL, wkV.same]; rw [wrapN (by omega)]; exact wkV.same _) (by simp [wkB])⟩
  · obtain rfl : i = xs.length := by omega
    simp
    have hall := rowM_all (fun i => AV.agg [.lit (.string (mkT (k + 2 * i))), .lit (.string (mkT (k + 2 * i + 1)))]) (xs.map fun x => AV.agg x.av)
    rw [List.length_map] at hall
    rw [hall]
    have hmk : (List.range xs.length).map (fun i => AV.agg [.lit (.string (mkT (k + 2 * i))), .lit (.string (mkT (k + 2 * i + 1)))]) = (mkSums k xs.length).map fun x => AV.agg x.av := by simp [mkSums, Sm.av]
    rw [hmk]
    exact FinB_ret (by simp [resVs, resV]; rfl) (by simp [reC]) rfl (by simp [(PlL_sums _).reC])
theorem heldSum_fx (n k : Nat) (h0 : 0 < k) (hl : n ≤ 2097152) (hk : k + 2 * n ≤ 1152921504606846976) : Fx E 9 [] [.sl ro 2 ((mkSums k n).map fun x => .agg x.av), .lit (.int .i64 k)] [] (.lit (.int .i64 ((k : Int) + (2 * n : Nat)))) := by
  have hl : (mkSums k n).length = n := mkSums_len k n
  refine (is9.to hE).fx [] (by simp) rfl rfl ?_
  simp [v9]
  refine X_loop (τ := Nat) (fun i => ⟨[(0, .sl ro 2 ((mkSums k n).map fun x => .agg x.av)), (1, .lit (.int .i64 ((k : Int) + 2 * i))), (5, .lit (.int .i64 i))], []⟩) (fun i => i ≤ n) (fun i => n - i) 0 (by simp) (Wk.both (by simp [wkL, wkV.same]) trivial) ?_
  intro i hi
  simp [hl]
  by_cases hlt : i < n
  · have hm := mkSums_get (k := k) hlt
    have e0 : (k : Int) + 2 * i = ((k + 2 * i : Nat) : Int) := by omega
    have e1 : IntKind.i64.wrap ((k : Int) + 2 * i + 1) = ((k + 2 * i + 1 : Nat) : Int) := by rw [wrap_i64 (by omega) (by omega)]; omega
    have e2 : IntKind.i64.wrap ((k : Int) + 2 * i + 1 + 1) = (k : Int) + 2 * (i + 1 : Nat) := by rw [wrap_i64 (by omega) (by omega)]; omega
    simp [hlt, ro, mkF, hm, Sm.av]
    rw [e0]
    refine vcall_go (markText_fx hE (k + 2 * i) (by omega) (by omega)) (by simp) (by simp) (by simp) (by simp) ?_
    simp
    rw [e1]
    simp [hlt, hm, mkF]
    refine vcall_go (markText_fx hE (k + 2 * i + 1) (by omega) (by omega)) (by simp) (by simp) (by simp) (by simp) ?_
    simp
    rw [e2]
    exact ⟨i + 1, by omega, by omega, Wk.both (by simp [wkL, wkV.same, ro]; rw [wrapN (by omega)]; exact wkV.same _) trivial⟩
  · obtain rfl : i = n := by omega
    simp
    exact Fin_ret rfl (by simp [reC])
theorem markSum_nil (k : Nat) (hk : k ≤ 1152921504606846976) : Fx E 8 [] [.sl ro 2 [], .lit (.int .i64 k)] [] (.lit (.int .i64 k)) := by
  refine (is8.to hE).fx [] (by simp) rfl rfl ?_
  simp [v8]
  refine X_loop (τ := Nat) (fun i => ⟨[(0, .sl ro 2 []), (1, .lit (.int .i64 k)), (5, .lit (.int .i64 0))], []⟩) (fun i => True) (fun i => 0) 0 trivial (Wk.both (by simp [wkL, wkV.same]) trivial) ?_
  intro i _
  simp
  exact Fin_ret rfl (by simp [reC])
end
end Go.Proofs.YtgegcfhifojjiaaDoor.Vm
