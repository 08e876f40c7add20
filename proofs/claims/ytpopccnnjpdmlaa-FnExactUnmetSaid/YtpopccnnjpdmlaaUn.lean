/- Unmet: the marks. -/
import Derived.Test.YtpopccnnjpdmlaaEnt
namespace Go.Proofs.Ytpopccnnjpdmlaa.Vm
open Go Go.RowKit
set_option linter.unusedVariables false
set_option linter.unusedSimpArgs false
def v29 : VC := .seq (.reg false [⟨some 4, .as (.c (.lit (.int .i64 0))), none⟩] [4]) (.seq (.seq (.reg false [⟨some 5, .as (.c (.lit (.int .i64 0))), none⟩] []) (.block 0 (.loop (.seq (.seq (.reg false [⟨some 6, .mv (.t 5), none⟩, ⟨some 7, .mv (.t 0), none⟩, ⟨some 8, .len false (.t 7), none⟩, ⟨some 9, .bin .lss 0 (.t 6) (.t 8), none⟩] [6, 7, 8]) (.cond (.t 9) (.skip) (.exit 0))) (.seq (.block 1 (.seq (.reg false [⟨some 12, .mv (.t 0), none⟩, ⟨some 13, .mv (.t 5), none⟩, ⟨some 14, .mv (.t 1), none⟩, ⟨some 15, .call false 69 [(.t 14)], none⟩, ⟨some 16, .ia 2 (.t 12) (.t 13), none⟩, ⟨some 17, .fa 0 (.t 16), none⟩, ⟨none, .st 1 (.t 17) (.t 15), none⟩] [12, 13, 14, 15, 16, 17]) (.seq (.reg false [⟨some 18, .mv (.t 1), none⟩, ⟨some 19, .bin .add 0 (.t 18) (.c (.lit (.int .i64 1))), none⟩, ⟨some 1, .as (.t 19), none⟩] [18, 19]) (.seq (.reg false [⟨some 20, .mv (.t 0), none⟩, ⟨some 21, .mv (.t 5), none⟩, ⟨some 22, .mv (.t 1), none⟩, ⟨some 23, .call false 69 [(.t 22)], none⟩, ⟨some 24, .ia 2 (.t 20) (.t 21), none⟩, ⟨some 25, .fa 1 (.t 24), none⟩, ⟨none, .st 1 (.t 25) (.t 23), none⟩] [20, 21, 22, 23, 24, 25]) (.reg false [⟨some 26, .mv (.t 1), none⟩, ⟨some 27, .bin .add 0 (.t 26) (.c (.lit (.int .i64 1))), none⟩, ⟨some 1, .as (.t 27), none⟩] [26, 27]))))) (.reg false [⟨some 10, .mv (.t 5), none⟩, ⟨some 11, .bin .add 0 (.t 10) (.c (.lit (.int .i64 1))), none⟩, ⟨some 5, .as (.t 11), none⟩] [10, 11])))))) (.seq (.reg false [⟨some 28, .mv (.t 1), none⟩, ⟨some 4, .as (.t 28), none⟩] [28]) (.ret)))
theorem is29 : Is Go.Proofs.Try.prog 29 29 v29 [.t 4] := ⟨Go.Proofs.Try.f29, dl [(0, [4]), (2, [6, 7, 8]), (4, [12, 13, 14, 15, 16, 17]), (5, [18, 19]), (6, [20, 21, 22, 23, 24, 25]), (7, [26, 27]), (3, [10, 11]), (8, [28])], Go.Proofs.Try.func29, by kernel_rfl, by kernel_rfl, by kernel_rfl, by kernel_rfl⟩
def v30 : VC := .seq (.reg false [⟨some 4, .as (.c (.lit (.int .i64 0))), none⟩] [4]) (.seq (.seq (.reg false [⟨some 5, .as (.c (.lit (.int .i64 0))), none⟩] []) (.block 0 (.loop (.seq (.seq (.reg false [⟨some 6, .mv (.t 5), none⟩, ⟨some 7, .mv (.t 0), none⟩, ⟨some 8, .len false (.t 7), none⟩, ⟨some 9, .bin .lss 0 (.t 6) (.t 8), none⟩] [6, 7, 8]) (.cond (.t 9) (.skip) (.exit 0))) (.seq (.block 1 (.seq (.seq (.reg true [⟨some 12, .mv (.t 0), none⟩, ⟨some 13, .mv (.t 5), none⟩, ⟨some 14, .ia 2 (.t 12) (.t 13), none⟩, ⟨some 15, .fa 0 (.t 14), none⟩, ⟨some 16, .ld false 1 (.t 15), none⟩, ⟨some 17, .mv (.t 1), none⟩, ⟨some 18, .call true 69 [(.t 17)], none⟩, ⟨some 19, .bin .neq 0 (.t 16) (.t 18), none⟩] [12, 13, 14, 15, 16, 17, 18]) (.cond (.t 19) (.seq (.reg false [⟨some 4, .as (.c (.lit (.int .i64 (-1)))), none⟩] []) (.ret)) (.skip))) (.seq (.reg false [⟨some 20, .mv (.t 1), none⟩, ⟨some 21, .bin .add 0 (.t 20) (.c (.lit (.int .i64 1))), none⟩, ⟨some 1, .as (.t 21), none⟩] [20, 21]) (.seq (.seq (.reg true [⟨some 22, .mv (.t 0), none⟩, ⟨some 23, .mv (.t 5), none⟩, ⟨some 24, .ia 2 (.t 22) (.t 23), none⟩, ⟨some 25, .fa 1 (.t 24), none⟩, ⟨some 26, .ld false 1 (.t 25), none⟩, ⟨some 27, .mv (.t 1), none⟩, ⟨some 28, .call true 69 [(.t 27)], none⟩, ⟨some 29, .bin .neq 0 (.t 26) (.t 28), none⟩] [22, 23, 24, 25, 26, 27, 28]) (.cond (.t 29) (.seq (.reg false [⟨some 4, .as (.c (.lit (.int .i64 (-1)))), none⟩] []) (.ret)) (.skip))) (.reg false [⟨some 30, .mv (.t 1), none⟩, ⟨some 31, .bin .add 0 (.t 30) (.c (.lit (.int .i64 1))), none⟩, ⟨some 1, .as (.t 31), none⟩] [30, 31]))))) (.reg false [⟨some 10, .mv (.t 5), none⟩, ⟨some 11, .bin .add 0 (.t 10) (.c (.lit (.int .i64 1))), none⟩, ⟨some 5, .as (.t 11), none⟩] [10, 11])))))) (.seq (.reg false [⟨some 32, .mv (.t 1), none⟩, ⟨some 4, .as (.t 32), none⟩] [32]) (.ret)))
theorem is30 : Is Go.Proofs.Try.prog 30 33 v30 [.t 4] := ⟨Go.Proofs.Try.f30, dl [(0, [4]), (2, [6, 7, 8]), (4, [12, 13, 14, 15, 16, 17, 18]), (6, [20, 21]), (7, [22, 23, 24, 25, 26, 27, 28]), (9, [30, 31]), (3, [10, 11]), (10, [32])], Go.Proofs.Try.func30, by kernel_rfl, by kernel_rfl, by kernel_rfl, by kernel_rfl⟩
def v28 : VC := .seq (.reg false [⟨some 4, .as (.c (.lit (.int .i64 0))), none⟩] [4]) (.seq (.seq (.reg false [⟨some 5, .as (.c (.lit (.int .i64 0))), none⟩] []) (.block 0 (.loop (.seq (.seq (.reg false [⟨some 6, .mv (.t 5), none⟩, ⟨some 7, .mv (.t 0), none⟩, ⟨some 8, .len false (.t 7), none⟩, ⟨some 9, .bin .lss 0 (.t 6) (.t 8), none⟩] [6, 7, 8]) (.cond (.t 9) (.skip) (.exit 0))) (.seq (.block 1 (.seq (.reg false [⟨some 12, .mv (.t 0), none⟩, ⟨some 13, .mv (.t 5), none⟩, ⟨some 14, .ia 5 (.t 12) (.t 13), none⟩, ⟨some 15, .fa 0 (.t 14), none⟩, ⟨some 16, .ld false 1 (.t 15), none⟩, ⟨some 17, .mv (.t 1), none⟩, ⟨some 18, .call false 29 [(.t 16), (.t 17)], none⟩, ⟨some 1, .as (.t 18), none⟩] [12, 13, 14, 15, 16, 17, 18]) (.seq (.reg false [⟨some 19, .mv (.t 0), none⟩, ⟨some 20, .mv (.t 5), none⟩, ⟨some 21, .mv (.t 1), none⟩, ⟨some 22, .call false 69 [(.t 21)], none⟩, ⟨some 23, .ia 5 (.t 19) (.t 20), none⟩, ⟨some 24, .fa 1 (.t 23), none⟩, ⟨none, .st 1 (.t 24) (.t 22), none⟩] [19, 20, 21, 22, 23, 24]) (.seq (.reg false [⟨some 25, .mv (.t 1), none⟩, ⟨some 26, .bin .add 0 (.t 25) (.c (.lit (.int .i64 1))), none⟩, ⟨some 1, .as (.t 26), none⟩] [25, 26]) (.seq (.reg false [⟨some 27, .mv (.t 0), none⟩, ⟨some 28, .mv (.t 5), none⟩, ⟨some 29, .mv (.t 1), none⟩, ⟨some 30, .call false 69 [(.t 29)], none⟩, ⟨some 31, .ia 5 (.t 27) (.t 28), none⟩, ⟨some 32, .fa 2 (.t 31), none⟩, ⟨none, .st 1 (.t 32) (.t 30), none⟩] [27, 28, 29, 30, 31, 32]) (.seq (.reg false [⟨some 33, .mv (.t 1), none⟩, ⟨some 34, .bin .add 0 (.t 33) (.c (.lit (.int .i64 1))), none⟩, ⟨some 1, .as (.t 34), none⟩] [33, 34]) (.seq (.reg false [⟨some 35, .mv (.t 0), none⟩, ⟨some 36, .mv (.t 5), none⟩, ⟨some 37, .mv (.t 1), none⟩, ⟨some 38, .call false 69 [(.t 37)], none⟩, ⟨some 39, .ia 5 (.t 35) (.t 36), none⟩, ⟨some 40, .fa 3 (.t 39), none⟩, ⟨none, .st 1 (.t 40) (.t 38), none⟩] [35, 36, 37, 38, 39, 40]) (.seq (.reg false [⟨some 41, .mv (.t 1), none⟩, ⟨some 42, .bin .add 0 (.t 41) (.c (.lit (.int .i64 1))), none⟩, ⟨some 1, .as (.t 42), none⟩] [41, 42]) (.reg false [⟨some 43, .mv (.t 0), none⟩, ⟨some 44, .mv (.t 5), none⟩, ⟨some 45, .ia 5 (.t 43) (.t 44), none⟩, ⟨some 46, .fa 4 (.t 45), none⟩, ⟨some 47, .ld false 1 (.t 46), none⟩, ⟨some 48, .mv (.t 1), none⟩, ⟨some 49, .call false 29 [(.t 47), (.t 48)], none⟩, ⟨some 1, .as (.t 49), none⟩] [43, 44, 45, 46, 47, 48, 49]))))))))) (.reg false [⟨some 10, .mv (.t 5), none⟩, ⟨some 11, .bin .add 0 (.t 10) (.c (.lit (.int .i64 1))), none⟩, ⟨some 5, .as (.t 11), none⟩] [10, 11])))))) (.seq (.reg false [⟨some 50, .mv (.t 1), none⟩, ⟨some 4, .as (.t 50), none⟩] [50]) (.ret)))
theorem is28 : Is Go.Proofs.Try.prog 28 51 v28 [.t 4] := ⟨Go.Proofs.Try.f28, dl [(0, [4]), (2, [6, 7, 8]), (4, [12, 13, 14, 15, 16, 17, 18]), (5, [19, 20, 21, 22, 23, 24]), (6, [25, 26]), (7, [27, 28, 29, 30, 31, 32]), (8, [33, 34]), (9, [35, 36, 37, 38, 39, 40]), (10, [41, 42]), (11, [43, 44, 45, 46, 47, 48, 49]), (3, [10, 11]), (12, [50])], Go.Proofs.Try.func28, by kernel_rfl, by kernel_rfl, by kernel_rfl, by kernel_rfl⟩
theorem Fin_wk {rs : List VR} {r r' : AV} {ks : List Nat} {s s1 : AS} (hw : Wk s1 s) (h : resVs s1 rs = some [r']) (h2 : r = reC ks r') : Fin rs r ks .ret s := ⟨.inr rfl, s1, hw, _, h, h2⟩
theorem PlL.noB {d : Nat} : ∀ {l : List AV}, PlL l → noB.noL d l = true
  | [], _ => rfl
  | c :: l, h => by
    obtain ⟨h1, h2⟩ := PlL_cons.1 h
    simp only [noB.noL, h1.noB, PlL.noB h2, Bool.and_self]
theorem PlL.dat {l : List AV} (h : PlL l) : dat.datL l = true := datL_iff.2 fun a ha => (PlL_iff.1 h a ha).dat
theorem wkV_no (ap : Ap) (b : Bool) (sz : Nat) (xs : List AV) : wkV (.sl ⟨.no, b⟩ sz xs) (.sl ⟨ap, b⟩ sz xs) := .inr (.inr ⟨_, _, _, _, _, rfl, rfl, id, .inl ⟨rfl, .inl rfl⟩⟩)
def mkN (k i : Nat) : Nd := ⟨mkT (k + 2 * i), mkT (k + 2 * i + 1)⟩
def mkNs (k n : Nat) : List Nd := (List.range n).map (mkN k)
theorem PlL_nds (l : List Nd) : PlL (l.map fun x => .agg x.av) := PlL_iff.2 fun c hc => by
  obtain ⟨x, _, rfl⟩ := List.mem_map.1 hc
  exact Pl_agg.2 x.pl
def En.cnt (e : En) : Nat := 2 * e.heads.length + 3 + 2 * e.needs.length
def cntE : List En → Nat
  | [] => 0
  | f :: l => f.cnt + cntE l
theorem cntE_take : ∀ (l : List En) (i : Nat) (h : i < l.length), cntE (l.take (i + 1)) = cntE (l.take i) + l[i].cnt
  | [], i, h => by simp at h
  | x :: l, 0, h => by simp [cntE]
  | x :: l, i + 1, h => by
    have := cntE_take l i (by simpa using h)
    simp only [List.take_succ_cons, cntE, List.getElem_cons_succ]
    omega
theorem cntE_le : ∀ (l : List En) (i : Nat), cntE (l.take i) ≤ cntE l
  | [], i => by simp
  | x :: l, 0 => by simp [cntE]
  | x :: l, i + 1 => by
    have := cntE_le l i
    simp only [List.take_succ_cons, cntE]; omega
def nj (n : Nat) : AV := .hs 2 (List.replicate n (.agg [.un, .un]))
def En.hv (e : En) : List AV := [.hs 2 (List.replicate e.heads.length (.agg [.un, .un])), .un, .un, .un, .hs 2 (List.replicate e.needs.length (.agg [.un, .un]))]
theorem hsL_nds (l : List Nd) : hsE.hsL (l.map fun x => AV.agg x.av) = List.replicate l.length (.agg [.un, .un]) := by
  induction l with
  | nil => rfl
  | cons x l ih =>
    have h1 : hsE.hsL x.av = [.un, .un] := by simp [Nd.av, hsE.hsL, hsE]
    simp only [List.map_cons, hsE.hsL, hsE, ih, h1, List.length_cons, List.replicate_succ]
theorem hsL_ens (l : List En) : hsE.hsL (l.map fun x => AV.agg x.av) = l.map fun x => AV.agg x.hv := by
  induction l with
  | nil => rfl
  | cons x l ih =>
    have h1 : hsE.hsL x.av = x.hv := by simp [En.av, En.hv, hsE.hsL, hsE, hsL_nds]
    simp only [List.map_cons, hsE.hsL, hsE, ih, h1]
theorem flatL_nds (l : List Nd) : flat.flatL (l.map fun x => AV.agg x.av) = true := by
  induction l with
  | nil => rfl
  | cons x l ih =>
    have h1 : flat.flatL x.av = true := by simp [Nd.av, flat.flatL, flat, isSl]
    simp only [List.map_cons, flat.flatL, flat, h1, ih, Bool.and_self]
theorem flatL_ens (l : List En) : flat.flatL (l.map fun x => AV.agg x.av) = true := by
  induction l with
  | nil => rfl
  | cons x l ih =>
    have h1 : flat.flatL x.av = true := by simp [En.av, flat.flatL, flat, isSl, flatL_nds]
    simp only [List.map_cons, flat.flatL, flat, h1, ih, Bool.and_self]
theorem rowOk_nds (l : List Nd) : rowOk 2 (l.map fun x => .agg x.av) = true := by simp [rowOk, AV.cells, Nd.av, isLit]
theorem litL_nds (l : List Nd) : litL (l.map fun x => .agg x.av) = true := by simp [litL, AV.cells, Nd.av, isLit]
section
variable {E : Env} (hE : E.P = Go.Proofs.Try.prog)
include hE
theorem markNeed_junk (n k : Nat) (h0 : 0 < k) (hn : n ≤ 1099511627776) (hk : k + 2 * n ≤ 1099511627776) : Fx E 29 [] [.hs 2 (List.replicate n (.agg [.un, .un])), .lit (.int .i64 k)] [] (.lit (.int .i64 ((k : Int) + 2 * n))) := by
  refine (is29.to hE).fx [] (by simp) rfl rfl ?_
  simp [v29]
  refine X_loop (τ := Nat) (fun i => ⟨[(0, .hs 2 (List.replicate n (.agg [.un, .un]))), (1, .lit (.int .i64 ((k : Int) + 2 * i))), (5, .lit (.int .i64 i))], []⟩) (fun i => i ≤ n) (fun i => n - i) 0 (by simp) (Wk.both (by simp [wkL, wkV.same]) trivial) ?_
  intro i hi
  simp
  by_cases hlt : i < n
  · simp [hlt]
    refine vcall_go (markText_fx hE (k + 2 * i) (by omega) (by omega)) (by simp) (by simp) (by simp) (by simp) ?_
    simp [hlt, okC]
    rw [wrap_i64 (by omega) (by omega)]
    refine vcall_go (markText_fx hE (k + 2 * i + 1) (by omega) (by omega)) (by simp) (by simp) (by simp) (by simp) ?_
    simp [hlt, okC]
    have e1 : IntKind.i64.wrap ((k : Int) + 2 * i + 1 + 1) = (k : Int) + 2 * (i + 1 : Nat) := by rw [wrap_i64 (by omega) (by omega)]; omega
    rw [e1]
    exact ⟨i + 1, by omega, by omega, Wk.both (by simp [wkL, wkV.same]; rw [wrapN (by omega)]; exact wkV.same _) trivial⟩
  · obtain rfl : i = n := by omega
    simp
    exact Fin_ret rfl (by simp [reC])
theorem markNeed_row (xs : List Nd) (k : Nat) (h0 : 0 < k) (hn : xs.length ≤ 1099511627776) (hk : k + 2 * xs.length ≤ 1099511627776) : Fx E 29 [xs.map fun x => .agg x.av] [.bs 0 2 xs.length, .lit (.int .i64 k)] [(mkNs k xs.length).map fun x => .agg x.av] (.lit (.int .i64 ((k : Int) + 2 * xs.length))) := by
  refine (is29.to hE).fxb [] (by simp) rfl ⟨rfl, by simp [(PlL_nds _).res]⟩ rfl (by simp) ?_
  have hpl : ∀ i, PlL (rowM (fun i => AV.agg (mkN k i).av) (xs.map fun x => AV.agg x.av) i) := fun i => PlL_row (fun _ => Pl_agg.2 (Nd.pl _)) (PlL_iff.1 (PlL_nds xs))
  simp [v29]
  refine X_loop (τ := Nat) (fun i => ⟨[(0, .bs 0 2 xs.length), (1, .lit (.int .i64 ((k : Int) + 2 * i))), (5, .lit (.int .i64 i))], [(0, rowM (fun i => .agg (mkN k i).av) (xs.map fun x => .agg x.av) i)]⟩) (fun i => i ≤ xs.length) (fun i => xs.length - i) 0 (by simp) (Wk.both (by simp [wkL, wkV.same]) (by rw [rowM_zero]; simp [wkB])) ?_
  intro i hi
  simp
  by_cases hlt : i < xs.length
  · simp [hlt]
    refine vcall_go (markText_fx hE (k + 2 * i) (by omega) (by omega)) (by simp) (by simp) (by simp) (by simp [(hpl i).noC]) ?_
    have hg := rowM_get (fun i => AV.agg (mkN k i).av) (xs.map fun x => AV.agg x.av) i (by simpa using hlt)
    have hs := rowM_set (fun i => AV.agg (mkN k i).av) (xs.map fun x => AV.agg x.av) i (by simpa using hlt)
    have hl := rowM_len (fun i => AV.agg (mkN k i).av) (xs.map fun x => AV.agg x.av) i (by simpa using hi)
    have hav : xs[i].av = [.lit (.string xs[i].name), .lit (.string xs[i].range)] := rfl
    simp [hlt, okC, hg, putElem, upd, hav]
    rw [wrap_i64 (by omega) (by omega)]
    have hs2 : (rowM (fun i => AV.agg (mkN k i).av) (xs.map fun x => AV.agg x.av) i).set i (.agg [.lit (.string (mkT (k + 2 * i))), .lit (.string (mkT (k + 2 * i + 1)))]) = rowM (fun i => AV.agg (mkN k i).av) (xs.map fun x => AV.agg x.av) (i + 1) := hs
    have hp2 : ∀ a b : ByteArray, PlL ((rowM (fun i => AV.agg (mkN k i).av) (xs.map fun x => AV.agg x.av) i).set i (.agg [.lit (.string a), .lit (.string b)])) := fun a b => PlL_iff.2 fun c hc => by
      rcases List.mem_or_eq_of_mem_set hc with h | rfl
      · exact PlL_iff.1 (hpl i) c h
      · simp
    have hl2 : i < (rowM (fun i => AV.agg (mkN k i).av) (xs.map fun x => AV.agg x.av) i).length := by rw [hl]; simpa using hlt
    refine vcall_go (markText_fx hE (k + 2 * i + 1) (by omega) (by omega)) (by simp) (by simp) (by simp) (by simp [(hp2 _ _).noC]) ?_
    simp [hlt, okC, putElem, upd, List.getElem?_set_self hl2, hs2]
    have e1 : IntKind.i64.wrap ((k : Int) + 2 * i + 1 + 1) = (k : Int) + 2 * (i + 1 : Nat) := by rw [wrap_i64 (by omega) (by omega)]; omega
    rw [e1]
    exact ⟨i + 1, by omega, by omega, Wk.both (by simp [wkL, wkV.same]; rw [wrapN (by omega)]; exact wkV.same _) (by simp [wkB])⟩
  · obtain rfl : i = xs.length := by omega
    simp
    have hall := rowM_all (fun i => AV.agg (mkN k i).av) (xs.map fun x => AV.agg x.av)
    rw [List.length_map] at hall
    rw [hall]
    have hmk : (List.range xs.length).map (fun i => AV.agg (mkN k i).av) = (mkNs k xs.length).map fun x => .agg x.av := by simp [mkNs]
    rw [hmk]
    exact FinB_ret rfl rfl rfl (by simp [(PlL_nds _).reC])
theorem markNeed_nil (k : Nat) (hk : k ≤ 1099511627776) : Fx E 29 [] [.sl ro 2 [], .lit (.int .i64 k)] [] (.lit (.int .i64 k)) := by
  refine (is29.to hE).fx [] (by simp) rfl rfl ?_
  simp [v29]
  refine X_loop (τ := Nat) (fun i => ⟨[(0, .sl ro 2 []), (1, .lit (.int .i64 k)), (5, .lit (.int .i64 0))], []⟩) (fun i => True) (fun i => 0) 0 trivial (Wk.both (by simp [wkL, wkV.same]) trivial) ?_
  intro i _
  simp
  exact Fin_ret rfl (by simp [reC])
theorem heldNeed_fx (n k : Nat) (h0 : 0 < k) (hn : n ≤ 1099511627776) (hk : k + 2 * n ≤ 1099511627776) : Fx E 30 [] [.sl ro 2 ((mkNs k n).map fun x => .agg x.av), .lit (.int .i64 k)] [] (.lit (.int .i64 ((k : Int) + 2 * n))) := by
  have hl : (mkNs k n).length = n := by simp [mkNs]
  refine (is30.to hE).fx [] (by simp) rfl rfl ?_
  simp [v30]
  refine X_loop (τ := Nat) (fun i => ⟨[(0, .sl ro 2 ((mkNs k n).map fun x => .agg x.av)), (1, .lit (.int .i64 ((k : Int) + 2 * i))), (5, .lit (.int .i64 i))], []⟩) (fun i => i ≤ n) (fun i => n - i) 0 (by simp) (Wk.both (by simp [wkL, wkV.same]) trivial) ?_
  intro i hi
  simp [hl]
  by_cases hlt : i < n
  · have hm : (mkNs k n)[i]? = some (mkN k i) := by simp [mkNs, hlt]
    have hav : (mkN k i).av = [.lit (.string (mkT (k + 2 * i))), .lit (.string (mkT (k + 2 * i + 1)))] := rfl
    simp [hlt, ro, mkF, hm, hav]
    refine vcall_go (markText_fx hE (k + 2 * i) (by omega) (by omega)) (by simp) (by simp) (by simp) (by simp) ?_
    simp [hlt, ro, mkF, hm, hav]
    rw [wrap_i64 (by omega) (by omega)]
    refine vcall_go (markText_fx hE (k + 2 * i + 1) (by omega) (by omega)) (by simp) (by simp) (by simp) (by simp) ?_
    simp [hlt, ro, mkF, hm, hav]
    have e1 : IntKind.i64.wrap ((k : Int) + 2 * i + 1 + 1) = (k : Int) + 2 * (i + 1 : Nat) := by rw [wrap_i64 (by omega) (by omega)]; omega
    rw [e1]
    exact ⟨i + 1, by omega, by omega, Wk.both (by simp [wkL, wkV.same, ro]; rw [wrapN (by omega)]; exact wkV.same _) trivial⟩
  · obtain rfl : i = n := by omega
    simp
    exact Fin_ret rfl (by simp [reC])
theorem markEntry_junk (l : List En) (k : Nat) (h0 : 0 < k) (hl : l.length ≤ 1048576) (hk : k + cntE l ≤ 1099511627776) : Fx E 28 [] [.hs 5 (l.map fun x => .agg x.hv), .lit (.int .i64 k)] [] (.lit (.int .i64 ((k : Int) + cntE l))) := by
  refine (is28.to hE).fx [] (by simp) rfl rfl ?_
  simp [v28]
  refine X_loop (τ := Nat) (fun i => ⟨[(0, .hs 5 (l.map fun x => .agg x.hv)), (1, .lit (.int .i64 ((k : Int) + cntE (l.take i)))), (5, .lit (.int .i64 i))], []⟩) (fun i => i ≤ l.length) (fun i => l.length - i) 0 (by simp) (Wk.both (by simp [wkL, wkV.same, cntE]) trivial) ?_
  intro i hi
  simp
  have hle := cntE_le l i
  by_cases hlt : i < l.length
  · have ht := cntE_take l i hlt
    have hle2 := cntE_le l (i + 1)
    have hcn : l[i].cnt = 2 * l[i].heads.length + 3 + 2 * l[i].needs.length := rfl
    have hav : l[i].hv = [.hs 2 (List.replicate l[i].heads.length (.agg [.un, .un])), .un, .un, .un, .hs 2 (List.replicate l[i].needs.length (.agg [.un, .un]))] := rfl
    simp [hlt, hav, okC]
    refine vcall_go (markNeed_junk hE l[i].heads.length (k + cntE (l.take i)) (by omega) (by omega) (by omega)) (by simp) (by simp) (by simp) (by simp) ?_
    simp [hlt, hav, okC]
    refine vcall_go (markText_fx hE (k + cntE (l.take i) + 2 * l[i].heads.length) (by omega) (by omega)) (by simp) (by simp) (by simp) (by simp) ?_
    simp [hlt, hav, okC]
    rw [wrap_i64 (by omega) (by omega)]
    refine vcall_go (markText_fx hE (k + cntE (l.take i) + 2 * l[i].heads.length + 1) (by omega) (by omega)) (by simp) (by simp) (by simp) (by simp) ?_
    simp [hlt, hav, okC]
    rw [wrap_i64 (by omega) (by omega)]
    refine vcall_go (markText_fx hE (k + cntE (l.take i) + 2 * l[i].heads.length + 1 + 1) (by omega) (by omega)) (by simp) (by simp) (by simp) (by simp) ?_
    simp [hlt, hav, okC]
    rw [wrap_i64 (by omega) (by omega)]
    refine vcall_go (markNeed_junk hE l[i].needs.length (k + cntE (l.take i) + 2 * l[i].heads.length + 1 + 1 + 1) (by omega) (by omega) (by omega)) (by simp) (by simp) (by simp) (by simp) ?_
    simp [hlt, hav, okC]
    have e1 : (k : Int) + cntE (l.take i) + 2 * l[i].heads.length + 1 + 1 + 1 + 2 * l[i].needs.length = (k : Int) + cntE (l.take (i + 1)) := by omega
    rw [e1]
    exact ⟨i + 1, by omega, by omega, Wk.both (by simp [wkL, wkV.same]; rw [wrapN (by omega)]; exact wkV.same _) trivial⟩
  · obtain rfl : i = l.length := by omega
    simp
    exact Fin_ret rfl (by simp [reC])
end
end Go.Proofs.Ytpopccnnjpdmlaa.Vm
