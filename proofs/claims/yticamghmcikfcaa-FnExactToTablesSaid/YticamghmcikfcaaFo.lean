/- FieldOf: both sides. -/
import Derived.Test.YticamghmcikfcaaTbl
namespace Go.Proofs.Yticamghmcikfcaa.Vm
open Go Go.RowKit
set_option linter.unusedVariables false
set_option linter.unusedSimpArgs false
def v42 : VC := .seq (.reg false [⟨some 1, .box 4 (.t 0), none⟩, ⟨some 2, .alloc (.agg [(.lit (.string (by8 ""))), (.lit (.string (by8 ""))), (.sl ⟨.nl, true⟩ 1 []), (.lit (.bool false))]), none⟩] []) (.seq (.reg false [⟨some 3, .bsl 1 [], none⟩, ⟨some 4, .fa 2 (.t 1), none⟩, ⟨some 5, .ld false 1 (.t 4), none⟩, ⟨some 6, .app 1 16 (.t 3) (.t 5), none⟩, ⟨some 7, .fa 2 (.t 1), none⟩, ⟨none, .st 1 (.t 7) (.t 6), none⟩] [3, 4, 5, 6, 7]) (.seq (.reg false [⟨some 8, .ld true 4 (.t 1), none⟩, ⟨none, .st 4 (.t 2) (.t 8), none⟩] [8]) (.ret)))
theorem is42 : Is Go.Proofs.Try.prog 42 9 v42 [.b 2 true 4] := ⟨Go.Proofs.Try.f42, dl [(1, [3, 4, 5, 6, 7]), (2, [8])], Go.Proofs.Try.func42, by kernel_rfl, by kernel_rfl, by kernel_rfl, by kernel_rfl⟩
def v29 : VC := .seq (.reg false [⟨some 4, .as (.c (.lit (.int .i64 0))), none⟩] [4]) (.seq (.seq (.reg false [⟨some 5, .as (.c (.lit (.int .i64 0))), none⟩] []) (.block 0 (.loop (.seq (.seq (.reg false [⟨some 6, .mv (.t 5), none⟩, ⟨some 7, .mv (.t 0), none⟩, ⟨some 8, .len false (.t 7), none⟩, ⟨some 9, .bin .lss 0 (.t 6) (.t 8), none⟩] [6, 7, 8]) (.cond (.t 9) (.skip) (.exit 0))) (.seq (.block 1 (.seq (.reg false [⟨some 12, .mv (.t 0), none⟩, ⟨some 13, .mv (.t 5), none⟩, ⟨some 14, .mv (.t 1), none⟩, ⟨some 15, .call false 28 [(.t 14)], none⟩, ⟨some 16, .ia 4 (.t 12) (.t 13), none⟩, ⟨some 17, .fa 0 (.t 16), none⟩, ⟨none, .st 1 (.t 17) (.t 15), none⟩] [12, 13, 14, 15, 16, 17]) (.seq (.reg false [⟨some 18, .mv (.t 1), none⟩, ⟨some 19, .bin .add 0 (.t 18) (.c (.lit (.int .i64 1))), none⟩, ⟨some 1, .as (.t 19), none⟩] [18, 19]) (.seq (.reg false [⟨some 20, .mv (.t 0), none⟩, ⟨some 21, .mv (.t 5), none⟩, ⟨some 22, .mv (.t 1), none⟩, ⟨some 23, .call false 28 [(.t 22)], none⟩, ⟨some 24, .ia 4 (.t 20) (.t 21), none⟩, ⟨some 25, .fa 1 (.t 24), none⟩, ⟨none, .st 1 (.t 25) (.t 23), none⟩] [20, 21, 22, 23, 24, 25]) (.seq (.reg false [⟨some 26, .mv (.t 1), none⟩, ⟨some 27, .bin .add 0 (.t 26) (.c (.lit (.int .i64 1))), none⟩, ⟨some 1, .as (.t 27), none⟩] [26, 27]) (.seq (.reg false [⟨some 28, .mv (.t 0), none⟩, ⟨some 29, .mv (.t 5), none⟩, ⟨some 30, .ia 4 (.t 28) (.t 29), none⟩, ⟨some 31, .fa 2 (.t 30), none⟩, ⟨some 32, .ld false 1 (.t 31), none⟩, ⟨some 33, .mv (.t 1), none⟩, ⟨some 34, .call false 26 [(.t 32), (.t 33)], none⟩, ⟨some 1, .as (.t 34), none⟩] [28, 29, 30, 31, 32, 33, 34]) (.seq (.reg false [⟨some 35, .mv (.t 0), none⟩, ⟨some 36, .mv (.t 5), none⟩, ⟨some 37, .mv (.t 1), none⟩, ⟨some 38, .bin .rem 0 (.t 37) (.c (.lit (.int .i64 3))), none⟩, ⟨some 39, .bin .eql 0 (.t 38) (.c (.lit (.int .i64 0))), none⟩, ⟨some 40, .ia 4 (.t 35) (.t 36), none⟩, ⟨some 41, .fa 3 (.t 40), none⟩, ⟨none, .st 1 (.t 41) (.t 39), none⟩] [35, 36, 37, 38, 39, 40, 41]) (.reg false [⟨some 42, .mv (.t 1), none⟩, ⟨some 43, .bin .add 0 (.t 42) (.c (.lit (.int .i64 1))), none⟩, ⟨some 1, .as (.t 43), none⟩] [42, 43])))))))) (.reg false [⟨some 10, .mv (.t 5), none⟩, ⟨some 11, .bin .add 0 (.t 10) (.c (.lit (.int .i64 1))), none⟩, ⟨some 5, .as (.t 11), none⟩] [10, 11])))))) (.seq (.reg false [⟨some 44, .mv (.t 1), none⟩, ⟨some 4, .as (.t 44), none⟩] [44]) (.ret)))
theorem is29 : Is Go.Proofs.Try.prog 29 45 v29 [.t 4] := ⟨Go.Proofs.Try.f29, dl [(0, [4]), (2, [6, 7, 8]), (4, [12, 13, 14, 15, 16, 17]), (5, [18, 19]), (6, [20, 21, 22, 23, 24, 25]), (7, [26, 27]), (8, [28, 29, 30, 31, 32, 33, 34]), (9, [35, 36, 37, 38, 39, 40, 41]), (10, [42, 43]), (3, [10, 11]), (11, [44])], Go.Proofs.Try.func29, by kernel_rfl, by kernel_rfl, by kernel_rfl, by kernel_rfl⟩
theorem Fin_wk {K : Nat → Prop} {rs : List VR} {r r' : AV} {ks : List Nat} {s s1 : AS} (hw : Wk K s1 s) (h : resVs s1 rs = some [r']) (h2 : r = reC ks r') : FinK K rs r ks .ret s := ⟨.inr rfl, s1, hw, _, h, h2⟩
theorem Fin_wk2 {K : Nat → Prop} {rs : List VR} {r r1 r2 : AV} {ks : List Nat} {s s1 : AS} (hw : Wk K s1 s) (h : resVs s1 rs = some [r1, r2]) (h2 : r = reC ks (.tup [r1, r2])) : FinK K rs r ks .ret s := ⟨.inr rfl, s1, hw, _, h, h2⟩
theorem PlL.noB {d : Nat} : ∀ {l : List AV}, PlL l → noB.noL d l = true
  | [], _ => rfl
  | c :: l, h => by
    obtain ⟨h1, h2⟩ := PlL_cons.1 h
    simp only [noB.noL, h1.noB, PlL.noB h2, Bool.and_self]
theorem PlL.dat {l : List AV} (h : PlL l) : dat.datL l = true := datL_iff.2 fun a ha => (PlL_iff.1 h a ha).dat
theorem wkV_no (ap : Ap) (b : Bool) (sz : Nat) (xs : List AV) : wkV (.sl ⟨.no, b⟩ sz xs) (.sl ⟨ap, b⟩ sz xs) := .inr (.inr ⟨_, _, _, _, _, rfl, rfl, id, .inl ⟨rfl, .inl rfl⟩⟩)
def findF (l : List Fld) (k : ByteArray) : Option Fld := l.find? fun f => decide (f.key = k)
def fldRes : Option Fld → AV
  | some f => .tup [.agg (mkF.mkL true f.av), .lit (.bool true)]
  | none => .tup [.agg [.lit (.string (by8 "")), .lit (.string (by8 "")), .sl ⟨.nl, true⟩ 1 [], .lit (.bool false)], .lit (.bool false)]
theorem find_hit {l : List Fld} {k : ByteArray} {i : Nat} (h : i < l.length) (hk : l[i].key = k) (hall : ∀ (j : Nat) (f : Fld), j < i → l[j]? = some f → f.key ≠ k) : findF l k = some l[i] := by
  unfold findF
  rw [List.find?_eq_some_iff_getElem]
  refine ⟨by simp [hk], i, h, rfl, fun j hj => ?_⟩
  have := hall j l[j] hj (List.getElem?_eq_getElem _)
  simpa using this
theorem find_none {l : List Fld} {k : ByteArray} (hall : ∀ (j : Nat) (f : Fld), l[j]? = some f → f.key ≠ k) : findF l k = none := by
  unfold findF
  rw [List.find?_eq_none]
  intro f hf
  obtain ⟨j, hj, rfl⟩ := List.getElem_of_mem hf
  simpa using hall j _ (List.getElem?_eq_getElem hj)
/-- how many marks -/
def Fld.cnt (f : Fld) : Nat := f.list.length + 3
def cntL : List Fld → Nat
  | [] => 0
  | f :: l => f.cnt + cntL l
theorem cntL_take : ∀ (l : List Fld) (i : Nat) (h : i < l.length), cntL (l.take (i + 1)) = cntL (l.take i) + l[i].cnt
  | [], i, h => by simp at h
  | x :: l, 0, h => by simp [cntL]
  | x :: l, i + 1, h => by
    have := cntL_take l i (by simpa using h)
    simp only [List.take_succ_cons, cntL, List.getElem_cons_succ]
    omega
theorem cntL_le : ∀ (l : List Fld) (i : Nat), cntL (l.take i) ≤ cntL l
  | [], i => by simp
  | x :: l, 0 => by simp [cntL]
  | x :: l, i + 1 => by
    have := cntL_le l i
    simp only [List.take_succ_cons, cntL]; omega
/-- the fields as junk -/
def Fld.hv (f : Fld) : List AV := [.un, .un, .hs 1 (List.replicate f.list.length .un), .un]
theorem hsL_strs (l : List ByteArray) : hsE.hsL (l.map fun x => AV.lit (.string x)) = List.replicate l.length .un := by
  induction l with
  | nil => rfl
  | cons x l ih => simp [hsE.hsL, hsE, ih, List.replicate_succ]
theorem hsL_flds (l : List Fld) : hsE.hsL (l.map fun x => AV.agg x.av) = l.map fun x => AV.agg x.hv := by
  induction l with
  | nil => rfl
  | cons x l ih =>
    have h1 : hsE.hsL x.av = x.hv := by simp [Fld.av, Fld.hv, hsE.hsL, hsE, hsL_strs]
    simp only [List.map_cons, hsE.hsL, hsE, ih, h1]
section
variable {E : Env} (hE : E.P = Go.Proofs.Try.prog)
include hE
theorem l07Copy_fx (f : Fld) (hl : f.list.length ≤ 1048576) : Fx E 42 [] [.agg f.av] [] (.agg (mkF.mkL true f.av)) := by
  refine (is42.to hE).fx [] (by simp) rfl rfl ?_
  simp [v42, Fld.av, okC, mkF, mkF.mkL, putElem, upd, AS.dem, mapV, dem, dem.demL, frA.frL, ro]
  refine ⟨by omega, ?_⟩
  exact Fin_wk (.frs _) rfl (by simp [reC, reC.reL, frU, frU.frUL])
theorem markFieldS_junk (l : List Fld) (k : Nat) (h0 : 0 < k) (hl : l.length ≤ 1048576) (hk : k + cntL l ≤ 1152921504606846976) : Fx E 29 [] [.hs 4 (l.map fun x => .agg x.hv), .lit (.int .i64 k)] [] (.lit (.int .i64 ((k : Int) + cntL l))) := by
  refine (is29.to hE).fx [] (by simp) rfl rfl ?_
  simp [v29]
  refine X_loop (τ := Nat) (fun i => ⟨[(0, .hs 4 (l.map fun x => .agg x.hv)), (1, .lit (.int .i64 ((k : Int) + cntL (l.take i)))), (5, .lit (.int .i64 i))], []⟩) (fun i => i ≤ l.length) (fun i => l.length - i) 0 (by simp) (Wk.both (by simp [wkL, wkV.same, cntL]) trivial) ?_
  intro i hi
  simp
  have hle := cntL_le l i
  by_cases hlt : i < l.length
  · have ht := cntL_take l i hlt
    have hle2 := cntL_le l (i + 1)
    have hcn : l[i].cnt = l[i].list.length + 3 := rfl
    have hav : l[i].hv = [.un, .un, .hs 1 (List.replicate l[i].list.length .un), .un] := rfl
    simp [hlt]
    refine vcall_go (markText_fx hE (k + cntL (l.take i)) (by omega) (by omega)) (by simp) (by simp) (by simp) (by simp) ?_
    simp [hlt, hav, okC]
    rw [wrap_i64 (by omega) (by omega)]
    refine vcall_go (markText_fx hE (k + cntL (l.take i) + 1) (by omega) (by omega)) (by simp) (by simp) (by simp) (by simp) ?_
    simp [hlt, hav, okC]
    rw [wrap_i64 (by omega) (by omega)]
    refine vcall_go (markStr_junk hE l[i].list.length (k + cntL (l.take i) + 1 + 1) (by omega) (by omega)) (by simp) (by simp) (by simp) (by simp) ?_
    simp [hlt, hav, okC]
    have e1 : IntKind.i64.wrap ((k : Int) + cntL (l.take i) + 1 + 1 + l[i].list.length + 1) = (k : Int) + cntL (l.take (i + 1)) := by rw [wrap_i64 (by omega) (by omega)]; omega
    rw [e1]
    exact ⟨i + 1, by omega, by omega, Wk.both (by simp [wkL, wkV.same]; rw [wrapN (by omega)]; exact wkV.same _) trivial⟩
  · obtain rfl : i = l.length := by omega
    simp
    exact Fin_ret rfl (by simp [reC])
theorem markStr_nil (k : Nat) (hk : k ≤ 1152921504606846976) : Fx E 26 [] [.sl ro 1 [], .lit (.int .i64 k)] [] (.lit (.int .i64 k)) := by
  refine (is26.to hE).fx [] (by simp) rfl rfl ?_
  simp [v26]
  refine X_loop (τ := Nat) (fun i => ⟨[(0, .sl ro 1 []), (1, .lit (.int .i64 k)), (5, .lit (.int .i64 0))], []⟩) (fun i => True) (fun i => 0) 0 trivial (Wk.both (by simp [wkL, wkV.same]) trivial) ?_
  intro i _
  simp
  exact Fin_ret rfl (by simp [reC])
end
end Go.Proofs.Yticamghmcikfcaa.Vm
