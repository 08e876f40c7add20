/- FieldOf: both sides. -/
import Derived.Test.YtpopccnnjpdmlaaTbl
namespace Go.Proofs.Ytpopccnnjpdmlaa.Vm
open Go Go.RowKit
set_option linter.unusedVariables false
set_option linter.unusedSimpArgs false
def v57 : VC := .seq (.reg false [⟨some 2, .as (.c (.sl ⟨.nl, true⟩ 1 [])), none⟩] [2]) (.seq (.seq (.reg false [⟨some 3, .mv (.t 0), none⟩, ⟨some 4, .isn false (.t 3), none⟩] [3]) (.cond (.t 4) (.seq (.reg false [⟨some 2, .as (.c (.sl ⟨.nl, true⟩ 1 [])), none⟩] []) (.ret)) (.skip))) (.seq (.reg false [⟨some 5, .bsl 1 [], none⟩, ⟨some 6, .mv (.t 0), none⟩, ⟨some 7, .app 1 16 (.t 5) (.t 6), none⟩, ⟨some 2, .as (.t 7), none⟩] [5, 6, 7]) (.ret)))
theorem is57 : Is Go.Proofs.Try.prog 57 8 v57 [.t 2] := ⟨Go.Proofs.Try.f57, dl [(0, [2]), (1, [3]), (3, [5, 6, 7])], Go.Proofs.Try.func57, by kernel_rfl, by kernel_rfl, by kernel_rfl, by kernel_rfl⟩
def v55 : VC := .seq (.reg false [⟨some 1, .box 4 (.t 0), none⟩, ⟨some 2, .alloc (.agg [(.lit (.string (by8 ""))), (.lit (.string (by8 ""))), (.sl ⟨.nl, true⟩ 1 []), (.lit (.bool false))]), none⟩] []) (.seq (.reg false [⟨some 3, .bsl 1 [], none⟩, ⟨some 4, .fa 2 (.t 1), none⟩, ⟨some 5, .ld false 1 (.t 4), none⟩, ⟨some 6, .app 1 16 (.t 3) (.t 5), none⟩, ⟨some 7, .fa 2 (.t 1), none⟩, ⟨none, .st 1 (.t 7) (.t 6), none⟩] [3, 4, 5, 6, 7]) (.seq (.reg false [⟨some 8, .ld true 4 (.t 1), none⟩, ⟨none, .st 4 (.t 2) (.t 8), none⟩] [8]) (.ret)))
theorem is55 : Is Go.Proofs.Try.prog 55 9 v55 [.b 2 true 4] := ⟨Go.Proofs.Try.f55, dl [(1, [3, 4, 5, 6, 7]), (2, [8])], Go.Proofs.Try.func55, by kernel_rfl, by kernel_rfl, by kernel_rfl, by kernel_rfl⟩
def v14 : VC := .seq (.reg false [⟨some 2, .box 2 (.t 0), none⟩, ⟨some 4, .alloc (.agg [(.lit (.string (by8 ""))), (.lit (.string (by8 ""))), (.sl ⟨.nl, true⟩ 1 []), (.lit (.bool false))]), none⟩, ⟨some 5, .as (.c (.lit (.bool false))), none⟩] [5]) (.seq (.seq (.reg false [⟨some 6, .as (.c (.lit (.int .i64 0))), none⟩] []) (.block 0 (.loop (.seq (.seq (.reg false [⟨some 7, .mv (.t 6), none⟩, ⟨some 8, .fa 1 (.t 2), none⟩, ⟨some 9, .ld false 1 (.t 8), none⟩, ⟨some 10, .len false (.t 9), none⟩, ⟨some 11, .bin .lss 0 (.t 7) (.t 10), none⟩] [7, 8, 9, 10]) (.cond (.t 11) (.skip) (.exit 0))) (.seq (.block 1 (.seq (.reg false [⟨some 14, .fa 1 (.t 2), none⟩, ⟨some 15, .ld false 1 (.t 14), none⟩, ⟨some 16, .mv (.t 6), none⟩, ⟨some 17, .ia 4 (.t 15) (.t 16), none⟩, ⟨some 18, .fa 0 (.t 17), none⟩, ⟨some 19, .ld false 1 (.t 18), none⟩, ⟨some 20, .mv (.t 1), none⟩, ⟨some 21, .bin .eql 0 (.t 19) (.t 20), none⟩] [14, 15, 16, 17, 18, 19, 20]) (.cond (.t 21) (.seq (.reg false [⟨some 22, .fa 1 (.t 2), none⟩, ⟨some 23, .ld false 1 (.t 22), none⟩, ⟨some 24, .mv (.t 6), none⟩, ⟨some 25, .ia 4 (.t 23) (.t 24), none⟩, ⟨some 26, .ld true 4 (.t 25), none⟩, ⟨some 27, .call false 55 [(.t 26)], none⟩, ⟨none, .st 4 (.t 4) (.t 27), none⟩, ⟨some 5, .as (.c (.lit (.bool true))), none⟩] [22, 23, 24, 25, 26, 27]) (.ret)) (.skip)))) (.reg false [⟨some 12, .mv (.t 6), none⟩, ⟨some 13, .bin .add 0 (.t 12) (.c (.lit (.int .i64 1))), none⟩, ⟨some 6, .as (.t 13), none⟩] [12, 13])))))) (.seq (.reg false [⟨some 28, .bld [(.lit (.string (by8 ""))), (.lit (.string (by8 ""))), (.sl ⟨.nl, true⟩ 1 []), (.lit (.bool false))] [], none⟩, ⟨none, .st 4 (.t 4) (.t 28), none⟩, ⟨some 5, .as (.c (.lit (.bool false))), none⟩] [28]) (.ret)))
theorem is14 : Is Go.Proofs.Try.prog 14 29 v14 [.b 4 true 4, .t 5] := ⟨Go.Proofs.Try.f14, dl [(0, [5]), (2, [7, 8, 9, 10]), (4, [14, 15, 16, 17, 18, 19, 20]), (5, [22, 23, 24, 25, 26, 27]), (3, [12, 13]), (6, [28])], Go.Proofs.Try.func14, by kernel_rfl, by kernel_rfl, by kernel_rfl, by kernel_rfl⟩
def v16 : VC := .seq (.reg false [⟨some 2, .box 2 (.t 0), none⟩, ⟨some 4, .alloc (.agg [(.lit (.string (by8 ""))), (.lit (.string (by8 ""))), (.sl ⟨.nl, true⟩ 1 []), (.lit (.bool false))]), none⟩, ⟨some 5, .as (.c (.lit (.bool false))), none⟩] [5]) (.seq (.seq (.reg false [⟨some 8, .fa 1 (.t 2), none⟩, ⟨some 9, .ld false 1 (.t 8), none⟩, ⟨some 10, .len false (.t 9), none⟩, ⟨some 11, .mv (.c (.lit (.int .i64 0))), none⟩] [8]) (.block 0 (.loop (.seq (.reg false [⟨some 12, .bin .lss 0 (.t 11) (.t 10), none⟩] []) (.seq (.cond (.t 12) (.skip) (.exit 0)) (.seq (.block 1 (.seq (.reg false [⟨some 13, .ia 4 (.t 9) (.t 11), none⟩, ⟨some 14, .ld true 4 (.t 13), none⟩, ⟨some 7, .alloc (.agg [(.lit (.string (by8 ""))), (.lit (.string (by8 ""))), (.sl ⟨.nl, true⟩ 1 []), (.lit (.bool false))]), none⟩, ⟨none, .st 4 (.t 7) (.t 14), none⟩] [13, 14]) (.seq (.reg false [⟨some 15, .fa 0 (.t 7), none⟩, ⟨some 16, .ld false 1 (.t 15), none⟩, ⟨some 17, .mv (.t 1), none⟩, ⟨some 18, .bin .eql 0 (.t 16) (.t 17), none⟩] [15, 16, 17]) (.cond (.t 18) (.seq (.reg false [⟨some 19, .fa 2 (.t 7), none⟩, ⟨some 20, .ld false 1 (.t 19), none⟩, ⟨some 21, .call false 57 [(.t 20)], none⟩, ⟨some 22, .fa 2 (.t 7), none⟩, ⟨none, .st 1 (.t 22) (.t 21), none⟩] [19, 20, 21, 22]) (.seq (.reg false [⟨some 23, .ld true 4 (.t 7), none⟩, ⟨none, .st 4 (.t 4) (.t 23), none⟩, ⟨some 5, .as (.c (.lit (.bool true))), none⟩] [23]) (.ret))) (.skip))))) (.reg false [⟨some 24, .bin .add 0 (.t 11) (.c (.lit (.int .i64 1))), none⟩, ⟨some 11, .mv (.t 24), none⟩] [24]))))))) (.seq (.reg false [⟨some 25, .bld [(.lit (.string (by8 ""))), (.lit (.string (by8 ""))), (.sl ⟨.nl, true⟩ 1 []), (.lit (.bool false))] [], none⟩, ⟨none, .st 4 (.t 4) (.t 25), none⟩, ⟨some 5, .as (.c (.lit (.bool false))), none⟩] [25]) (.ret)))
theorem is16 : Is Go.Proofs.Try.prog 16 26 v16 [.b 4 true 4, .t 5] := ⟨Go.Proofs.Try.f16, dl [(0, [5]), (1, [8]), (3, [13, 14]), (4, [15, 16, 17]), (5, [19, 20, 21, 22]), (6, [23]), (7, [24]), (8, [25])], Go.Proofs.Try.func16, by kernel_rfl, by kernel_rfl, by kernel_rfl, by kernel_rfl⟩
def v59 : VC := .seq (.reg false [⟨some 4, .as (.c (.lit (.int .i64 0))), none⟩] [4]) (.seq (.seq (.reg false [⟨some 5, .as (.c (.lit (.int .i64 0))), none⟩] []) (.block 0 (.loop (.seq (.seq (.reg false [⟨some 6, .mv (.t 5), none⟩, ⟨some 7, .mv (.t 0), none⟩, ⟨some 8, .len false (.t 7), none⟩, ⟨some 9, .bin .lss 0 (.t 6) (.t 8), none⟩] [6, 7, 8]) (.cond (.t 9) (.skip) (.exit 0))) (.seq (.block 1 (.seq (.reg false [⟨some 12, .mv (.t 0), none⟩, ⟨some 13, .mv (.t 5), none⟩, ⟨some 14, .mv (.t 1), none⟩, ⟨some 15, .call false 69 [(.t 14)], none⟩, ⟨some 16, .ia 4 (.t 12) (.t 13), none⟩, ⟨some 17, .fa 0 (.t 16), none⟩, ⟨none, .st 1 (.t 17) (.t 15), none⟩] [12, 13, 14, 15, 16, 17]) (.seq (.reg false [⟨some 18, .mv (.t 1), none⟩, ⟨some 19, .bin .add 0 (.t 18) (.c (.lit (.int .i64 1))), none⟩, ⟨some 1, .as (.t 19), none⟩] [18, 19]) (.seq (.reg false [⟨some 20, .mv (.t 0), none⟩, ⟨some 21, .mv (.t 5), none⟩, ⟨some 22, .mv (.t 1), none⟩, ⟨some 23, .call false 69 [(.t 22)], none⟩, ⟨some 24, .ia 4 (.t 20) (.t 21), none⟩, ⟨some 25, .fa 1 (.t 24), none⟩, ⟨none, .st 1 (.t 25) (.t 23), none⟩] [20, 21, 22, 23, 24, 25]) (.seq (.reg false [⟨some 26, .mv (.t 1), none⟩, ⟨some 27, .bin .add 0 (.t 26) (.c (.lit (.int .i64 1))), none⟩, ⟨some 1, .as (.t 27), none⟩] [26, 27]) (.seq (.reg false [⟨some 28, .mv (.t 0), none⟩, ⟨some 29, .mv (.t 5), none⟩, ⟨some 30, .ia 4 (.t 28) (.t 29), none⟩, ⟨some 31, .fa 2 (.t 30), none⟩, ⟨some 32, .ld false 1 (.t 31), none⟩, ⟨some 33, .mv (.t 1), none⟩, ⟨some 34, .call false 60 [(.t 32), (.t 33)], none⟩, ⟨some 1, .as (.t 34), none⟩] [28, 29, 30, 31, 32, 33, 34]) (.seq (.reg false [⟨some 35, .mv (.t 0), none⟩, ⟨some 36, .mv (.t 5), none⟩, ⟨some 37, .mv (.t 1), none⟩, ⟨some 38, .bin .rem 0 (.t 37) (.c (.lit (.int .i64 3))), none⟩, ⟨some 39, .bin .eql 0 (.t 38) (.c (.lit (.int .i64 0))), none⟩, ⟨some 40, .ia 4 (.t 35) (.t 36), none⟩, ⟨some 41, .fa 3 (.t 40), none⟩, ⟨none, .st 1 (.t 41) (.t 39), none⟩] [35, 36, 37, 38, 39, 40, 41]) (.reg false [⟨some 42, .mv (.t 1), none⟩, ⟨some 43, .bin .add 0 (.t 42) (.c (.lit (.int .i64 1))), none⟩, ⟨some 1, .as (.t 43), none⟩] [42, 43])))))))) (.reg false [⟨some 10, .mv (.t 5), none⟩, ⟨some 11, .bin .add 0 (.t 10) (.c (.lit (.int .i64 1))), none⟩, ⟨some 5, .as (.t 11), none⟩] [10, 11])))))) (.seq (.reg false [⟨some 44, .mv (.t 1), none⟩, ⟨some 4, .as (.t 44), none⟩] [44]) (.ret)))
theorem is59 : Is Go.Proofs.Try.prog 59 45 v59 [.t 4] := ⟨Go.Proofs.Try.f59, dl [(0, [4]), (2, [6, 7, 8]), (4, [12, 13, 14, 15, 16, 17]), (5, [18, 19]), (6, [20, 21, 22, 23, 24, 25]), (7, [26, 27]), (8, [28, 29, 30, 31, 32, 33, 34]), (9, [35, 36, 37, 38, 39, 40, 41]), (10, [42, 43]), (3, [10, 11]), (11, [44])], Go.Proofs.Try.func59, by kernel_rfl, by kernel_rfl, by kernel_rfl, by kernel_rfl⟩
def v19 : VC := .seq (.reg false [⟨some 2, .box 2 (.t 0), none⟩, ⟨some 4, .as (.c (.lit (.int .i64 0))), none⟩] [4]) (.seq (.reg false [⟨some 5, .fa 1 (.t 2), none⟩, ⟨some 6, .ld false 1 (.t 5), none⟩, ⟨some 7, .mv (.t 1), none⟩, ⟨some 8, .call false 59 [(.t 6), (.t 7)], none⟩, ⟨some 1, .as (.t 8), none⟩] [5, 6, 7, 8]) (.seq (.reg false [⟨some 9, .mv (.t 1), none⟩, ⟨some 4, .as (.t 9), none⟩] [9]) (.ret)))
theorem is19 : Is Go.Proofs.Try.prog 19 10 v19 [.t 4] := ⟨Go.Proofs.Try.f19, dl [(0, [4]), (1, [5, 6, 7, 8]), (2, [9])], Go.Proofs.Try.func19, by kernel_rfl, by kernel_rfl, by kernel_rfl, by kernel_rfl⟩
def v20 : VC := .seq (.reg false [⟨some 2, .box 4 (.t 0), none⟩, ⟨some 4, .as (.c (.lit (.int .i64 0))), none⟩] [4]) (.seq (.reg false [⟨some 5, .fa 2 (.t 2), none⟩, ⟨some 6, .ld false 1 (.t 5), none⟩, ⟨some 7, .mv (.t 1), none⟩, ⟨some 8, .call false 60 [(.t 6), (.t 7)], none⟩, ⟨some 1, .as (.t 8), none⟩] [5, 6, 7, 8]) (.seq (.reg false [⟨some 9, .mv (.t 1), none⟩, ⟨some 4, .as (.t 9), none⟩] [9]) (.ret)))
theorem is20 : Is Go.Proofs.Try.prog 20 10 v20 [.t 4] := ⟨Go.Proofs.Try.f20, dl [(0, [4]), (1, [5, 6, 7, 8]), (2, [9])], Go.Proofs.Try.func20, by kernel_rfl, by kernel_rfl, by kernel_rfl, by kernel_rfl⟩
def v21 : VC := .seq (.reg false [⟨some 2, .box 4 (.t 0), none⟩, ⟨some 4, .as (.c (.lit (.int .i64 0))), none⟩] [4]) (.seq (.reg false [⟨some 5, .fa 2 (.t 2), none⟩, ⟨some 6, .ld false 1 (.t 5), none⟩, ⟨some 7, .mv (.t 1), none⟩, ⟨some 8, .call false 61 [(.t 6), (.t 7)], none⟩, ⟨some 1, .as (.t 8), none⟩] [5, 6, 7, 8]) (.seq (.seq (.reg false [⟨some 9, .mv (.t 1), none⟩, ⟨some 10, .bin .lss 0 (.t 9) (.c (.lit (.int .i64 0))), none⟩] [9]) (.cond (.t 10) (.seq (.reg false [⟨some 4, .as (.c (.lit (.int .i64 (-1)))), none⟩] []) (.ret)) (.skip))) (.seq (.reg false [⟨some 11, .mv (.t 1), none⟩, ⟨some 4, .as (.t 11), none⟩] [11]) (.ret))))
theorem is21 : Is Go.Proofs.Try.prog 21 12 v21 [.t 4] := ⟨Go.Proofs.Try.f21, dl [(0, [4]), (1, [5, 6, 7, 8]), (2, [9]), (4, [11])], Go.Proofs.Try.func21, by kernel_rfl, by kernel_rfl, by kernel_rfl, by kernel_rfl⟩
theorem Fin_wk {rs : List VR} {r r' : AV} {ks : List Nat} {s s1 : AS} (hw : Wk s1 s) (h : resVs s1 rs = some [r']) (h2 : r = reC ks r') : Fin rs r ks .ret s := ⟨.inr rfl, s1, hw, _, h, h2⟩
theorem Fin_wk2 {rs : List VR} {r r1 r2 : AV} {ks : List Nat} {s s1 : AS} (hw : Wk s1 s) (h : resVs s1 rs = some [r1, r2]) (h2 : r = reC ks (.tup [r1, r2])) : Fin rs r ks .ret s := ⟨.inr rfl, s1, hw, _, h, h2⟩
theorem PlL.noB {d : Nat} : ∀ {l : List AV}, PlL l → noB.noL d l = true
  | [], _ => rfl
  | c :: l, h => by
    obtain ⟨h1, h2⟩ := PlL_cons.1 h
    simp only [noB.noL, h1.noB, PlL.noB h2, Bool.and_self]
theorem PlL.dat {l : List AV} (h : PlL l) : dat.datL l = true := datL_iff.2 fun a ha => (PlL_iff.1 h a ha).dat
theorem wkV_no (ap : Ap) (b : Bool) (sz : Nat) (xs : List AV) : wkV (.sl ⟨.no, b⟩ sz xs) (.sl ⟨ap, b⟩ sz xs) := .inr (.inr ⟨_, _, _, _, _, rfl, rfl, id, .inl ⟨rfl, .inl rfl⟩⟩)
def findF (l : List Fld) (k : ByteArray) : Option Fld := l.find? fun f => decide (f.key = k)
def fldRes : Option Fld → AV
  | some f => .tup [.agg (mkF.mkL true f.av), .lit (.bool true)]
  | none => .tup [.agg [.lit (.string (by8 "")), .lit (.string (by8 "")), .sl ⟨.nl, true⟩ 1 [], .lit (.bool false)], .lit (.bool false)]
theorem find_hit {l : List Fld} {k : ByteArray} {i : Nat} (h : i < l.length) (hk : l[i].key = k) (hall : ∀ (j : Nat) (f : Fld), j < i → l[j]? = some f → f.key ≠ k) : findF l k = some l[i] := by
  unfold findF
  rw [List.find?_eq_some_iff_getElem]
  refine ⟨by simp [hk], i, h, rfl, fun j hj => ?_⟩
  have := hall j l[j] hj (List.getElem?_eq_getElem _)
  simpa using this
theorem find_none {l : List Fld} {k : ByteArray} (hall : ∀ (j : Nat) (f : Fld), l[j]? = some f → f.key ≠ k) : findF l k = none := by
  unfold findF
  rw [List.find?_eq_none]
  intro f hf
  obtain ⟨j, hj, rfl⟩ := List.getElem_of_mem hf
  simpa using hall j _ (List.getElem?_eq_getElem hj)
/-- how many marks -/
def Fld.cnt (f : Fld) : Nat := f.list.length + 3
def cntL : List Fld → Nat
  | [] => 0
  | f :: l => f.cnt + cntL l
theorem cntL_take : ∀ (l : List Fld) (i : Nat) (h : i < l.length), cntL (l.take (i + 1)) = cntL (l.take i) + l[i].cnt
  | [], i, h => by simp at h
  | x :: l, 0, h => by simp [cntL]
  | x :: l, i + 1, h => by
    have := cntL_take l i (by simpa using h)
    simp only [List.take_succ_cons, cntL, List.getElem_cons_succ]
    omega
theorem cntL_le : ∀ (l : List Fld) (i : Nat), cntL (l.take i) ≤ cntL l
  | [], i => by simp
  | x :: l, 0 => by simp [cntL]
  | x :: l, i + 1 => by
    have := cntL_le l i
    simp only [List.take_succ_cons, cntL]; omega
/-- the fields as junk -/
def Fld.hv (f : Fld) : List AV := [.un, .un, .hs 1 (List.replicate f.list.length .un), .un]
theorem hsL_strs (l : List ByteArray) : hsE.hsL (l.map fun x => AV.lit (.string x)) = List.replicate l.length .un := by
  induction l with
  | nil => rfl
  | cons x l ih => simp [hsE.hsL, hsE, ih, List.replicate_succ]
theorem hsL_flds (l : List Fld) : hsE.hsL (l.map fun x => AV.agg x.av) = l.map fun x => AV.agg x.hv := by
  induction l with
  | nil => rfl
  | cons x l ih =>
    have h1 : hsE.hsL x.av = x.hv := by simp [Fld.av, Fld.hv, hsE.hsL, hsE, hsL_strs]
    simp only [List.map_cons, hsE.hsL, hsE, ih, h1]
section
variable {E : Env} (hE : E.P = Go.Proofs.Try.prog)
include hE
theorem clone_fx (l : List ByteArray) (hl : l.length ≤ 1048576) : Fx E 57 [] [.sl ro 1 (l.map fun x => .lit (.string x))] [] (.sl ⟨.no, true⟩ 1 (l.map fun x => .lit (.string x))) := by
  refine (is57.to hE).fx [] (by simp) rfl rfl ?_
  simp [v57, AS.dem, mapV, dem, dem.demL, frA.frL, ro]
  refine ⟨⟨by omega, ?_⟩, ?_⟩
  · exact Fin_wk (s1 := ⟨[(2, .sl ⟨.no, true⟩ 1 (l.map fun x => .lit (.string x)))], []⟩) (.trans (Wk.both (by simp [wkL, mapV, frU]; exact wkV_no _ _ _ _) (by simp [wkB, mapV])) (.frs _)) rfl rfl
  · rintro rfl
    exact Fin_wk (s1 := ⟨[(2, .sl ⟨.no, true⟩ 1 [])], []⟩) (Wk.both (by simp [wkL]; exact wkV_no _ _ _ _) (by simp [wkB])) rfl rfl
theorem l07Copy_fx (f : Fld) (hl : f.list.length ≤ 1048576) : Fx E 55 [] [.agg f.av] [] (.agg (mkF.mkL true f.av)) := by
  refine (is55.to hE).fx [] (by simp) rfl rfl ?_
  simp [v55, Fld.av, okC, mkF, mkF.mkL, putElem, upd, AS.dem, mapV, dem, dem.demL, frA.frL, ro]
  refine ⟨by omega, ?_⟩
  exact Fin_wk (.frs _) rfl (by simp [reC, reC.reL, frU, frU.frUL])
theorem specFieldOf_fx (x : Tb) (k : ByteArray) (hl : x.fields.length ≤ 1048576) (hx : ∀ f ∈ x.fields, f.list.length ≤ 1048576) : Fx E 14 [] [.agg x.av, .lit (.string k)] [] (fldRes (findF x.fields k)) := by
  refine (is14.to hE).fx [] (by simp) rfl (by cases findF x.fields k <;> rfl) ?_
  simp [v14, Tb.av, okC, mkF, putElem, upd, ro]
  refine X_loop (τ := Nat) (fun i => ⟨[(1, .lit (.string k)), (2, .ptr 1002 0 0), (4, .ptr 1004 0 0), (6, .lit (.int .i64 i))], [(1002, [.agg x.av]), (1004, [.agg [.lit (.string (by8 "")), .lit (.string (by8 "")), .sl ⟨.nl, true⟩ 1 [], .lit (.bool false)]])]⟩) (fun i => i ≤ x.fields.length ∧ ∀ (j : Nat) (f : Fld), j < i → x.fields[j]? = some f → f.key ≠ k) (fun i => x.fields.length - i) 0 (by simp) (Wk.both (by simp [wkL, wkV.same]) (by simp [wkB, Tb.av, ro])) ?_
  rintro i ⟨hi, hall⟩
  simp [Tb.av, mkF, ro]
  by_cases hlt : i < x.fields.length
  · have hav : x.fields[i].av = [.lit (.string x.fields[i].key), .lit (.string x.fields[i].text), .sl ro 1 (x.fields[i].list.map fun x => .lit (.string x)), .lit (.bool x.fields[i].isL)] := rfl
    simp [hlt, mkF, hav, ro]
    by_cases c : x.fields[i].key = k
    · have hf := find_hit hlt c hall
      rw [hf]
      simp [c, mkF, mkF.mkL, hlt, hav, ro]
      refine vcall_go (l07Copy_fx hE x.fields[i] (hx _ (List.getElem_mem hlt))) (by rw [hav, c]; simp [ro]) (by simp) (by simp) (by simp) ?_
      simp [hav, mkF, mkF.mkL, okC, putElem, upd]
      exact Fin_wk2 (.refl _) rfl (by simp [fldRes, reC, reC.reL, hav, mkF, mkF.mkL])
    · simp [c]
      refine ⟨i + 1, ⟨by omega, fun j f hj hf => ?_⟩, by omega, Wk.both (by simp [wkL, wkV.same]; rw [wrapN (by omega)]; exact wkV.same _) (by simp [wkB, Tb.av, ro])⟩
      rcases Nat.lt_succ_iff_lt_or_eq.1 hj with h | rfl
      · exact hall j f h hf
      · rw [List.getElem?_eq_getElem hlt] at hf; rw [← Option.some.inj hf]; exact c
  · have hf := find_none fun j f hf => hall j f (by have := (List.getElem?_eq_some_iff.1 hf).1; omega) hf
    rw [hf]
    simp [hlt, okC, putElem, upd, fill]
    exact Fin_wk2 (.refl _) rfl rfl
theorem implFieldOf_fx (x : Tb) (k : ByteArray) (hl : x.fields.length ≤ 1048576) (hx : ∀ f ∈ x.fields, f.list.length ≤ 1048576) : Fx E 16 [] [.agg x.av, .lit (.string k)] [] (fldRes (findF x.fields k)) := by
  refine (is16.to hE).fx [] (by simp) rfl (by cases findF x.fields k <;> rfl) ?_
  simp [v16, Tb.av, okC, mkF, putElem, upd, ro]
  refine X_loop (τ := Nat) (fun i => ⟨[(1, .lit (.string k)), (4, .ptr 1004 0 0), (9, .sl ro 4 (x.fields.map fun x => .agg x.av)), (10, .lit (.int .i64 x.fields.length)), (11, .lit (.int .i64 i))], [(1004, [.agg [.lit (.string (by8 "")), .lit (.string (by8 "")), .sl ⟨.nl, true⟩ 1 [], .lit (.bool false)]])]⟩) (fun i => i ≤ x.fields.length ∧ ∀ (j : Nat) (f : Fld), j < i → x.fields[j]? = some f → f.key ≠ k) (fun i => x.fields.length - i) 0 (by simp) (Wk.both (by simp [wkL, wkV.same, ro]) (by simp [wkB, ro])) ?_
  rintro i ⟨hi, hall⟩
  simp
  by_cases hlt : i < x.fields.length
  · have hav : x.fields[i].av = [.lit (.string x.fields[i].key), .lit (.string x.fields[i].text), .sl ro 1 (x.fields[i].list.map fun x => .lit (.string x)), .lit (.bool x.fields[i].isL)] := rfl
    simp [hlt, mkF, mkF.mkL, hav, ro, okC, putElem, upd]
    by_cases c : x.fields[i].key = k
    · have hf := find_hit hlt c hall
      rw [hf]
      simp [c, mkF, mkF.mkL, hlt, hav, ro, okC, putElem, upd]
      refine vcall_go (clone_fx hE x.fields[i].list (hx _ (List.getElem_mem hlt))) (by simp [ro]) (by simp) (by simp) (by simp) ?_
      simp [hav, mkF, mkF.mkL, okC, putElem, upd]
      exact Fin_wk2 (.refl _) rfl (by simp [fldRes, reC, reC.reL, hav, mkF, mkF.mkL, c])
    · simp [c]
      refine ⟨i + 1, ⟨by omega, fun j f hj hf => ?_⟩, by omega, Wk.both (by simp [wkL, wkV.same, ro]; rw [wrapN (by omega)]; exact wkV.same _) (by simp [wkB, Tb.av, ro])⟩
      rcases Nat.lt_succ_iff_lt_or_eq.1 hj with h | rfl
      · exact hall j f h hf
      · rw [List.getElem?_eq_getElem hlt] at hf; rw [← Option.some.inj hf]; exact c
  · have hf := find_none fun j f hf => hall j f (by have := (List.getElem?_eq_some_iff.1 hf).1; omega) hf
    rw [hf]
    simp [hlt, okC, putElem, upd, fill]
    exact Fin_wk2 (.refl _) rfl rfl
theorem markFieldS_junk (l : List Fld) (k : Nat) (h0 : 0 < k) (hl : l.length ≤ 1048576) (hk : k + cntL l ≤ 1099511627776) : Fx E 59 [] [.hs 4 (l.map fun x => .agg x.hv), .lit (.int .i64 k)] [] (.lit (.int .i64 ((k : Int) + cntL l))) := by
  refine (is59.to hE).fx [] (by simp) rfl rfl ?_
  simp [v59]
  refine X_loop (τ := Nat) (fun i => ⟨[(0, .hs 4 (l.map fun x => .agg x.hv)), (1, .lit (.int .i64 ((k : Int) + cntL (l.take i)))), (5, .lit (.int .i64 i))], []⟩) (fun i => i ≤ l.length) (fun i => l.length - i) 0 (by simp) (Wk.both (by simp [wkL, wkV.same, cntL]) trivial) ?_
  intro i hi
  simp
  have hle := cntL_le l i
  by_cases hlt : i < l.length
  · have ht := cntL_take l i hlt
    have hle2 := cntL_le l (i + 1)
    have hcn : l[i].cnt = l[i].list.length + 3 := rfl
    have hav : l[i].hv = [.un, .un, .hs 1 (List.replicate l[i].list.length .un), .un] := rfl
    simp [hlt]
    refine vcall_go (markText_fx hE (k + cntL (l.take i)) (by omega) (by omega)) (by simp) (by simp) (by simp) (by simp) ?_
    simp [hlt, hav, okC]
    rw [wrap_i64 (by omega) (by omega)]
    refine vcall_go (markText_fx hE (k + cntL (l.take i) + 1) (by omega) (by omega)) (by simp) (by simp) (by simp) (by simp) ?_
    simp [hlt, hav, okC]
    rw [wrap_i64 (by omega) (by omega)]
    refine vcall_go (markStr_junk hE l[i].list.length (k + cntL (l.take i) + 1 + 1) (by omega) (by omega)) (by simp) (by simp) (by simp) (by simp) ?_
    simp [hlt, hav, okC]
    have e1 : IntKind.i64.wrap ((k : Int) + cntL (l.take i) + 1 + 1 + l[i].list.length + 1) = (k : Int) + cntL (l.take (i + 1)) := by rw [wrap_i64 (by omega) (by omega)]; omega
    rw [e1]
    exact ⟨i + 1, by omega, by omega, Wk.both (by simp [wkL, wkV.same]; rw [wrapN (by omega)]; exact wkV.same _) trivial⟩
  · obtain rfl : i = l.length := by omega
    simp
    exact Fin_ret rfl (by simp [reC])
theorem markTable_junk (x : Tb) (k : Nat) (h0 : 0 < k) (hl : x.fields.length ≤ 1048576) (hk : k + cntL x.fields ≤ 1099511627776) : Fx E 19 [] [.agg [.lit (.string x.name), .hs 4 (x.fields.map fun x => .agg x.hv)], .lit (.int .i64 k)] [] (.lit (.int .i64 ((k : Int) + cntL x.fields))) := by
  refine (is19.to hE).fx [] (by simp) rfl rfl ?_
  simp [v19, okC]
  refine vcall_go (markFieldS_junk hE x.fields k h0 hl hk) (by simp) (by simp) (by simp) (by simp) ?_
  simp
  exact Fin_ret rfl (by simp [reC])
theorem markField_row (f : Fld) (k : Nat) (h0 : 0 < k) (hk : k + f.list.length ≤ 1099511627776) : Fx E 20 [f.list.map fun x => .lit (.string x)] [.agg [.lit (.string f.key), .lit (.string f.text), .bs 0 1 f.list.length, .lit (.bool f.isL)], .lit (.int .i64 k)] [(mkRow k f.list.length).map fun x => .lit (.string x)] (.lit (.int .i64 ((k : Int) + f.list.length))) := by
  refine (is20.to hE).fxb [] (by simp) rfl ⟨rfl, by simp [(PlL_strs _).res]⟩ rfl (by simp) ?_
  simp [v20, okC]
  refine ⟨(PlL_strs _).noB, ?_⟩
  refine vcall_box (n := 0) (markStr_row hE f.list k h0 hk) rfl (by simp; rfl) (by simp [argOk]) (by simp [ptrs, dd]) (by simp [(PlL_strs _).noC]) (l0 := f.list.map fun x => .lit (.string x)) rfl (PlL_strs _).strip (PlL_strs _).dat ⟨(PlL_strs _).res, (PlL_strs _).dat⟩ ?_
  simp [(PlL_strs _).relab]
  exact FinB_ret rfl (by simp [reC]) rfl (by simp [(PlL_strs _).reC])
theorem markStr_nil (k : Nat) (hk : k ≤ 1099511627776) : Fx E 60 [] [.sl ro 1 [], .lit (.int .i64 k)] [] (.lit (.int .i64 k)) := by
  refine (is60.to hE).fx [] (by simp) rfl rfl ?_
  simp [v60]
  refine X_loop (τ := Nat) (fun i => ⟨[(0, .sl ro 1 []), (1, .lit (.int .i64 k)), (5, .lit (.int .i64 0))], []⟩) (fun i => True) (fun i => 0) 0 trivial (Wk.both (by simp [wkL, wkV.same]) trivial) ?_
  intro i _
  simp
  exact Fin_ret rfl (by simp [reC])
theorem markField_nil (f : Fld) (hf : f.list = []) (k : Nat) (hk : k ≤ 1099511627776) : Fx E 20 [] [.agg f.av, .lit (.int .i64 k)] [] (.lit (.int .i64 k)) := by
  refine (is20.to hE).fx [] (by simp) rfl rfl ?_
  simp [v20, okC, Fld.av, hf]
  refine vcall_go (markStr_nil hE k hk) (by simp [ro]) (by simp) (by simp) (by simp) ?_
  simp
  exact Fin_ret rfl (by simp [reC])
theorem heldField_fx (a b : ByteArray) (c : Bool) (n k : Nat) (h0 : 0 < k) (hk : k + n ≤ 1099511627776) : Fx E 21 [] [.agg [.lit (.string a), .lit (.string b), .sl ro 1 ((mkRow k n).map fun x => .lit (.string x)), .lit (.bool c)], .lit (.int .i64 k)] [] (.lit (.int .i64 ((k : Int) + n))) := by
  have h : ¬ ((k : Int) + n < 0) := by omega
  refine (is21.to hE).fx [] (by simp) rfl rfl ?_
  simp [v21, okC]
  refine vcall_go (heldStr_fx hE n k h0 hk) (by simp [ro]) (by simp) (by simp) (by simp) ?_
  simp [h]
  exact Fin_ret rfl (by simp [reC])
end
end Go.Proofs.Ytpopccnnjpdmlaa.Vm
