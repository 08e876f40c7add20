/- SetField: the law. -/
import Derived.Test.YtgegcfhifojjiaaSi
namespace Go.Proofs.Ytgegcfhifojjiaa.Vm
open Go Go.RowKit
set_option linter.unusedVariables false
set_option linter.unusedSimpArgs false
def v3 : VC := .seq (.reg false [⟨some 2, .box 2 (.t 0), none⟩, ⟨some 3, .box 4 (.t 1), none⟩, ⟨some 4, .as (.c (.lit (.bool false))), none⟩] [4]) (.seq (.reg false [⟨some 5, .as (.c (.lit (.int .i64 1048576))), none⟩] []) (.seq (.reg false [⟨some 14, .ld true 2 (.t 2), none⟩, ⟨some 15, .mv (.t 5), none⟩, ⟨some 16, .call false 5 [(.t 14), (.t 15)], none⟩, ⟨some 5, .as (.t 16), none⟩] [14, 15, 16]) (.seq (.seq (.reg false [⟨some 17, .mv (.t 5), none⟩, ⟨some 18, .bin .lss 0 (.t 17) (.c (.lit (.int .i64 0))), none⟩] [17]) (.cond (.t 18) (.seq (.reg false [⟨some 4, .as (.c (.lit (.bool true))), none⟩] []) (.ret)) (.skip))) (.seq (.reg false [⟨some 19, .ld true 4 (.t 3), none⟩, ⟨some 20, .mv (.t 5), none⟩, ⟨some 21, .call false 6 [(.t 19), (.t 20)], none⟩, ⟨some 5, .as (.t 21), none⟩] [19, 20, 21]) (.seq (.seq (.reg false [⟨some 22, .mv (.t 5), none⟩, ⟨some 23, .bin .lss 0 (.t 22) (.c (.lit (.int .i64 0))), none⟩] [22]) (.cond (.t 23) (.seq (.reg false [⟨some 4, .as (.c (.lit (.bool true))), none⟩] []) (.ret)) (.skip))) (.seq (.reg true [⟨some 24, .ld true 2 (.t 2), none⟩, ⟨some 25, .call true 8 [(.t 24)], none⟩, ⟨some 26, .ld true 4 (.t 3), none⟩, ⟨some 27, .call true 9 [(.t 26)], none⟩, ⟨some 28, .call true 7 [(.t 25), (.t 27)], none⟩, ⟨some 6, .alloc (.agg [(.lit (.string (by8 ""))), (.sl ⟨.nl, true⟩ 1 [])]), none⟩, ⟨none, .st 2 (.t 6) (.t 28), none⟩] [24, 25, 26, 27, 28]) (.seq (.reg false [⟨some 29, .ld true 2 (.t 2), none⟩, ⟨some 30, .call false 8 [(.t 29)], none⟩, ⟨some 7, .alloc (.agg [(.lit (.string (by8 ""))), (.sl ⟨.nl, true⟩ 1 [])]), none⟩, ⟨none, .st 2 (.t 7) (.t 30), none⟩] [29, 30]) (.seq (.reg false [⟨some 31, .ld true 4 (.t 3), none⟩, ⟨some 32, .call false 9 [(.t 31)], none⟩, ⟨some 8, .alloc (.agg [(.lit (.string (by8 ""))), (.lit (.string (by8 ""))), (.sl ⟨.nl, true⟩ 1 []), (.lit (.bool false))]), none⟩, ⟨none, .st 4 (.t 8) (.t 32), none⟩] [31, 32]) (.seq (.reg false [⟨some 33, .ld true 2 (.t 7), none⟩, ⟨some 34, .ld true 4 (.t 8), none⟩, ⟨some 35, .call false 10 [(.t 33), (.t 34)], none⟩, ⟨some 9, .alloc (.agg [(.lit (.string (by8 ""))), (.sl ⟨.nl, true⟩ 1 [])]), none⟩, ⟨none, .st 2 (.t 9) (.t 35), none⟩] [33, 34, 35]) (.seq (.seq (.reg false [⟨some 36, .ld true 2 (.t 9), none⟩, ⟨some 37, .ld true 2 (.t 6), none⟩, ⟨some 38, .call false 11 [(.t 36), (.t 37)], none⟩, ⟨some 39, .un .not (.t 38), none⟩] [36, 37, 38]) (.cond (.t 39) (.seq (.reg false [⟨some 4, .as (.c (.lit (.bool false))), none⟩] []) (.ret)) (.skip))) (.seq (.seq (.reg true [⟨some 40, .ld true 2 (.t 7), none⟩, ⟨some 41, .ld true 2 (.t 2), none⟩, ⟨some 42, .call true 8 [(.t 41)], none⟩, ⟨some 43, .call true 11 [(.t 40), (.t 42)], none⟩, ⟨some 44, .un .not (.t 43), none⟩] [40, 41, 42, 43]) (.cond (.t 44) (.seq (.reg false [⟨some 4, .as (.c (.lit (.bool false))), none⟩] []) (.ret)) (.skip))) (.seq (.seq (.reg true [⟨some 45, .ld true 4 (.t 8), none⟩, ⟨some 46, .ld true 4 (.t 3), none⟩, ⟨some 47, .call true 9 [(.t 46)], none⟩, ⟨some 48, .call true 12 [(.t 45), (.t 47)], none⟩, ⟨some 49, .un .not (.t 48), none⟩] [45, 46, 47, 48]) (.cond (.t 49) (.seq (.reg false [⟨some 4, .as (.c (.lit (.bool false))), none⟩] []) (.ret)) (.skip))) (.seq (.reg false [⟨some 10, .as (.c (.lit (.int .i64 1))), none⟩] []) (.seq (.reg false [⟨some 50, .ld true 2 (.t 7), none⟩, ⟨some 51, .mv (.t 10), none⟩, ⟨some 52, .call false 13 [(.t 50), (.t 51)], none⟩, ⟨some 10, .as (.t 52), none⟩] [50, 51, 52]) (.seq (.reg false [⟨some 53, .ld true 4 (.t 8), none⟩, ⟨some 54, .mv (.t 10), none⟩, ⟨some 55, .call false 14 [(.t 53), (.t 54)], none⟩, ⟨some 10, .as (.t 55), none⟩] [53, 54, 55]) (.seq (.seq (.reg false [⟨some 56, .mv (.t 10), none⟩, ⟨some 57, .bin .lss 0 (.t 56) (.c (.lit (.int .i64 0))), none⟩, ⟨some 58, .mv (.t 57), none⟩, ⟨some 59, .ld true 2 (.t 9), (some (58, false))⟩, ⟨some 60, .ld true 2 (.t 6), (some (58, false))⟩, ⟨some 61, .call false 11 [(.t 59), (.t 60)], (some (58, false))⟩, ⟨some 62, .un .not (.t 61), (some (58, false))⟩, ⟨some 63, .pick (.t 58) (.c (.lit (.bool true))) (.t 62), none⟩] [56, 57, 58, 59, 60, 61, 62]) (.cond (.t 63) (.seq (.reg false [⟨some 4, .as (.c (.lit (.bool false))), none⟩] []) (.ret)) (.skip))) (.seq (.reg false [⟨some 11, .as (.c (.lit (.int .i64 1))), none⟩] []) (.seq (.reg false [⟨some 64, .ld true 2 (.t 9), none⟩, ⟨some 65, .mv (.t 11), none⟩, ⟨some 66, .call false 13 [(.t 64), (.t 65)], none⟩, ⟨some 11, .as (.t 66), none⟩] [64, 65, 66]) (.seq (.reg false [⟨some 12, .as (.c (.lit (.int .i64 1))), none⟩] []) (.seq (.reg false [⟨some 67, .ld true 2 (.t 9), none⟩, ⟨some 68, .mv (.t 12), none⟩, ⟨some 69, .call false 15 [(.t 67), (.t 68)], none⟩, ⟨some 12, .as (.t 69), none⟩] [67, 68, 69]) (.seq (.seq (.reg false [⟨some 70, .mv (.t 12), none⟩, ⟨some 71, .bin .lss 0 (.t 70) (.c (.lit (.int .i64 0))), none⟩] [70]) (.cond (.t 71) (.seq (.reg false [⟨some 4, .as (.c (.lit (.bool false))), none⟩] []) (.ret)) (.skip))) (.seq (.seq (.reg false [⟨some 72, .mv (.t 12), none⟩, ⟨some 73, .mv (.t 11), none⟩, ⟨some 74, .bin .neq 0 (.t 72) (.t 73), none⟩] [72, 73]) (.cond (.t 74) (.seq (.reg false [⟨some 4, .as (.c (.lit (.bool false))), none⟩] []) (.ret)) (.skip))) (.seq (.reg true [⟨some 75, .ld true 2 (.t 2), none⟩, ⟨some 76, .call true 8 [(.t 75)], none⟩, ⟨some 77, .ld true 4 (.t 3), none⟩, ⟨some 78, .call true 9 [(.t 77)], none⟩, ⟨some 79, .call true 10 [(.t 76), (.t 78)], none⟩, ⟨some 13, .alloc (.agg [(.lit (.string (by8 ""))), (.sl ⟨.nl, true⟩ 1 [])]), none⟩, ⟨none, .st 2 (.t 13) (.t 79), none⟩] [75, 76, 77, 78, 79]) (.seq (.seq (.reg false [⟨some 80, .ld true 2 (.t 13), none⟩, ⟨some 81, .ld true 2 (.t 6), none⟩, ⟨some 82, .call false 11 [(.t 80), (.t 81)], none⟩, ⟨some 83, .un .not (.t 82), none⟩] [80, 81, 82]) (.cond (.t 83) (.seq (.reg false [⟨some 4, .as (.c (.lit (.bool false))), none⟩] []) (.ret)) (.skip))) (.seq (.reg false [⟨some 12, .as (.c (.lit (.int .i64 1))), none⟩] []) (.seq (.reg false [⟨some 84, .ld true 2 (.t 9), none⟩, ⟨some 85, .mv (.t 12), none⟩, ⟨some 86, .call false 15 [(.t 84), (.t 85)], none⟩, ⟨some 12, .as (.t 86), none⟩] [84, 85, 86]) (.seq (.seq (.reg false [⟨some 87, .mv (.t 12), none⟩, ⟨some 88, .bin .lss 0 (.t 87) (.c (.lit (.int .i64 0))), none⟩] [87]) (.cond (.t 88) (.seq (.reg false [⟨some 4, .as (.c (.lit (.bool false))), none⟩] []) (.ret)) (.skip))) (.seq (.seq (.reg false [⟨some 89, .mv (.t 12), none⟩, ⟨some 90, .mv (.t 11), none⟩, ⟨some 91, .bin .neq 0 (.t 89) (.t 90), none⟩] [89, 90]) (.cond (.t 91) (.seq (.reg false [⟨some 4, .as (.c (.lit (.bool false))), none⟩] []) (.ret)) (.skip))) (.seq (.reg false [⟨some 4, .as (.c (.lit (.bool true))), none⟩] []) (.ret))))))))))))))))))))))))))))))
theorem is3 : Is Go.Proofs.Try.prog 3 92 v3 [.t 4] := ⟨Go.Proofs.Try.f3, dl [(0, [4]), (2, [14, 15, 16]), (3, [17]), (5, [19, 20, 21]), (6, [22]), (8, [24, 25, 26, 27, 28]), (9, [29, 30]), (10, [31, 32]), (11, [33, 34, 35]), (12, [36, 37, 38]), (14, [40, 41, 42, 43]), (16, [45, 46, 47, 48]), (19, [50, 51, 52]), (20, [53, 54, 55]), (21, [56, 57, 58, 59, 60, 61, 62]), (24, [64, 65, 66]), (26, [67, 68, 69]), (27, [70]), (29, [72, 73]), (31, [75, 76, 77, 78, 79]), (32, [80, 81, 82]), (35, [84, 85, 86]), (36, [87]), (38, [89, 90])], Go.Proofs.Try.func3, by kernel_rfl, by kernel_rfl, by kernel_rfl, by kernel_rfl⟩
theorem er_fld (f : Fld) : er (.agg f.av) = .agg f.av := by
  have : er.erL (f.list.map fun x => AV.lit (.string x)) = f.list.map fun x => AV.lit (.string x) := by rw [erL_map, List.map_map]; rfl
  show AV.agg [.lit (.string f.key), .lit (.string f.text), .sl ro 1 (er.erL (f.list.map fun x => .lit (.string x))), .lit (.bool f.isL)] = _
  rw [this]; rfl
theorem erL_flds (l : List Fld) : er.erL (flds l) = flds l := by
  rw [erL_map]; unfold flds; rw [List.map_map]
  exact List.map_congr_left fun x _ => er_fld x
theorem er_idS_fld (p : Nat) (f : Fld) : er (idS p (.agg f.av)) = .agg f.av := by
  rw [idS_fld, lsI_eq]
  have : er.erL (f.list.map fun x => AV.lit (.string x)) = f.list.map fun x => AV.lit (.string x) := by rw [erL_map, List.map_map]; rfl
  simp only [er, er.erL, this]
  rfl
theorem erL_fldsI (l : List Fld) : ∀ n, er.erL (fldsI n l) = flds l := by
  induction l with
  | nil => intro n; rfl
  | cons f l ih =>
    intro n
    have := ih (n + nB (.agg f.av))
    unfold fldsI flds at this ⊢
    simp only [List.map_cons, idS.idL, er.erL, er_idS_fld, this]
theorem clo_lsI (p : Nat) (l : List ByteArray) : clo (lsI p l) = true := by
  have h : clo.cloL (l.map fun x => AV.lit (.string x)) = true := by
    induction l with
    | nil => rfl
    | cons x l ih => simp [clo.cloL, clo, ih]
  unfold lsI
  split
  · rfl
  · simp [clo, isId, h]
theorem cloL_fldsI (l : List Fld) : ∀ n, clo.cloL (fldsI n l) = true := by
  induction l with
  | nil => intro n; rfl
  | cons f l ih =>
    intro n
    have := ih (n + nB (.agg f.av))
    unfold fldsI flds at this ⊢
    simp only [List.map_cons, idS.idL, clo.cloL, idS_fld, clo, clo_lsI, this, Bool.and_self]
theorem inL_flds_mk : ∀ (l : List Fld) (k : Nat), inA.inL (flds (mkFlds k l)) = inA.inL (flds l)
  | [], k => rfl
  | f :: l, k => by
    have h := inL_flds_mk l (k + f.cnt)
    have h2 : inA (.agg (mkFld k f).av) = inA (.agg f.av) := by
      rw [show inA (.agg (mkFld k f).av) = [] ++ ([] ++ (inA (.sl ro 1 ((mkFld k f).list.map fun x => .lit (.string x))) ++ ([] ++ []))) from rfl, show inA (.agg f.av) = [] ++ ([] ++ (inA (.sl ro 1 (f.list.map fun x => .lit (.string x))) ++ ([] ++ []))) from rfl, inA_strs, inA_strs]
      have hl : (mkFld k f).list.length = f.list.length := by simp [mkFld, mkRow_len]
      have he : (mkFld k f).list.isEmpty = f.list.isEmpty := by
        revert hl
        cases (mkFld k f).list <;> cases f.list <;> simp
      rw [hl, he]
    unfold flds at h ⊢
    simp only [mkFlds, List.map_cons, inA.inL, h, h2]
theorem cntL_app : ∀ (a b : List Fld), cntL (a ++ b) = cntL a + cntL b
  | [], b => by simp [cntL]
  | x :: a, b => by simp only [List.cons_append, cntL, cntL_app a b]; omega
theorem cntL_set : ∀ (l : List Fld) (i : Nat) (f : Fld), cntL (l.set i f) ≤ cntL l + f.cnt
  | [], i, f => by simp [cntL]
  | g :: l, 0, f => by simp only [List.set_cons_zero, cntL]; omega
  | g :: l, i + 1, f => by have := cntL_set l i f; simp only [List.set_cons_succ, cntL]; omega
theorem Fld.eq_any (x : Fld) : x.eq x = true := Fld.eq_refl x
theorem idS_tb (name : ByteArray) {l : List Fld} (h : l ≠ []) : idS 0 (tbT name l) = .agg [.lit (.string name), .sl ⟨.id 0, false⟩ 4 (fldsI 1 l)] := by
  have he : (flds l).isEmpty = false := by cases l <;> simp [flds] at h ⊢
  have h1 : idS 0 (.sl ro 4 (flds l)) = .sl ⟨.id 0, false⟩ 4 (fldsI 1 l) := by simp only [idS, he]; rfl
  rw [← h1]; rfl
section
variable {E : Env} (hE : E.P = Go.Proofs.Try.prog)
include hE
theorem markField_junk (f : Fld) (k : Nat) (h0 : 0 < k) (hk : k + f.list.length ≤ 1099511627776) : Fx E 14 [] [.agg [.lit (.string f.key), .lit (.string f.text), .hs 1 (List.replicate f.list.length .un), .lit (.bool f.isL)], .lit (.int .i64 k)] [] (.lit (.int .i64 ((k : Int) + f.list.length))) := by
  refine (is14.to hE).fx [] (by simp) rfl rfl ?_
  simp [v14, okC]
  refine vcall_go (markStr_junk hE f.list.length k h0 hk) (by simp) (by simp) (by simp) (by simp) ?_
  simp
  exact Fin_ret rfl (by simp [reC])
set_option maxHeartbeats 8000000 in
theorem setLaw_fx (x : Tb) (f : Fld) (hgx : x.good) (hgf : f.good) : FxK E (fun _ => True) 3 [] [.agg x.av, .agg f.av] [] (.lit (.bool true)) := by
  have hxa : x.av = [.lit (.string x.name), .sl ro 4 (flds x.fields)] := rfl
  have hfa : f.av = [.lit (.string f.key), .lit (.string f.text), .sl ro 1 (f.list.map fun x => .lit (.string x)), .lit (.bool f.isL)] := rfl
  refine (is3.to hE).fxo (by simp [hxa, hfa]) (by simp) rfl ?_
  simp [v3, hxa, hfa, ownA, ownA.ownL, okC, mkF]
  refine vcall_go (szTable_fx hE x 1048576 hgx (by omega) (by omega)) (by simp [hxa]) (by simp) (by simp) (by simp) ?_
  simp
  by_cases c1 : x.sz 1048576 < 0
  · simp [c1]
    exact Fin_ret rfl rfl
  obtain ⟨b1, b2, b3, b4⟩ := Tb.bound (x := x) (l := 1048576) (by omega) (by omega)
  have hle := Tb.sz_le x 1048576 (by omega)
  simp [c1]
  refine vcall_go (szField_fx hE f (x.sz 1048576) hgf (by omega) (by omega)) (by simp [hfa]) (by simp) (by simp) (by simp) ?_
  simp
  by_cases c2 : f.sz (x.sz 1048576) < 0
  · simp [c2]
    exact Fin_ret rfl rfl
  obtain ⟨d1, d2⟩ := Fld.bound (x := f) (l := x.sz 1048576) (by omega)
  have hfl : f.list.length ≤ 1048576 := by omega
  have htx : Fx E 8 [] [.agg x.av] [] (.agg [.lit (.string x.name), .sl ⟨.no, true⟩ 4 (flds x.fields)]) := toTable_fx hE x b2 b3
  have htf : Fx E 9 [] [.agg f.av] [] (.agg [.lit (.string f.key), .lit (.string f.text), .sl ⟨.no, true⟩ 1 (f.list.map fun x => .lit (.string x)), .lit (.bool f.isL)]) := toField_fx hE f hfl
  have hsp := specSet_fx hE x f b2 b3 hfl
  have him := implSet_fx hE x f b2 b3 hfl
  have hRl := setF_len x.fields f
  have hRm : ∀ g ∈ setF x.fields f, g.list.length ≤ 1048576 := by
    intro g hg
    unfold setF at hg
    split at hg
    · rcases List.mem_or_eq_of_mem_set hg with h | rfl
      · exact b3 g h
      · exact hfl
    · rcases List.mem_append.1 hg with h | h
      · exact b3 g h
      · rw [List.mem_singleton.1 h]; exact hfl
  have hRne : setF x.fields f ≠ [] := by
    intro e
    have : (setF x.fields f).length = 0 := by rw [e]; rfl
    unfold setF at this
    split at this
    · rw [List.length_set] at this; omega
    · simp at this
  have hRc : cntL (setF x.fields f) ≤ 16777216 := by
    have hcn : f.cnt = f.list.length + 3 := rfl
    unfold setF
    split
    · have := cntL_set x.fields (idx0 x.fields f) f
      omega
    · rw [cntL_app]; simp only [cntL]; omega
  obtain ⟨R, hR⟩ : ∃ R, setF x.fields f = R := ⟨_, rfl⟩
  rw [hR] at hsp him hRl hRm hRne hRc
  rw [hxa, hfa] at hsp him
  rw [hxa] at htx
  rw [hfa] at htf
  simp [c2]
  refine vcall_go htx (by simp) (by simp) (by simp) (by simp) ?_
  simp
  refine vcall_go htf (by simp) (by simp) (by simp) (by simp) ?_
  simp
  refine vcall_go hsp (by simp) (by simp) (by simp) (by simp) ?_
  simp [okC, putElem, upd]
  have hLab : ∀ (v : Value), lab 6 (.lit v) = .lit v := fun _ => rfl
  refine vcall_lab 6 (T := 30) htx (by decide) (by decide) (fun _ => trivial) (by simp [AS.noI, allP, noI, noI.noIL, noIL_strs, noIL_flds]) (by simp [noI, noI.noIL, noIL_flds]) (by simp [lab, lab.labL]) (by simp [lab, lab.labL]) (by simp [lab, lab.labL]) (by simp [AS.lab, mapV, lab, lab.labL, labB, okC]) (by simp [AS.lab, mapV, lab, lab.labL, labB, okC, AS.noW, AS.putO, allV, noW, noW.noL]) (by decide) (by intro h; omega) rfl ?_
  simp [AS.lab, mapV, lab, lab.labL, labB, okC, ownA, ownA.ownL, putElem, upd]
  refine vcall_own (T := 32) htf (by simp) (by simp) (by simp) (by simp) (by simp [AS.noW, AS.putO, allV, noW, noW.noL]) (by decide) (by intro h; omega) rfl ?_
  simp [ownA, ownA.ownL, okC, putElem, upd]
  refine vcall_nm him (by simp) (by simp) (by simp) (by simp) (fun _ _ => trivial) (by simp [AS.noI, AS.putO, AS.put, allP, setL, noI, noI.noIL, noIL_strs, noIL_flds]) (by simp [noI, noI.noIL, noIL_flds, noIL_strs]) ?_
  simp [okC, putElem, upd]
  have heq : Fx E 11 [] [.agg [.lit (.string x.name), .sl ro 4 (flds R)], .agg [.lit (.string x.name), .sl ro 4 (flds R)]] [] (.lit (.bool true)) := by
    have := eqTable_fx hE ⟨x.name, R⟩ ⟨x.name, R⟩ (by show R.length ≤ _; omega) hRm
    rw [Tb.eq_refl] at this
    exact this
  refine vcall_er heq (by simp [er, er.erL, erL_fldsI, erL_flds]) (by simp) (by simp) ?_
  simp [frA, frA.frL]
  have heqx : Fx E 11 [] [.agg [.lit (.string x.name), .sl ro 4 (flds x.fields)], .agg [.lit (.string x.name), .sl ro 4 (flds x.fields)]] [] (.lit (.bool true)) := by
    have := eqTable_fx hE x x (by omega) b3
    rw [Tb.eq_refl] at this
    exact this
  have heqf : Fx E 12 [] [.agg [.lit (.string f.key), .lit (.string f.text), .sl ro 1 (f.list.map fun x => .lit (.string x)), .lit (.bool f.isL)], .agg [.lit (.string f.key), .lit (.string f.text), .sl ro 1 (f.list.map fun x => .lit (.string x)), .lit (.bool f.isL)]] [] (.lit (.bool true)) := by
    have := eqField_fx hE f f hfl
    rw [Fld.eq_refl] at this
    exact this
  refine vcall_go htx (by simp) (by simp) (by simp) (by simp) ?_
  simp
  refine vcall_go heqx (by simp) (by simp) (by simp) (by simp) ?_
  simp
  refine vcall_go htf (by simp) (by simp) (by simp) (by simp) ?_
  simp
  refine vcall_go heqf (by simp) (by simp) (by simp) (by simp) ?_
  simp
  have hff : flds x.fields = x.fields.map fun x => AV.agg x.av := rfl
  refine vcall_junk (T := 30) (rv := .int .i64 ((1 : Int) + cntL x.fields)) (by simpa [hsT, hsT.hsTL, hff, hsL_flds] using markTable_junk hE x 1 (by omega) b2 (by omega)) (by decide) (by simp [okJ, okJ.okJL, hff, flatL_flds]) ?_
  simp [AS.kq, mapV, kq, kq.kqL, kqB, okC, List.filter, lT, cloL_fldsI, mkF]
  have hk0 : (1 : Int) + cntL x.fields = ((1 + cntL x.fields : Nat) : Int) := by omega
  rw [hk0]
  refine vcall_junk (T := 32) (rv := .int .i64 (((1 + cntL x.fields : Nat) : Int) + f.list.length)) (by simpa [hsT, hsT.hsTL, hsL_strs] using markField_junk hE f (1 + cntL x.fields) (by omega) (by omega)) (by decide) (by simp [okJ, okJ.okJL, flatL_strs]) ?_
  have hk1 : ¬ ((1 : Int) + cntL x.fields + f.list.length < 0) := by omega
  simp [AS.kq, mapV, kq, kq.kqL, kqB, okC, List.filter, lT, cloL_fldsI, mkF, hk1]
  refine vcall_er heq (by simp [er, er.erL, erL_fldsI, erL_flds]) (by simp) (by simp) ?_
  simp [frA, frA.frL]
  have hmne : mkFlds 1 R ≠ [] := fun e => hRne (List.eq_nil_of_length_eq_zero (by rw [← mkFlds_len R 1, e]; rfl))
  refine vcall_tree (a := tbT x.name R) (a' := tbT x.name (mkFlds 1 R)) (M := fun k => if k = 0 then some (some (4, fldsI 1 (mkFlds 1 R))) else some none) (rv := .int .i64 ((1 : Int) + cntL R)) (markTable_nest hE x.name R hRne 1 (by omega) (by omega) hRm (by omega)) (by rw [idS_tb _ hRne]; rfl) (fun _ => trivial) (wf_tb _ _) (wf_tb _ _) ?_ ?_ (fun k => ?_) (fun k p hk => ?_) ?_
  · have he : (flds R).isEmpty = false := by cases R <;> simp [flds] at hRne ⊢
    have he' : (flds (mkFlds 1 R)).isEmpty = false := by cases R <;> simp [flds, mkFlds] at hRne ⊢
    rw [bsV_tb, bsV_tb]
    simp only [bsV, he, he']
    simp [flds, mkFlds_len]
  · rw [show inA (tbT x.name R) = [] ++ (inA (.sl ro 4 (flds R)) ++ []) from rfl, show inA (tbT x.name (mkFlds 1 R)) = [] ++ (inA (.sl ro 4 (flds (mkFlds 1 R))) ++ []) from rfl]
    have hll : (flds (mkFlds 1 R)).length = (flds R).length := by simp [flds, mkFlds_len]
    have he2 : (flds (mkFlds 1 R)).isEmpty = (flds R).isEmpty := by cases R <;> rfl
    simp only [inA, inL_flds_mk, hll, he2]
  · split <;> simp
  · split at hk
    · rename_i h0
      subst h0
      obtain rfl := Option.some.inj (Option.some.inj hk)
      rw [idS_tb _ hmne]
      refine ⟨by simp [AV.cells], fun e => hmne (List.eq_nil_of_length_eq_zero ?_)⟩
      rw [← fldsI_len 1 (mkFlds 1 R)]
      exact congrArg List.length e
    · cases Option.some.inj hk
  have hlenI : (fldsI 1 R).length = (fldsI 1 (mkFlds 1 R)).length := by rw [fldsI_len, fldsI_len, mkFlds_len]
  simp [AS.kq, mapV, kq, kq.kqL, kqB, okC, List.filter, hlenI, mkF]
  have hheld := heldTable_fx hE x.name R 1 (by omega) (by omega) (by omega)
  have hneg : ¬ ((1 : Int) + cntL R < 0) := by omega
  refine vcall_er hheld (by simp [er, er.erL, erL_fldsI, tbT]) (by simp) (by simp) ?_
  simp [frA, frA.frL, hneg]
  have him2 := Fx.of_named him (by simp [noI.noIL, noI, noIL_flds, noIL_strs, ro]) (.inl rfl)
  simp only [er, er.erL, erL_fldsI] at him2
  refine vcall_go htx (by simp) (by simp) (by simp) (by simp) ?_
  simp
  refine vcall_go htf (by simp) (by simp) (by simp) (by simp) ?_
  simp
  have hrl : ∀ t b sz ys, relab t b (AV.sl ro sz ys) = AV.sl ⟨.no, b⟩ sz ys := fun _ _ _ _ => rfl
  refine vcall_go him2 (by simp) (by simp) (by simp) (by simp) ?_
  simp [okC, putElem, upd, mkF, hrl]
  refine vcall_go heq (by simp) (by simp) (by simp) (by simp) ?_
  simp
  refine vcall_er hheld (by simp [er, er.erL, erL_fldsI, tbT]) (by simp) (by simp) ?_
  simp [frA, frA.frL, hneg]
  exact Fin_ret rfl rfl
end
end Go.Proofs.Ytgegcfhifojjiaa.Vm
