/- SetField: the reference. -/
import Derived.Test.YticamghmcikfcaaMt
namespace Go.Proofs.Yticamghmcikfcaa.Vm
open Go Go.RowKit
set_option linter.unusedVariables false
set_option linter.unusedSimpArgs false
def v32 : VC := .seq (.reg false [⟨some 2, .box 2 (.t 0), none⟩, ⟨some 3, .box 4 (.t 1), none⟩, ⟨some 4, .alloc (.agg [(.lit (.string (by8 ""))), (.sl ⟨.nl, true⟩ 1 [])]), none⟩] []) (.seq (.reg false [⟨some 9, .fa 0 (.t 2), none⟩, ⟨some 10, .ld false 1 (.t 9), none⟩, ⟨some 11, .bld [(.lit (.string (by8 ""))), (.sl ⟨.nl, true⟩ 1 [])] [(0, 1, (.t 10))], none⟩, ⟨some 5, .alloc (.agg [(.lit (.string (by8 ""))), (.sl ⟨.nl, true⟩ 1 [])]), none⟩, ⟨none, .st 2 (.t 5) (.t 11), none⟩] [9, 10, 11]) (.seq (.reg false [⟨some 6, .as (.c (.lit (.bool false))), none⟩] []) (.seq (.seq (.reg false [⟨some 7, .as (.c (.lit (.int .i64 0))), none⟩] []) (.block 0 (.loop (.seq (.seq (.reg false [⟨some 12, .mv (.t 7), none⟩, ⟨some 13, .fa 1 (.t 2), none⟩, ⟨some 14, .ld false 1 (.t 13), none⟩, ⟨some 15, .len false (.t 14), none⟩, ⟨some 16, .bin .lss 0 (.t 12) (.t 15), none⟩] [12, 13, 14, 15]) (.cond (.t 16) (.skip) (.exit 0))) (.seq (.block 1 (.seq (.reg false [⟨some 19, .fa 1 (.t 2), none⟩, ⟨some 20, .ld false 1 (.t 19), none⟩, ⟨some 21, .mv (.t 7), none⟩, ⟨some 22, .ia 4 (.t 20) (.t 21), none⟩, ⟨some 23, .ld true 4 (.t 22), none⟩, ⟨some 8, .alloc (.agg [(.lit (.string (by8 ""))), (.lit (.string (by8 ""))), (.sl ⟨.nl, true⟩ 1 []), (.lit (.bool false))]), none⟩, ⟨none, .st 4 (.t 8) (.t 23), none⟩] [19, 20, 21, 22, 23]) (.seq (.seq (.reg false [⟨some 24, .fa 0 (.t 8), none⟩, ⟨some 25, .ld false 1 (.t 24), none⟩, ⟨some 26, .fa 0 (.t 3), none⟩, ⟨some 27, .ld false 1 (.t 26), none⟩, ⟨some 28, .bin .eql 0 (.t 25) (.t 27), none⟩, ⟨some 29, .mv (.t 28), none⟩, ⟨some 30, .mv (.t 6), (some (29, true))⟩, ⟨some 31, .un .not (.t 30), (some (29, true))⟩, ⟨some 32, .pick (.t 29) (.t 31) (.c (.lit (.bool false))), none⟩] [24, 25, 26, 27, 28, 29, 30, 31]) (.cond (.t 32) (.seq (.reg false [⟨some 33, .ld true 4 (.t 3), none⟩, ⟨none, .st 4 (.t 8) (.t 33), none⟩] [33]) (.reg false [⟨some 6, .as (.c (.lit (.bool true))), none⟩] [])) (.skip))) (.reg true [⟨some 34, .fa 1 (.t 5), none⟩, ⟨some 35, .ld false 1 (.t 34), none⟩, ⟨some 36, .ld true 4 (.t 8), none⟩, ⟨some 37, .call true 42 [(.t 36)], none⟩, ⟨some 38, .bsl 4 [(.t 37)], none⟩, ⟨some 39, .app 4 64 (.t 35) (.t 38), none⟩, ⟨some 40, .fa 1 (.t 5), none⟩, ⟨none, .st 1 (.t 40) (.t 39), none⟩] [34, 35, 36, 37, 38, 39, 40])))) (.reg false [⟨some 17, .mv (.t 7), none⟩, ⟨some 18, .bin .add 0 (.t 17) (.c (.lit (.int .i64 1))), none⟩, ⟨some 7, .as (.t 18), none⟩] [17, 18])))))) (.seq (.seq (.reg false [⟨some 41, .mv (.t 6), none⟩, ⟨some 42, .un .not (.t 41), none⟩] [41]) (.cond (.t 42) (.reg true [⟨some 43, .fa 1 (.t 5), none⟩, ⟨some 44, .ld false 1 (.t 43), none⟩, ⟨some 45, .ld true 4 (.t 3), none⟩, ⟨some 46, .call true 42 [(.t 45)], none⟩, ⟨some 47, .bsl 4 [(.t 46)], none⟩, ⟨some 48, .app 4 64 (.t 44) (.t 47), none⟩, ⟨some 49, .fa 1 (.t 5), none⟩, ⟨none, .st 1 (.t 49) (.t 48), none⟩] [43, 44, 45, 46, 47, 48, 49]) (.skip))) (.seq (.reg false [⟨some 50, .ld true 2 (.t 5), none⟩, ⟨none, .st 2 (.t 4) (.t 50), none⟩] [50]) (.ret))))))
theorem is32 : Is Go.Proofs.Try.prog 32 51 v32 [.b 4 true 2] := ⟨Go.Proofs.Try.f32, dl [(1, [9, 10, 11]), (4, [12, 13, 14, 15]), (6, [19, 20, 21, 22, 23]), (7, [24, 25, 26, 27, 28, 29, 30, 31]), (8, [33]), (10, [34, 35, 36, 37, 38, 39, 40]), (5, [17, 18]), (11, [41]), (12, [43, 44, 45, 46, 47, 48, 49]), (13, [50])], Go.Proofs.Try.func32, by kernel_rfl, by kernel_rfl, by kernel_rfl, by kernel_rfl⟩
def idx0 (l : List Fld) (f : Fld) : Nat := l.findIdx fun g => decide (g.key = f.key)
def setF (l : List Fld) (f : Fld) : List Fld := if idx0 l f < l.length then l.set (idx0 l f) f else l ++ [f]
theorem idx0_le (l : List Fld) (f : Fld) : idx0 l f ≤ l.length := List.findIdx_le_length
theorem idx0_lt {l : List Fld} {f : Fld} {i : Nat} (h : i < l.length) (hi : i < idx0 l f) : l[i].key ≠ f.key := by
  have := List.not_of_lt_findIdx hi
  simpa using this
theorem idx0_eq {l : List Fld} {f : Fld} {i : Nat} (h : i < l.length) (hi : i = idx0 l f) : l[i].key = f.key := by
  subst hi
  have := List.findIdx_getElem (p := fun g : Fld => decide (g.key = f.key)) (xs := l) (w := h)
  exact of_decide_eq_true this
theorem setF_get {l : List Fld} {f : Fld} {i : Nat} (h : i < l.length) : (setF l f)[i]? = some (if i = idx0 l f then f else l[i]) := by
  unfold setF
  by_cases h1 : idx0 l f < l.length
  · rw [if_pos h1, List.getElem?_set]
    by_cases h2 : idx0 l f = i
    · rw [if_pos h2, if_pos (by omega), if_pos h2.symm]
    · rw [if_neg h2, if_neg (fun e => h2 e.symm), List.getElem?_eq_getElem h]
  · rw [if_neg h1, List.getElem?_append_left h, List.getElem?_eq_getElem h, if_neg (by omega)]
theorem setF_take {l : List Fld} {f : Fld} {i : Nat} (h : i < l.length) : (setF l f).take (i + 1) = (setF l f).take i ++ [if i = idx0 l f then f else l[i]] := by
  rw [List.take_add_one, setF_get h]; rfl
theorem setF_hit {l : List Fld} {f : Fld} (h : idx0 l f < l.length) : (setF l f).take l.length = setF l f := by
  apply List.take_of_length_le
  unfold setF; rw [if_pos h]; simp
theorem setF_miss {l : List Fld} {f : Fld} (h : ¬ idx0 l f < l.length) : (setF l f).take l.length ++ [f] = setF l f := by
  unfold setF; rw [if_neg h]; simp
theorem setF_len (l : List Fld) (f : Fld) : (setF l f).length ≤ l.length + 1 := by
  unfold setF; split <;> simp
theorem flds_snoc (a : List Fld) (f : Fld) : flds (a ++ [f]) = flds a ++ [.agg f.av] := by simp [flds]
theorem take_len {l : List Fld} {f : Fld} {i : Nat} (h : i ≤ l.length) : (flds ((setF l f).take i)).length = i := by
  have : l.length ≤ (setF l f).length := by unfold setF; split <;> simp
  simp [flds]; omega
/-- what is put together, i elements of it -/
def outS (c : Nat) (R : List Fld) (i : Nat) : AV := if i = 0 then .sl ⟨.nl, true⟩ 1 [] else .sl ⟨.cl c, true⟩ 4 (flds (R.take i))
section
variable {E : Env} (hE : E.P = Go.Proofs.Try.prog)
include hE
set_option maxHeartbeats 4000000 in
theorem specSet_fx (x : Tb) (f : Fld) (hl : x.fields.length ≤ 1048576) (hx : ∀ g ∈ x.fields, g.list.length ≤ 1048576) (hf : f.list.length ≤ 1048576) : Fx E 32 [] [.agg x.av, .agg f.av] [] (.agg [.lit (.string x.name), .sl ⟨.no, true⟩ 4 (flds (setF x.fields f))]) := by
  have hxa : x.av = [.lit (.string x.name), .sl ro 4 (flds x.fields)] := rfl
  have hfa : f.av = [.lit (.string f.key), .lit (.string f.text), .sl ro 1 (f.list.map fun x => .lit (.string x)), .lit (.bool f.isL)] := rfl
  have hxl : (flds x.fields).length = x.fields.length := by simp [flds]
  refine (is32.to hE).fx [] (by simp) rfl rfl ?_
  rw [hxa, hfa]
  simp [v32, okC, putElem, upd, fill]
  refine X_loop (τ := Nat) (fun i => ⟨[(2, .ptr 1000000000002 0 0), (3, .ptr 1000000000003 0 0), (4, .ptr 1000000000004 0 0), (5, .ptr 1000000000005 0 0), (6, .lit (.bool (decide (idx0 x.fields f < i)))), (7, .lit (.int .i64 i))], [(1000000000002, [.agg [.lit (.string x.name), .sl ro 4 (flds x.fields)]]), (1000000000003, [.agg [.lit (.string f.key), .lit (.string f.text), .sl ro 1 (f.list.map fun x => .lit (.string x)), .lit (.bool f.isL)]]), (1000000000004, [.agg [.lit (.string (by8 "")), .sl ⟨.nl, true⟩ 1 []]]), (1000000000005, [.agg [.lit (.string x.name), outS 2496 (setF x.fields f) i]])]⟩) (fun i => i ≤ x.fields.length) (fun i => x.fields.length - i) 0 (by simp) ?_ ?_
  · exact Wk.both (by simp [wkL, wkV.same]) (by simp [wkB, outS, ro])
  intro i hi
  simp [hxl]
  obtain ⟨R, hR⟩ : ∃ R, setF x.fields f = R := ⟨_, rfl⟩
  rw [hR]
  by_cases hlt : i < x.fields.length
  · have hg : (flds x.fields)[i]? = some (.agg x.fields[i].av) := by unfold flds; rw [List.getElem?_map, List.getElem?_eq_getElem hlt]; rfl
    have hav : x.fields[i].av = [.lit (.string x.fields[i].key), .lit (.string x.fields[i].text), .sl ro 1 (x.fields[i].list.map fun x => .lit (.string x)), .lit (.bool x.fields[i].isL)] := rfl
    have hcp := l07Copy_fx hE x.fields[i] (hx _ (List.getElem_mem hlt))
    have hcf := l07Copy_fx hE f hf
    rw [hav] at hcp
    rw [hfa] at hcf
    simp [mkF, mkF.mkL] at hcp hcf
    have htk := setF_take (f := f) hlt
    rw [hR] at htk
    have hrl : (flds (R.take i)).length = i := by rw [← hR]; exact take_len (by omega)
    have hoB : ∀ d, noB d (outS 2496 R i) = true := fun d => by unfold outS; split <;> rfl
    have hoC : noC 37 (outS 2496 R i) = true := by unfold outS; split <;> rfl
    simp [hlt, hg, hav, okC, mkF, mkF.mkL, putElem, upd]
    by_cases hi0 : i = idx0 x.fields f
    · have hk := idx0_eq hlt hi0
      rw [if_pos hi0] at htk
      have hd : ¬ idx0 x.fields f < i := by omega
      have hd2 : idx0 x.fields f < i + 1 := by omega
      simp [hk, hd, okC, putElem, upd, hoB]
      refine vcall_go hcf (by simp) (by simp) (by simp) (by simp [hoC]) ?_
      by_cases hz : i = 0
      · have ho : outS 2496 R i = .sl ⟨.nl, true⟩ 1 [] := by simp [outS, hz]
        have hT : flds (R.take (i + 1)) = [.agg f.av] := by rw [htk, hz]; rfl
        rw [ho]
        simp [okC, putElem, upd, frA, frA.frL]
        refine ⟨i + 1, by omega, by omega, Wk.both (by simp [wkL, wkV.same, hd2]; rw [wrapN (by omega)]; exact wkV.same _) ?_⟩
        simp [wkB, outS, hT, hfa, ro]
      · have ho : outS 2496 R i = .sl ⟨.cl 2496, true⟩ 4 (flds (R.take i)) := by simp [outS, hz]
        have hT : flds (R.take (i + 1)) = flds (R.take i) ++ [.agg f.av] := by rw [htk, flds_snoc]
        rw [ho]
        simp [okC, putElem, upd, frA, frA.frL, AS.dem, mapV, dem, dem.demL, hrl]
        refine ⟨by omega, i + 1, by omega, by omega, Wk.both (by simp [wkL, wkV.same, hd2]; rw [wrapN (by omega)]; exact wkV.same _) ?_⟩
        simp [wkB, outS, hT, hfa, ro]
    · rw [if_neg hi0] at htk
      by_cases hk : x.fields[i].key = f.key
      · have hd : idx0 x.fields f < i := by
          rcases Nat.lt_trichotomy i (idx0 x.fields f) with h | h | h
          · exact absurd hk (idx0_lt hlt h)
          · exact absurd h hi0
          · exact h
        have hd2 : idx0 x.fields f < i + 1 := by omega
        rw [hk] at hcp hav
        simp [hk, hd, okC, putElem, upd, hoB]
        refine vcall_go hcp (by simp) (by simp) (by simp) (by simp [hoC]) ?_
        by_cases hz : i = 0
        · have ho : outS 2496 R i = .sl ⟨.nl, true⟩ 1 [] := by simp [outS, hz]
          have hT : flds (R.take (i + 1)) = [.agg x.fields[i].av] := by rw [htk, flds_snoc, show R.take i = [] by rw [hz]; rfl]; rfl
          rw [ho]
          simp [okC, putElem, upd, frA, frA.frL]
          refine ⟨i + 1, by omega, by omega, Wk.both (by simp [wkL, wkV.same, hd2]; rw [wrapN (by omega)]; exact wkV.same _) ?_⟩
          simp [wkB, outS, hT, hav, ro]
        · have ho : outS 2496 R i = .sl ⟨.cl 2496, true⟩ 4 (flds (R.take i)) := by simp [outS, hz]
          have hT : flds (R.take (i + 1)) = flds (R.take i) ++ [.agg x.fields[i].av] := by rw [htk, flds_snoc]
          rw [ho]
          simp [okC, putElem, upd, frA, frA.frL, AS.dem, mapV, dem, dem.demL, hrl]
          refine ⟨by omega, i + 1, by omega, by omega, Wk.both (by simp [wkL, wkV.same, hd2]; rw [wrapN (by omega)]; exact wkV.same _) ?_⟩
          simp [wkB, outS, hT, hav, ro]
      · have hd2 : (idx0 x.fields f < i + 1) = (idx0 x.fields f < i) := by apply propext; omega
        simp [hk, okC, putElem, upd, hoB]
        refine vcall_go hcp (by simp) (by simp) (by simp) (by simp [hoC]) ?_
        by_cases hz : i = 0
        · have ho : outS 2496 R i = .sl ⟨.nl, true⟩ 1 [] := by simp [outS, hz]
          have hT : flds (R.take (i + 1)) = [.agg x.fields[i].av] := by rw [htk, flds_snoc, show R.take i = [] by rw [hz]; rfl]; rfl
          rw [ho]
          simp [okC, putElem, upd, frA, frA.frL]
          refine ⟨i + 1, by omega, by omega, Wk.both (by simp [wkL, wkV.same, hd2]; rw [wrapN (by omega)]; exact wkV.same _) ?_⟩
          simp [wkB, outS, hT, hav, ro]
        · have ho : outS 2496 R i = .sl ⟨.cl 2496, true⟩ 4 (flds (R.take i)) := by simp [outS, hz]
          have hT : flds (R.take (i + 1)) = flds (R.take i) ++ [.agg x.fields[i].av] := by rw [htk, flds_snoc]
          rw [ho]
          simp [okC, putElem, upd, frA, frA.frL, AS.dem, mapV, dem, dem.demL, hrl]
          refine ⟨by omega, i + 1, by omega, by omega, Wk.both (by simp [wkL, wkV.same, hd2]; rw [wrapN (by omega)]; exact wkV.same _) ?_⟩
          simp [wkB, outS, hT, hav, ro]
  · obtain rfl : i = x.fields.length := by omega
    simp
    have hcf := l07Copy_fx hE f hf
    rw [hfa] at hcf
    simp [mkF, mkF.mkL] at hcf
    have hoC : noC 46 (outS 2496 R x.fields.length) = true := by unfold outS; split <;> rfl
    have hrl : (flds (R.take x.fields.length)).length = x.fields.length := by rw [← hR]; exact take_len (Nat.le_refl _)
    by_cases hh : idx0 x.fields f < x.fields.length
    · have hz : x.fields.length ≠ 0 := by omega
      have hT := setF_hit hh
      rw [hR] at hT
      have ho : outS 2496 R x.fields.length = .sl ⟨.cl 2496, true⟩ 4 (flds R) := by rw [← hT]; simp [outS, hz, hT]
      rw [ho]
      simp [hh, okC, putElem, upd]
      exact Fin_ret rfl (by simp [reC, reC.reL])
    · have hT := setF_miss hh
      rw [hR] at hT
      simp [hh, okC, putElem, upd]
      refine vcall_go hcf (by simp) (by simp) (by simp) (by simp [hoC]) ?_
      by_cases hz : x.fields.length = 0
      · have ho : outS 2496 R x.fields.length = .sl ⟨.nl, true⟩ 1 [] := by simp [outS, hz]
        have hT2 : flds R = [.agg f.av] := by rw [← hT, hz]; rfl
        rw [ho]
        simp [okC, putElem, upd, frA, frA.frL]
        exact Fin_ret rfl (by simp [reC, reC.reL, hT2, hfa])
      · have ho : outS 2496 R x.fields.length = .sl ⟨.cl 2496, true⟩ 4 (flds (R.take x.fields.length)) := by simp [outS, hz]
        have hT2 : flds R = flds (R.take x.fields.length) ++ [.agg f.av] := by rw [← flds_snoc, hT]
        rw [ho]
        simp [okC, putElem, upd, frA, frA.frL, AS.dem, mapV, dem, dem.demL, hrl]
        refine ⟨by omega, ?_⟩
        exact Fin_ret rfl (by simp [reC, reC.reL, hT2, hfa])
end
end Go.Proofs.Yticamghmcikfcaa.Vm
