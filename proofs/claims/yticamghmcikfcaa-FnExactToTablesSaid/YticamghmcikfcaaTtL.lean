/- ToTables: the law. -/
import Derived.Test.YticamghmcikfcaaTe
import Derived.Test.YticamghmcikfcaaGmt
namespace Go.Proofs.Yticamghmcikfcaa.Vm
open Go Go.RowKit
set_option linter.unusedVariables false
set_option linter.unusedSimpArgs false
def v3 : VC := .seq (.reg false [⟨some 1, .box 2 (.t 0), none⟩, ⟨some 2, .as (.c (.lit (.bool false))), none⟩] [2]) (.seq (.reg false [⟨some 3, .as (.c (.lit (.int .i64 1048576))), none⟩] []) (.seq (.reg false [⟨some 11, .ld true 2 (.t 1), none⟩, ⟨some 12, .mv (.t 3), none⟩, ⟨some 13, .call false 4 [(.t 11), (.t 12)], none⟩, ⟨some 3, .as (.t 13), none⟩] [11, 12, 13]) (.seq (.seq (.reg false [⟨some 14, .mv (.t 3), none⟩, ⟨some 15, .bin .lss 0 (.t 14) (.c (.lit (.int .i64 0))), none⟩] [14]) (.cond (.t 15) (.seq (.reg false [⟨some 2, .as (.c (.lit (.bool true))), none⟩] []) (.ret)) (.skip))) (.seq (.reg false [⟨some 16, .ld true 2 (.t 1), none⟩, ⟨some 17, .call false 6 [(.t 16)], none⟩, ⟨some 18, .call false 5 [(.t 17)], none⟩, ⟨some 4, .as (.t 18), none⟩] [16, 17, 18]) (.seq (.reg false [⟨some 19, .ld true 2 (.t 1), none⟩, ⟨some 20, .call false 6 [(.t 19)], none⟩, ⟨some 5, .alloc (.agg [(.sl ⟨.nl, true⟩ 1 []), (.sl ⟨.nl, true⟩ 1 [])]), none⟩, ⟨none, .st 2 (.t 5) (.t 20), none⟩] [19, 20]) (.seq (.reg false [⟨some 21, .ld true 2 (.t 5), none⟩, ⟨some 22, .call false 7 [(.t 21)], none⟩, ⟨some 6, .as (.t 22), none⟩] [21, 22]) (.seq (.seq (.reg false [⟨some 23, .mv (.t 6), none⟩, ⟨some 24, .mv (.t 4), none⟩, ⟨some 25, .call false 8 [(.t 23), (.t 24)], none⟩, ⟨some 26, .un .not (.t 25), none⟩] [23, 24, 25]) (.cond (.t 26) (.seq (.reg false [⟨some 2, .as (.c (.lit (.bool false))), none⟩] []) (.ret)) (.skip))) (.seq (.seq (.reg true [⟨some 27, .ld true 2 (.t 5), none⟩, ⟨some 28, .ld true 2 (.t 1), none⟩, ⟨some 29, .call true 6 [(.t 28)], none⟩, ⟨some 30, .call true 9 [(.t 27), (.t 29)], none⟩, ⟨some 31, .un .not (.t 30), none⟩] [27, 28, 29, 30]) (.cond (.t 31) (.seq (.reg false [⟨some 2, .as (.c (.lit (.bool false))), none⟩] []) (.ret)) (.skip))) (.seq (.reg false [⟨some 7, .as (.c (.lit (.int .i64 1))), none⟩] []) (.seq (.reg false [⟨some 32, .ld true 2 (.t 5), none⟩, ⟨some 33, .mv (.t 7), none⟩, ⟨some 34, .call false 10 [(.t 32), (.t 33)], none⟩, ⟨some 7, .as (.t 34), none⟩] [32, 33, 34]) (.seq (.seq (.reg false [⟨some 35, .mv (.t 7), none⟩, ⟨some 36, .bin .lss 0 (.t 35) (.c (.lit (.int .i64 0))), none⟩, ⟨some 37, .mv (.t 36), none⟩, ⟨some 38, .mv (.t 6), (some (37, false))⟩, ⟨some 39, .mv (.t 4), (some (37, false))⟩, ⟨some 40, .call false 8 [(.t 38), (.t 39)], (some (37, false))⟩, ⟨some 41, .un .not (.t 40), (some (37, false))⟩, ⟨some 42, .pick (.t 37) (.c (.lit (.bool true))) (.t 41), none⟩] [35, 36, 37, 38, 39, 40, 41]) (.cond (.t 42) (.seq (.reg false [⟨some 2, .as (.c (.lit (.bool false))), none⟩] []) (.ret)) (.skip))) (.seq (.reg false [⟨some 8, .as (.c (.lit (.int .i64 1))), none⟩] []) (.seq (.reg false [⟨some 43, .mv (.t 6), none⟩, ⟨some 44, .mv (.t 8), none⟩, ⟨some 45, .call false 11 [(.t 43), (.t 44)], none⟩, ⟨some 8, .as (.t 45), none⟩] [43, 44, 45]) (.seq (.reg false [⟨some 9, .as (.c (.lit (.int .i64 1))), none⟩] []) (.seq (.reg false [⟨some 46, .mv (.t 6), none⟩, ⟨some 47, .mv (.t 9), none⟩, ⟨some 48, .call false 12 [(.t 46), (.t 47)], none⟩, ⟨some 9, .as (.t 48), none⟩] [46, 47, 48]) (.seq (.seq (.reg false [⟨some 49, .mv (.t 9), none⟩, ⟨some 50, .bin .lss 0 (.t 49) (.c (.lit (.int .i64 0))), none⟩] [49]) (.cond (.t 50) (.seq (.reg false [⟨some 2, .as (.c (.lit (.bool false))), none⟩] []) (.ret)) (.skip))) (.seq (.seq (.reg false [⟨some 51, .mv (.t 9), none⟩, ⟨some 52, .mv (.t 8), none⟩, ⟨some 53, .bin .neq 0 (.t 51) (.t 52), none⟩] [51, 52]) (.cond (.t 53) (.seq (.reg false [⟨some 2, .as (.c (.lit (.bool false))), none⟩] []) (.ret)) (.skip))) (.seq (.reg false [⟨some 54, .ld true 2 (.t 1), none⟩, ⟨some 55, .call false 6 [(.t 54)], none⟩, ⟨some 56, .call false 7 [(.t 55)], none⟩, ⟨some 10, .as (.t 56), none⟩] [54, 55, 56]) (.seq (.seq (.reg false [⟨some 57, .mv (.t 10), none⟩, ⟨some 58, .mv (.t 4), none⟩, ⟨some 59, .call false 8 [(.t 57), (.t 58)], none⟩, ⟨some 60, .un .not (.t 59), none⟩] [57, 58, 59]) (.cond (.t 60) (.seq (.reg false [⟨some 2, .as (.c (.lit (.bool false))), none⟩] []) (.ret)) (.skip))) (.seq (.reg false [⟨some 9, .as (.c (.lit (.int .i64 1))), none⟩] []) (.seq (.reg false [⟨some 61, .mv (.t 6), none⟩, ⟨some 62, .mv (.t 9), none⟩, ⟨some 63, .call false 12 [(.t 61), (.t 62)], none⟩, ⟨some 9, .as (.t 63), none⟩] [61, 62, 63]) (.seq (.seq (.reg false [⟨some 64, .mv (.t 9), none⟩, ⟨some 65, .bin .lss 0 (.t 64) (.c (.lit (.int .i64 0))), none⟩] [64]) (.cond (.t 65) (.seq (.reg false [⟨some 2, .as (.c (.lit (.bool false))), none⟩] []) (.ret)) (.skip))) (.seq (.seq (.reg false [⟨some 66, .mv (.t 9), none⟩, ⟨some 67, .mv (.t 8), none⟩, ⟨some 68, .bin .neq 0 (.t 66) (.t 67), none⟩] [66, 67]) (.cond (.t 68) (.seq (.reg false [⟨some 2, .as (.c (.lit (.bool false))), none⟩] []) (.ret)) (.skip))) (.seq (.reg false [⟨some 2, .as (.c (.lit (.bool true))), none⟩] []) (.ret)))))))))))))))))))))))))
theorem is3 : Is Go.Proofs.Try.prog 3 69 v3 [.t 2] := ⟨Go.Proofs.Try.f3, dl [(0, [2]), (2, [11, 12, 13]), (3, [14]), (5, [16, 17, 18]), (6, [19, 20]), (7, [21, 22]), (8, [23, 24, 25]), (10, [27, 28, 29, 30]), (13, [32, 33, 34]), (14, [35, 36, 37, 38, 39, 40, 41]), (17, [43, 44, 45]), (19, [46, 47, 48]), (20, [49]), (22, [51, 52]), (24, [54, 55, 56]), (25, [57, 58, 59]), (28, [61, 62, 63]), (29, [64]), (31, [66, 67])], Go.Proofs.Try.func3, by kernel_rfl, by kernel_rfl, by kernel_rfl, by kernel_rfl⟩
theorem flatL_sums (l : List Sm) : flat.flatL (l.map fun x => AV.agg x.av) = true := by
  induction l with
  | nil => rfl
  | cons x l ih =>
    have h1 : flat.flatL x.av = true := by simp [Sm.av, flat.flatL, flat, isSl]
    simp only [List.map_cons, flat.flatL, flat, h1, ih, Bool.and_self]
theorem flatL_packs (l : List Pk) : flat.flatL (l.map fun x => AV.agg x.av) = true := by
  induction l with
  | nil => rfl
  | cons x l ih =>
    have h1 : flat.flatL x.av = true := by simp [Pk.av, flat.flatL, flat, isSl, flatL_strs, flatL_sums]
    simp only [List.map_cons, flat.flatL, flat, h1, ih, Bool.and_self]
theorem idS_tbs {l : List Tb} (h : l ≠ []) : idS 0 (.sl ro 2 (tbs l)) = .sl ⟨.id 0, false⟩ 2 (idS.idL 1 (tbs l)) := by
  have he : (tbs l).isEmpty = false := by cases l <;> simp [tbs] at h ⊢
  simp only [idS, he]; rfl
section
variable {E : Env} (hE : E.P = Go.Proofs.Try.prog)
include hE
set_option maxHeartbeats 8000000 in
theorem tablesLaw_fx (g : Gr) (hg : g.good) : FxK E (fun _ => True) 3 [] [.agg g.av] [] (.lit (.bool true)) := by
  have hgv : g.av = [.sl ro 1 (g.top.map fun x => .lit (.string x)), .sl ro 6 (g.packs.map fun x => .agg x.av)] := rfl
  refine (is3.to hE).fxo (by simp [Gr.av]) (by simp) rfl ?_
  simp [v3, hgv, ownA, ownA.ownL, okC, mkF]
  refine vcall_go (szGraph_fx hE g 1048576 hg (by omega) (by omega)) (by simp [hgv]) (by simp) (by simp) (by simp) ?_
  simp
  by_cases c1 : g.sz 1048576 < 0
  · simp [c1]
    exact Fin_ret rfl rfl
  have hs := g.small_of 1048576 (by omega) (by omega) (by omega)
  have hcs := Gr.cnt_small hs
  have hss : ∀ p ∈ g.packs, p.sums.length ≤ 1048576 := fun p hp => (hs.2.2 p hp).2.2.2.1.1
  have hto : Fx E 6 [] [.agg g.av] [] (.agg [.sl ⟨.no, true⟩ 1 (g.top.map fun x => .lit (.string x)), .sl ⟨.no, true⟩ 6 (g.packs.map fun x => .agg x.av)]) := toGraph_fx hE g hs
  have hsp := specTables_fx hE g hs
  have him := implTables_fx hE g hs
  have hbd := tbsG_bd g hs g.packs.length
  have hln : (tbsG g g.packs.length).length = g.packs.length + 2 := by simp [tbsG]
  have hne : tbsG g g.packs.length ≠ [] := by simp [tbsG]
  obtain ⟨R, hR⟩ : ∃ R, tbsG g g.packs.length = R := ⟨_, rfl⟩
  rw [hR] at hsp him hbd hln hne
  have hcb := cntB_bd R fun x hx => (hbd x hx).2.2.1
  have hgl := hs.2.1
  have heq : Fx E 8 [] [.sl ro 2 (tbs R), .sl ro 2 (tbs R)] [] (.lit (.bool true)) := by
    have := eqTableS_fx hE R R (by omega) fun x hx => ⟨by have := (hbd x hx).2.1; omega, (hbd x hx).2.2.2⟩
    rw [Tb.all2_self] at this
    exact this
  rw [hgv] at hto
  simp [c1]
  refine vcall_go hto (by simp) (by simp) (by simp) (by simp) ?_
  simp
  refine vcall_go hsp (by simp [hgv]) (by simp) (by simp) (by simp) ?_
  simp [okC, putElem, upd]
  refine vcall_lab 6 (T := 20) hto (by decide) (by decide) (fun _ => trivial) (by simp [AS.noI, allP, noI, noI.noIL, noIL_strs, noIL_tbs, noIL_pks]) (by simp [noI, noI.noIL, noIL_strs, noIL_pks]) (by simp [lab, lab.labL]) (by simp [lab, lab.labL]) (by simp [lab, lab.labL]) (by simp [AS.lab, mapV, lab, lab.labL, labB, okC]) (by simp [AS.lab, mapV, lab, lab.labL, labB, okC, AS.noW, AS.putO, allV, noW, noW.noL]) (by decide) (by intro h; omega) rfl ?_
  simp [AS.lab, mapV, lab, lab.labL, labB, okC, ownA, ownA.ownL, putElem, upd]
  refine vcall_nm him (by simp [hgv]) (by simp) (by simp) (by simp) (fun _ _ => trivial) (by simp [AS.noI, AS.putO, AS.put, allP, setL, noI, noI.noIL, noIL_strs, noIL_tbs, noIL_pks]) (by simp [noI, noI.noIL, noIL_strs, noIL_pks]) ?_
  simp [okC, putElem, upd]
  refine vcall_er heq (by simp [er, er.erL, erL_tbsI, erL_tbs]) (by simp) (by simp) ?_
  simp [frA, frA.frL]
  refine vcall_gn (E := ⟨E, fun _ => True⟩) (K := fun _ => False) hto (by simp) (by simp) (by simp) (by simp) (fun _ h => h.elim) (noIS_not (fun _ h => h) _) (noIL_not (fun _ h => h) _) ⟨fun p _ _ => by simp [noI, noI.noIL, noIL_strs, noIL_pks], fun _ _ k hk => hk.elim⟩ ?_
  simp
  refine vcall_gn (E := ⟨E, fun _ => True⟩) (K := fun _ => False) (eqGraph_fx hE g hs) (by simp [hgv]) (by simp) (by simp) (by simp) (fun _ h => h.elim) (noIS_not (fun _ h => h) _) (noIL_not (fun _ h => h) _) (idc_lit _ _) ?_
  simp
  refine vcall_junk (T := 20) (rv := .int .i64 ((1 : Int) + g.cnt)) (by simpa [hsT, hsT.hsTL, hsL_packs, hsL_strs] using markGraph_junk hE g 1 (by omega) hs.2.1 hss (by omega)) (by decide) (by simp [okJ, okJ.okJL, flatL_packs, flatL_strs]) ?_
  have hk1 : ¬ ((1 : Int) + g.cnt < 0) := by omega
  simp [AS.kq, mapV, kq, kq.kqL, kqB, okC, List.filter, lT, cloL_tbsI, mkF, hk1]
  refine vcall_er heq (by simp [er, er.erL, erL_tbsI, erL_tbs]) (by simp) (by simp) ?_
  simp [frA, frA.frL]
  refine vcall_tree (a := .sl ro 2 (tbs R)) (a' := .sl ro 2 (tbs (mkTbs 1 R))) (M := fun k => if k = 0 then some (some (2, idS.idL 1 (tbs (mkTbs 1 R)))) else some none) (rv := .int .i64 ((1 : Int) + cntB R)) (markTableS_nest hE R hne 1 (by omega) (by omega) (fun x hx => ⟨(hbd x hx).1, (hbd x hx).2.1, (hbd x hx).2.2.2⟩) (by omega)) (by rw [idS_tbs hne]; rfl) (fun _ => trivial) (wf_tbs _ _) (wf_tbs _ _) (bsV_tbs hne 1) (inA_tbs R 1) (fun k => by split <;> simp) (fun k p hk => ?_) ?_
  · split at hk
    · rename_i h0
      subst h0
      obtain rfl := Option.some.inj (Option.some.inj hk)
      have hmn : mkTbs 1 R ≠ [] := fun e => hne (List.eq_nil_of_length_eq_zero (by rw [← mkTbs_len R 1, e]; rfl))
      rw [idS_tbs hmn]
      refine ⟨by simp [AV.cells], fun e => hmn (List.eq_nil_of_length_eq_zero ?_)⟩
      have := congrArg List.length e
      rw [idL_len] at this
      simpa [tbs] using this
    · cases Option.some.inj hk
  have hlenI : (idS.idL 1 (tbs R)).length = (idS.idL 1 (tbs (mkTbs 1 R))).length := by rw [idL_len, idL_len]; simp [tbs, mkTbs_len]
  simp [AS.kq, mapV, kq, kq.kqL, kqB, okC, List.filter, hlenI, mkF]
  have hheld : Fx E 12 [] [.sl ro 2 (tbs (mkTbs 1 R)), .lit (.int .i64 1)] [] (.lit (.int .i64 ((1 : Int) + cntB R))) := heldTableS_fx hE R 1 (by omega) (by omega) (fun x hx => (hbd x hx).2.1) (by omega)
  have hneg : ¬ ((1 : Int) + cntB R < 0) := by omega
  refine vcall_er hheld (by simp [er, er.erL, erL_tbsI, erL_tbs]) (by simp) (by simp) ?_
  simp [frA, frA.frL, hneg]
  have him2 := Fx.of_named him (by simp [noI.noIL, noI, hgv, noIL_pks, noIL_strs, ro]) (.inl rfl)
  simp only [er, er.erL, erL_tbsI] at him2
  refine vcall_go hto (by simp) (by simp) (by simp) (by simp) ?_
  simp
  have hrl : ∀ t b sz ys, relab t b (AV.sl ro sz ys) = AV.sl ⟨.no, b⟩ sz ys := fun _ _ _ _ => rfl
  refine vcall_go him2 (by simp [hgv]) (by simp) (by simp) (by simp) ?_
  simp [okC, putElem, upd, mkF, hrl]
  refine vcall_go heq (by simp) (by simp) (by simp) (by simp) ?_
  simp
  refine vcall_er hheld (by simp [er, er.erL, erL_tbsI, erL_tbs]) (by simp) (by simp) ?_
  simp [frA, frA.frL, hneg]
  exact Fin_ret rfl rfl
end
end Go.Proofs.Yticamghmcikfcaa.Vm
