/- The laws' marks of rows of tables, over boxes. -/
import Derived.Test.YticamghmcikfcaaMt
import Derived.Test.YticamghmcikfcaaTs
namespace Go.Proofs.Yticamghmcikfcaa.Vm
open Go Go.RowKit
set_option linter.unusedVariables false
set_option linter.unusedSimpArgs false
def v11 : VC := .seq (.reg false [⟨some 4, .as (.c (.lit (.int .i64 0))), none⟩] [4]) (.seq (.seq (.reg false [⟨some 5, .as (.c (.lit (.int .i64 0))), none⟩] []) (.block 0 (.loop (.seq (.seq (.reg false [⟨some 6, .mv (.t 5), none⟩, ⟨some 7, .mv (.t 0), none⟩, ⟨some 8, .len false (.t 7), none⟩, ⟨some 9, .bin .lss 0 (.t 6) (.t 8), none⟩] [6, 7, 8]) (.cond (.t 9) (.skip) (.exit 0))) (.seq (.block 1 (.seq (.reg false [⟨some 12, .mv (.t 0), none⟩, ⟨some 13, .mv (.t 5), none⟩, ⟨some 14, .mv (.t 1), none⟩, ⟨some 15, .call false 28 [(.t 14)], none⟩, ⟨some 16, .ia 2 (.t 12) (.t 13), none⟩, ⟨some 17, .fa 0 (.t 16), none⟩, ⟨none, .st 1 (.t 17) (.t 15), none⟩] [12, 13, 14, 15, 16, 17]) (.seq (.reg false [⟨some 18, .mv (.t 1), none⟩, ⟨some 19, .bin .add 0 (.t 18) (.c (.lit (.int .i64 1))), none⟩, ⟨some 1, .as (.t 19), none⟩] [18, 19]) (.reg false [⟨some 20, .mv (.t 0), none⟩, ⟨some 21, .mv (.t 5), none⟩, ⟨some 22, .ia 2 (.t 20) (.t 21), none⟩, ⟨some 23, .fa 1 (.t 22), none⟩, ⟨some 24, .ld false 1 (.t 23), none⟩, ⟨some 25, .mv (.t 1), none⟩, ⟨some 26, .call false 29 [(.t 24), (.t 25)], none⟩, ⟨some 1, .as (.t 26), none⟩] [20, 21, 22, 23, 24, 25, 26])))) (.reg false [⟨some 10, .mv (.t 5), none⟩, ⟨some 11, .bin .add 0 (.t 10) (.c (.lit (.int .i64 1))), none⟩, ⟨some 5, .as (.t 11), none⟩] [10, 11])))))) (.seq (.reg false [⟨some 27, .mv (.t 1), none⟩, ⟨some 4, .as (.t 27), none⟩] [27]) (.ret)))
theorem is11 : Is Go.Proofs.Try.prog 11 28 v11 [.t 4] := ⟨Go.Proofs.Try.f11, dl [(0, [4]), (2, [6, 7, 8]), (4, [12, 13, 14, 15, 16, 17]), (5, [18, 19]), (6, [20, 21, 22, 23, 24, 25, 26]), (3, [10, 11]), (7, [27])], Go.Proofs.Try.func11, by kernel_rfl, by kernel_rfl, by kernel_rfl, by kernel_rfl⟩
def v12 : VC := .seq (.reg false [⟨some 4, .as (.c (.lit (.int .i64 0))), none⟩] [4]) (.seq (.seq (.reg false [⟨some 5, .as (.c (.lit (.int .i64 0))), none⟩] []) (.block 0 (.loop (.seq (.seq (.reg false [⟨some 6, .mv (.t 5), none⟩, ⟨some 7, .mv (.t 0), none⟩, ⟨some 8, .len false (.t 7), none⟩, ⟨some 9, .bin .lss 0 (.t 6) (.t 8), none⟩] [6, 7, 8]) (.cond (.t 9) (.skip) (.exit 0))) (.seq (.block 1 (.seq (.seq (.reg true [⟨some 12, .mv (.t 0), none⟩, ⟨some 13, .mv (.t 5), none⟩, ⟨some 14, .ia 2 (.t 12) (.t 13), none⟩, ⟨some 15, .fa 0 (.t 14), none⟩, ⟨some 16, .ld false 1 (.t 15), none⟩, ⟨some 17, .mv (.t 1), none⟩, ⟨some 18, .call true 28 [(.t 17)], none⟩, ⟨some 19, .bin .neq 0 (.t 16) (.t 18), none⟩] [12, 13, 14, 15, 16, 17, 18]) (.cond (.t 19) (.seq (.reg false [⟨some 4, .as (.c (.lit (.int .i64 (-1)))), none⟩] []) (.ret)) (.skip))) (.seq (.reg false [⟨some 20, .mv (.t 1), none⟩, ⟨some 21, .bin .add 0 (.t 20) (.c (.lit (.int .i64 1))), none⟩, ⟨some 1, .as (.t 21), none⟩] [20, 21]) (.seq (.reg false [⟨some 22, .mv (.t 0), none⟩, ⟨some 23, .mv (.t 5), none⟩, ⟨some 24, .ia 2 (.t 22) (.t 23), none⟩, ⟨some 25, .fa 1 (.t 24), none⟩, ⟨some 26, .ld false 1 (.t 25), none⟩, ⟨some 27, .mv (.t 1), none⟩, ⟨some 28, .call false 30 [(.t 26), (.t 27)], none⟩, ⟨some 1, .as (.t 28), none⟩] [22, 23, 24, 25, 26, 27, 28]) (.seq (.reg false [⟨some 29, .mv (.t 1), none⟩, ⟨some 30, .bin .lss 0 (.t 29) (.c (.lit (.int .i64 0))), none⟩] [29]) (.cond (.t 30) (.seq (.reg false [⟨some 4, .as (.c (.lit (.int .i64 (-1)))), none⟩] []) (.ret)) (.skip))))))) (.reg false [⟨some 10, .mv (.t 5), none⟩, ⟨some 11, .bin .add 0 (.t 10) (.c (.lit (.int .i64 1))), none⟩, ⟨some 5, .as (.t 11), none⟩] [10, 11])))))) (.seq (.reg false [⟨some 31, .mv (.t 1), none⟩, ⟨some 4, .as (.t 31), none⟩] [31]) (.ret)))
theorem is12 : Is Go.Proofs.Try.prog 12 32 v12 [.t 4] := ⟨Go.Proofs.Try.f12, dl [(0, [4]), (2, [6, 7, 8]), (4, [12, 13, 14, 15, 16, 17, 18]), (6, [20, 21]), (7, [22, 23, 24, 25, 26, 27, 28]), (8, [29]), (3, [10, 11]), (10, [31])], Go.Proofs.Try.func12, by kernel_rfl, by kernel_rfl, by kernel_rfl, by kernel_rfl⟩
theorem is8 : Is Go.Proofs.Try.prog 8 27 (eqS 2 23) [.t 4] := ⟨Go.Proofs.Try.f8, dl [(0, [4]), (1, [6, 7, 8, 9]), (4, [11, 12, 13]), (6, [17, 18, 19, 20, 21, 22, 23, 24, 25]), (5, [15, 16])], Go.Proofs.Try.func8, by kernel_rfl, by kernel_rfl, by kernel_rfl, by kernel_rfl⟩
def Tb.cnt (x : Tb) : Nat := 1 + cntL x.fields
def cntB : List Tb → Nat
  | [] => 0
  | f :: l => f.cnt + cntB l
theorem cntB_take : ∀ (l : List Tb) (i : Nat) (h : i < l.length), cntB (l.take (i + 1)) = cntB (l.take i) + l[i].cnt
  | [], i, h => by simp at h
  | x :: l, 0, h => by simp [cntB]
  | x :: l, i + 1, h => by
    have := cntB_take l i (by simpa using h)
    simp only [List.take_succ_cons, cntB, List.getElem_cons_succ]
    omega
theorem cntB_le : ∀ (l : List Tb) (i : Nat), cntB (l.take i) ≤ cntB l
  | [], i => by simp
  | x :: l, 0 => by simp [cntB]
  | x :: l, i + 1 => by
    have := cntB_le l i
    simp only [List.take_succ_cons, cntB]; omega
def mkTb (k : Nat) (x : Tb) : Tb := ⟨mkT k, mkFlds (k + 1) x.fields⟩
def mkTbs : Nat → List Tb → List Tb
  | _, [] => []
  | k, f :: l => mkTb k f :: mkTbs (k + f.cnt) l
theorem mkTbs_len : ∀ (l : List Tb) (k : Nat), (mkTbs k l).length = l.length
  | [], k => rfl
  | f :: l, k => by simp [mkTbs, mkTbs_len l]
theorem mkTbs_snoc : ∀ (l : List Tb) (k : Nat) (f : Tb), mkTbs k (l ++ [f]) = mkTbs k l ++ [mkTb (k + cntB l) f]
  | [], k, f => by simp [mkTbs, cntB]
  | g :: l, k, f => by simp [mkTbs, mkTbs_snoc l, cntB, Nat.add_assoc]
theorem mkTbs_get : ∀ (l : List Tb) (k i : Nat) (h : i < l.length), (mkTbs k l)[i]? = some (mkTb (k + cntB (l.take i)) l[i])
  | [], k, i, h => by simp at h
  | f :: l, k, 0, h => by simp [mkTbs, cntB]
  | f :: l, k, i + 1, h => by
    have := mkTbs_get l (k + f.cnt) i (by simpa using h)
    simp only [mkTbs, List.getElem?_cons_succ, this, List.take_succ_cons, cntB, Nat.add_assoc, List.getElem_cons_succ]
theorem tb_tbT (x : Tb) : AV.agg x.av = tbT x.name x.fields := rfl
theorem nB_tbx (x : Tb) : nB (.agg x.av) = nB (.sl ro 4 (flds x.fields)) := by rw [tb_tbT]; exact nB_tb _ _
theorem nB_mkTb (k : Nat) (x : Tb) : nB (.agg (mkTb k x).av) = nB (.agg x.av) := by
  rw [nB_tbx, nB_tbx]
  exact nB_flds_mk _ _
theorem nB_mkTbs : ∀ (l : List Tb) (k : Nat), nB.nBL (tbs (mkTbs k l)) = nB.nBL (tbs l)
  | [], k => rfl
  | f :: l, k => by
    have := nB_mkTbs l (k + f.cnt)
    unfold tbs at this ⊢
    simp only [mkTbs, List.map_cons, nB.nBL, nB_mkTb, this]
theorem wfL_tbs (l : List Tb) : wfT.wfL (tbs l) = true := wfL_iff.2 fun a ha => by
  obtain ⟨x, _, rfl⟩ := List.mem_map.1 ha; exact wf_tb _ _
theorem wf_tbs (m : Mk) (l : List Tb) : wfT (.sl m 2 (tbs l)) = true := by
  simp only [wfT, wfL_tbs, Bool.and_true, Bool.and_eq_true, decide_eq_true_eq]
  refine ⟨by decide, List.all_eq_true.2 fun e he => ?_⟩
  obtain ⟨x, _, rfl⟩ := List.mem_map.1 he; rfl
theorem bsL_midT (A Z : List Tb) (x : Tb) (p : Nat) : bsV.bsL p (tbs (A ++ x :: Z)) = bsV.bsL p (tbs A) ++ .agg [.lit (.string x.name), bsV (p + nB.nBL (tbs A)) (.sl ro 4 (flds x.fields))] :: bsV.bsL (p + nB.nBL (tbs A) + nB (.sl ro 4 (flds x.fields))) (tbs Z) := by
  unfold tbs
  rw [List.map_append, bsL_app, List.map_cons, bsV.bsL, tb_tbT, bsV_tb, nB_tb]
theorem bxL_midT (A Z : List Tb) (x : Tb) (p : Nat) : bxA.bxL p (tbs (A ++ x :: Z)) = bxA.bxL p (tbs A) ++ bxA (p + nB.nBL (tbs A)) (.sl ro 4 (flds x.fields)) ++ bxA.bxL (p + nB.nBL (tbs A) + nB (.sl ro 4 (flds x.fields))) (tbs Z) := by
  unfold tbs
  rw [List.map_append, bxL_app, List.map_cons, bxA.bxL, tb_tbT, bxA_tb, nB_tb, List.append_assoc]
theorem nBL_tbs (l : List Tb) (h : ∀ x ∈ l, x.fields.length ≤ 100) : nB.nBL (tbs l) ≤ 101 * l.length := by
  induction l with
  | nil => simp [tbs, nB.nBL]
  | cons f l ih =>
    have h1 := ih fun x hx => h x (List.mem_cons_of_mem _ hx)
    have h2 := nB_flds_le f.fields
    have h3 := h f List.mem_cons_self
    unfold tbs at h1 ⊢
    simp only [List.map_cons, nB.nBL, nB_tbx, List.length_cons]; omega
section
variable {E : Env} (hE : E.P = Go.Proofs.Try.prog)
include hE
set_option maxHeartbeats 1000000 in
theorem markTableS_nest (l : List Tb) (hne : l ≠ []) (k : Nat) (h0 : 0 < k) (hl : l.length ≤ 2097152) (hll : ∀ x ∈ l, x.fields ≠ [] ∧ x.fields.length ≤ 100 ∧ ∀ f ∈ x.fields, f.list.length ≤ 1048576) (hk : k + cntB l ≤ 1152921504606846976) : Fx E 11 (bxA 0 (.sl ro 2 (tbs l))) [bsV 0 (.sl ro 2 (tbs l)), .lit (.int .i64 k)] (bxA 0 (.sl ro 2 (tbs (mkTbs k l)))) (.lit (.int .i64 ((k : Int) + cntB l))) := by
  have hlen : (tbs l).length = l.length := by simp [tbs]
  have he : (tbs l).isEmpty = false := by cases l <;> simp [tbs] at hne ⊢
  have he' : (tbs (mkTbs k l)).isEmpty = false := by cases l <;> simp [tbs, mkTbs] at hne ⊢
  have hnb := nBL_tbs l fun x hx => (hll x hx).2.1
  have hm : nB (.sl ro 2 (tbs (mkTbs k l))) = nB (.sl ro 2 (tbs l)) := by simp only [nB, he, he', nB_mkTbs]
  refine (is11.to hE).fxn (by simp) rfl (fun r hr => resBL_pc (pc_bxA (m := nB (.sl ro 2 (tbs (mkTbs k l)))) _ (wf_tbs _ _) 0 (by omega) r hr)) (by rw [bxA_nB, bxA_nB, hm]) (by rw [bxA_nB]; simp only [nB, he]; simp; omega) ?_
  have hpcB := pc_bxA (m := nB (.sl ro 2 (tbs (mkTbs k l)))) (.sl ro 2 (tbs (mkTbs k l))) (wf_tbs _ _) 0 (by omega)
  simp only [bxA, bsV, he, he'] at hpcB ⊢
  simp only [Bool.false_eq_true, if_false] at hpcB ⊢
  simp [v11, hlen]
  refine X_loop (τ := Nat) (fun i => ⟨[(0, .bs 0 2 l.length), (1, .lit (.int .i64 ((k : Int) + cntB (l.take i)))), (5, .lit (.int .i64 i))], (0, bsV.bsL 1 (tbs (mkTbs k (l.take i) ++ l.drop i))) :: enum 1 (bxA.bxL 1 (tbs (mkTbs k (l.take i) ++ l.drop i)))⟩) (fun i => i ≤ l.length) (fun i => l.length - i) 0 (by simp) (Wk_same (by simp [wkL, wkV.same, cntB]) (by simp [mkTbs])) ?_
  intro i hi
  simp
  have hle := cntB_le l i
  by_cases hlt : i < l.length
  · have ht := cntB_take l i hlt
    have hle2 := cntB_le l (i + 1)
    have hcn : l[i].cnt = 1 + cntL l[i].fields := rfl
    obtain ⟨hfn, hfc, hfl⟩ := hll _ (List.getElem_mem hlt)
    obtain ⟨c, hc⟩ : ∃ c, k + cntB (l.take i) = c := ⟨_, rfl⟩
    have hc' : (k : Int) + cntB (l.take i) = c := by omega
    rw [hc', List.drop_eq_getElem_cons hlt]
    have hT : mkTbs k (l.take (i + 1)) ++ l.drop (i + 1) = mkTbs k (l.take i) ++ mkTb c l[i] :: l.drop (i + 1) := by
      rw [List.take_succ_eq_append_getElem hlt, mkTbs_snoc, hc, List.append_assoc]; rfl
    obtain ⟨x, hx⟩ : ∃ x, l[i] = x := ⟨_, rfl⟩
    rw [hx] at hT ht hcn hfl hfn hfc ⊢
    rw [bsL_midT, bxL_midT]
    have hR2 := bsL_midT (mkTbs k (l.take i)) (l.drop (i + 1)) (mkTb c x) 1
    have hI2 := bxL_midT (mkTbs k (l.take i)) (l.drop (i + 1)) (mkTb c x) 1
    rw [← hT] at hR2 hI2
    have hn1 : nB (.sl ro 4 (flds (mkTb c x).fields)) = nB (.sl ro 4 (flds x.fields)) := nB_flds_mk _ _
    rw [hn1] at hR2 hI2
    obtain ⟨q, hq⟩ : ∃ q, 1 + nB.nBL (tbs (mkTbs k (l.take i))) = q := ⟨_, rfl⟩
    rw [hq] at hR2 hI2 ⊢
    obtain ⟨n, hn⟩ : ∃ n, q + nB (.sl ro 4 (flds x.fields)) = n := ⟨_, rfl⟩
    rw [hn] at hR2 hI2 ⊢
    have hIAl : (bxA.bxL 1 (tbs (mkTbs k (l.take i)))).length + 1 = q := by rw [bxL_nBL]; omega
    have hRA : (bsV.bsL 1 (tbs (mkTbs k (l.take i)))).length = i := by rw [bsL_len]; simp [tbs, mkTbs_len]; omega
    have hRAc : ∀ d, noC.noL d (bsV.bsL 1 (tbs (mkTbs k (l.take i)))) = true := fun d => noC_bsL _ (wfL_tbs _) _
    have hRZc : ∀ d, noC.noL d (bsV.bsL n (tbs (l.drop (i + 1)))) = true := fun d => noC_bsL _ (wfL_tbs _) _
    have hIAc : ∀ d, ∀ r ∈ bxA.bxL 1 (tbs (mkTbs k (l.take i))), noC.noL d r = true := fun d => noC_bxL _ (wfL_tbs _) _
    have hIZc : ∀ d, ∀ r ∈ bxA.bxL n (tbs (l.drop (i + 1))), noC.noL d r = true := fun d => noC_bxL _ (wfL_tbs _) _
    have hIMc : ∀ d, ∀ r ∈ bxA q (.sl ro 4 (flds x.fields)), noC.noL d r = true := fun d => noC_bxA _ (wf_flds _ _) _
    have hb : bsV q (.sl ro 4 (flds x.fields)) = .bs q 4 x.fields.length := by
      have he : (flds x.fields).isEmpty = false := by cases hh : x.fields <;> simp [flds, hh] at hfn ⊢
      simp only [bsV, he]; simp [flds]
    have hb2 : bsV q (.sl ro 4 (flds (mkTb c x).fields)) = .bs q 4 x.fields.length := by
      have he : (flds (mkTb c x).fields).isEmpty = false := by show (flds (mkFlds (c + 1) x.fields)).isEmpty = false; cases hh : x.fields <;> simp [flds, hh, mkFlds] at hfn ⊢
      simp only [bsV, he]; simp [flds, mkTb, mkFlds_len]
    rw [hb2] at hR2
    rw [hb]
    generalize bsV.bsL 1 (tbs (mkTbs k (l.take i))) = RA at *
    generalize bsV.bsL n (tbs (l.drop (i + 1))) = RZ at *
    generalize bxA.bxL 1 (tbs (mkTbs k (l.take i))) = IA at *
    generalize bxA.bxL n (tbs (l.drop (i + 1))) = IZ at *
    have hIc : ∀ d, allV (noC.noL d) (enum 1 (IA ++ (bxA q (.sl ro 4 (flds x.fields)) ++ IZ))) = true := fun d => allV_enum fun r hr => by
      rcases List.mem_append.1 hr with hr | hr
      · exact hIAc d r hr
      · rcases List.mem_append.1 hr with hr | hr
        · exact hIMc d r hr
        · exact hIZc d r hr
    simp [hlt]
    refine vcall_go (markText_fx hE c (by omega) (by omega)) (by simp) (by simp) (by simp) (by simp [noCL_app, hRAc, hRZc, hIc]) ?_
    simp [hlt, okC, get_mid hRA, set_mid hRA, putElem, upd]
    rw [wrap_i64 (by omega) (by omega)]
    have e1 : (c : Int) + 1 = ((c + 1 : Nat) : Int) := by omega
    rw [e1]
    refine vcall_nestR (q := q) (tr := .sl ro 4 (flds x.fields)) (tr' := .sl ro 4 (flds (mkFlds (c + 1) x.fields))) (pre := IA) (post := IZ) (kv := .int .i64 ((c + 1 : Nat) : Int)) (rv := .int .i64 (((c + 1 : Nat) : Int) + cntL x.fields)) (markFieldS_nest hE x.fields hfn (c + 1) (by omega) (by omega) hfl (by omega)) (wf_flds _ _) (wf_flds _ _) hIAl (nB_flds_mk _ _) hb (by rw [List.append_assoc]) ?_
    have e3 : (((c + 1 : Nat) : Int)) + cntL x.fields = (k : Int) + cntB (l.take (i + 1)) := by omega
    rw [e3]
    simp
    refine ⟨i + 1, by omega, by omega, Wk_same (by simp [wkL, wkV.same]; rw [wrapN (by omega)]; exact wkV.same _) ?_⟩
    simp only [hR2, hI2, List.append_assoc, mkTb]
  · obtain rfl : i = l.length := by omega
    simp
    have hne' : ¬ tbs (mkTbs k l) = [] := fun e => by rw [e] at he'; cases he'
    rw [if_neg hne']
    exact FinN_ret (loc := []) (m := nB (.sl ro 2 (tbs (mkTbs k l)))) (r' := .lit (.int .i64 ((k : Int) + cntB l))) (by simp [resVs, resV]) (by simp [reC]) (by simp [enum]) hpcB
theorem heldTableS_fx (l : List Tb) (k : Nat) (h0 : 0 < k) (hl : l.length ≤ 2097152) (hll : ∀ x ∈ l, x.fields.length ≤ 100) (hk : k + cntB l ≤ 1152921504606846976) : Fx E 12 [] [.sl ro 2 (tbs (mkTbs k l)), .lit (.int .i64 k)] [] (.lit (.int .i64 ((k : Int) + cntB l))) := by
  have hlen : (tbs (mkTbs k l)).length = l.length := by simp [tbs, mkTbs_len]
  refine (is12.to hE).fx [] (by simp) rfl rfl ?_
  simp [v12, hlen]
  refine X_loop (τ := Nat) (fun i => ⟨[(0, .sl ro 2 (tbs (mkTbs k l))), (1, .lit (.int .i64 ((k : Int) + cntB (l.take i)))), (5, .lit (.int .i64 i))], []⟩) (fun i => i ≤ l.length) (fun i => l.length - i) 0 (by simp) (Wk.both (by simp [wkL, wkV.same, cntB]) trivial) ?_
  intro i hi
  simp [hlen]
  have hle := cntB_le l i
  by_cases hlt : i < l.length
  · have ht := cntB_take l i hlt
    have hle2 := cntB_le l (i + 1)
    have hcn : l[i].cnt = 1 + cntL l[i].fields := rfl
    have hget := mkTbs_get l k i hlt
    have hgf : (tbs (mkTbs k l))[i]? = some (.agg (mkTb (k + cntB (l.take i)) l[i]).av) := by unfold tbs; rw [List.getElem?_map, hget]; rfl
    have hfc := hll _ (List.getElem_mem hlt)
    obtain ⟨c, hc⟩ : ∃ c, k + cntB (l.take i) = c := ⟨_, rfl⟩
    have hc' : (k : Int) + cntB (l.take i) = c := by omega
    rw [hc] at hgf
    rw [hc']
    have hav : (mkTb c l[i]).av = [.lit (.string (mkT c)), .sl ro 4 (flds (mkFlds (c + 1) l[i].fields))] := rfl
    have e1 : IntKind.i64.wrap ((c : Int) + 1) = ((c + 1 : Nat) : Int) := by rw [wrap_i64 (by omega) (by omega)]; omega
    simp [hlt, ro, mkF, hgf, hav]
    refine vcall_go (markText_fx hE c (by omega) (by omega)) (by simp) (by simp) (by simp) (by simp) ?_
    simp
    rw [e1]
    simp [hlt, hgf, hav, mkF, ro]
    refine vcall_go (heldFieldS_fx hE l[i].fields (c + 1) (by omega) (by omega) (by omega)) (by simp [ro]) (by simp) (by simp) (by simp) ?_
    have hneg : ¬ ((c : Int) + 1 + cntL l[i].fields < 0) := by omega
    have e3 : (c : Int) + 1 + cntL l[i].fields = (k : Int) + cntB (l.take (i + 1)) := by omega
    simp [hneg]
    rw [e3]
    exact ⟨i + 1, by omega, by omega, Wk.both (by simp [wkL, wkV.same, ro]; rw [wrapN (by omega)]; exact wkV.same _) trivial⟩
  · obtain rfl : i = l.length := by omega
    simp
    exact Fin_ret rfl (by simp [reC])
theorem eqTableS_fx (xs ys : List Tb) (h : xs.length ≤ 2097152) (hx : ∀ x ∈ xs, x.fields.length ≤ 1048576 ∧ ∀ f ∈ x.fields, f.list.length ≤ 1048576) : Fx E 8 [] [.sl ro 2 (tbs xs), .sl ro 2 (tbs ys)] [] (.lit (.bool (all2 Tb.eq xs ys))) :=
  eqS_fx (is8.to hE) (by decide) Tb.pl Tb.pl Tb.len Tb.len xs (fun x y hm => eqTable_fx hE x y (by have := (hx x hm).1; omega) (hx x hm).2) ys (by omega)
end
end Go.Proofs.Yticamghmcikfcaa.Vm
