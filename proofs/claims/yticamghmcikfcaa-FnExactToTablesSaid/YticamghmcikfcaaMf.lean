/- The laws' marks of fields and tables, over boxes. -/
import Derived.Test.YticamghmcikfcaaFoL
namespace Go.Proofs.Yticamghmcikfcaa.Vm
open Go Go.RowKit
set_option linter.unusedVariables false
set_option linter.unusedSimpArgs false
def v30 : VC := .seq (.reg false [⟨some 4, .as (.c (.lit (.int .i64 0))), none⟩] [4]) (.seq (.seq (.reg false [⟨some 5, .as (.c (.lit (.int .i64 0))), none⟩] []) (.block 0 (.loop (.seq (.seq (.reg false [⟨some 6, .mv (.t 5), none⟩, ⟨some 7, .mv (.t 0), none⟩, ⟨some 8, .len false (.t 7), none⟩, ⟨some 9, .bin .lss 0 (.t 6) (.t 8), none⟩] [6, 7, 8]) (.cond (.t 9) (.skip) (.exit 0))) (.seq (.block 1 (.seq (.seq (.reg true [⟨some 12, .mv (.t 0), none⟩, ⟨some 13, .mv (.t 5), none⟩, ⟨some 14, .ia 4 (.t 12) (.t 13), none⟩, ⟨some 15, .fa 0 (.t 14), none⟩, ⟨some 16, .ld false 1 (.t 15), none⟩, ⟨some 17, .mv (.t 1), none⟩, ⟨some 18, .call true 28 [(.t 17)], none⟩, ⟨some 19, .bin .neq 0 (.t 16) (.t 18), none⟩] [12, 13, 14, 15, 16, 17, 18]) (.cond (.t 19) (.seq (.reg false [⟨some 4, .as (.c (.lit (.int .i64 (-1)))), none⟩] []) (.ret)) (.skip))) (.seq (.reg false [⟨some 20, .mv (.t 1), none⟩, ⟨some 21, .bin .add 0 (.t 20) (.c (.lit (.int .i64 1))), none⟩, ⟨some 1, .as (.t 21), none⟩] [20, 21]) (.seq (.seq (.reg true [⟨some 22, .mv (.t 0), none⟩, ⟨some 23, .mv (.t 5), none⟩, ⟨some 24, .ia 4 (.t 22) (.t 23), none⟩, ⟨some 25, .fa 1 (.t 24), none⟩, ⟨some 26, .ld false 1 (.t 25), none⟩, ⟨some 27, .mv (.t 1), none⟩, ⟨some 28, .call true 28 [(.t 27)], none⟩, ⟨some 29, .bin .neq 0 (.t 26) (.t 28), none⟩] [22, 23, 24, 25, 26, 27, 28]) (.cond (.t 29) (.seq (.reg false [⟨some 4, .as (.c (.lit (.int .i64 (-1)))), none⟩] []) (.ret)) (.skip))) (.seq (.reg false [⟨some 30, .mv (.t 1), none⟩, ⟨some 31, .bin .add 0 (.t 30) (.c (.lit (.int .i64 1))), none⟩, ⟨some 1, .as (.t 31), none⟩] [30, 31]) (.seq (.reg false [⟨some 32, .mv (.t 0), none⟩, ⟨some 33, .mv (.t 5), none⟩, ⟨some 34, .ia 4 (.t 32) (.t 33), none⟩, ⟨some 35, .fa 2 (.t 34), none⟩, ⟨some 36, .ld false 1 (.t 35), none⟩, ⟨some 37, .mv (.t 1), none⟩, ⟨some 38, .call false 40 [(.t 36), (.t 37)], none⟩, ⟨some 1, .as (.t 38), none⟩] [32, 33, 34, 35, 36, 37, 38]) (.seq (.seq (.reg false [⟨some 39, .mv (.t 1), none⟩, ⟨some 40, .bin .lss 0 (.t 39) (.c (.lit (.int .i64 0))), none⟩] [39]) (.cond (.t 40) (.seq (.reg false [⟨some 4, .as (.c (.lit (.int .i64 (-1)))), none⟩] []) (.ret)) (.skip))) (.seq (.seq (.reg false [⟨some 41, .mv (.t 0), none⟩, ⟨some 42, .mv (.t 5), none⟩, ⟨some 43, .ia 4 (.t 41) (.t 42), none⟩, ⟨some 44, .fa 3 (.t 43), none⟩, ⟨some 45, .ld false 1 (.t 44), none⟩, ⟨some 46, .mv (.t 1), none⟩, ⟨some 47, .bin .rem 0 (.t 46) (.c (.lit (.int .i64 3))), none⟩, ⟨some 48, .bin .eql 0 (.t 47) (.c (.lit (.int .i64 0))), none⟩, ⟨some 49, .bin .neq 2 (.t 45) (.t 48), none⟩] [41, 42, 43, 44, 45, 46, 47, 48]) (.cond (.t 49) (.seq (.reg false [⟨some 4, .as (.c (.lit (.int .i64 (-1)))), none⟩] []) (.ret)) (.skip))) (.reg false [⟨some 50, .mv (.t 1), none⟩, ⟨some 51, .bin .add 0 (.t 50) (.c (.lit (.int .i64 1))), none⟩, ⟨some 1, .as (.t 51), none⟩] [50, 51]))))))))) (.reg false [⟨some 10, .mv (.t 5), none⟩, ⟨some 11, .bin .add 0 (.t 10) (.c (.lit (.int .i64 1))), none⟩, ⟨some 5, .as (.t 11), none⟩] [10, 11])))))) (.seq (.reg false [⟨some 52, .mv (.t 1), none⟩, ⟨some 4, .as (.t 52), none⟩] [52]) (.ret)))
theorem is30 : Is Go.Proofs.Try.prog 30 53 v30 [.t 4] := ⟨Go.Proofs.Try.f30, dl [(0, [4]), (2, [6, 7, 8]), (4, [12, 13, 14, 15, 16, 17, 18]), (6, [20, 21]), (7, [22, 23, 24, 25, 26, 27, 28]), (9, [30, 31]), (10, [32, 33, 34, 35, 36, 37, 38]), (11, [39]), (13, [41, 42, 43, 44, 45, 46, 47, 48]), (15, [50, 51]), (3, [10, 11]), (16, [52])], Go.Proofs.Try.func30, by kernel_rfl, by kernel_rfl, by kernel_rfl, by kernel_rfl⟩
def mkFld (k : Nat) (f : Fld) : Fld := ⟨mkT k, mkT (k + 1), mkRow (k + 2) f.list.length, decide ((k + 2 + f.list.length) % 3 = 0)⟩
def mkFlds : Nat → List Fld → List Fld
  | _, [] => []
  | k, f :: l => mkFld k f :: mkFlds (k + f.cnt) l
def flds (l : List Fld) : List AV := l.map fun x => .agg x.av
theorem mkFlds_len : ∀ (l : List Fld) (k : Nat), (mkFlds k l).length = l.length
  | [], k => rfl
  | f :: l, k => by simp [mkFlds, mkFlds_len l]
theorem mkFlds_snoc : ∀ (l : List Fld) (k : Nat) (f : Fld), mkFlds k (l ++ [f]) = mkFlds k l ++ [mkFld (k + cntL l) f]
  | [], k, f => by simp [mkFlds, cntL]
  | g :: l, k, f => by simp [mkFlds, mkFlds_snoc l, cntL, Nat.add_assoc]
theorem mkFlds_get : ∀ (l : List Fld) (k i : Nat) (h : i < l.length), (mkFlds k l)[i]? = some (mkFld (k + cntL (l.take i)) l[i])
  | [], k, i, h => by simp at h
  | f :: l, k, 0, h => by simp [mkFlds, cntL]
  | f :: l, k, i + 1, h => by
    have := mkFlds_get l (k + f.cnt) i (by simpa using h)
    simp only [mkFlds, List.getElem?_cons_succ, this, List.take_succ_cons, cntL, Nat.add_assoc, List.getElem_cons_succ]
theorem mkRow_len (k n : Nat) : (mkRow k n).length = n := by simp [mkRow]
theorem nB_fld (f : Fld) : nB (.agg f.av) = n1 f.list := by
  simp only [Fld.av, nB, nB.nBL]
  rw [← nB_strs ro f.list]
  simp [nB]
theorem nB_mkFld (k : Nat) (f : Fld) : nB (.agg (mkFld k f).av) = nB (.agg f.av) := by
  rw [nB_fld, nB_fld]
  exact n1_len (by simp [mkFld, mkRow_len])
theorem nB_mkFlds : ∀ (l : List Fld) (k : Nat), nB.nBL (flds (mkFlds k l)) = nB.nBL (flds l)
  | [], k => rfl
  | f :: l, k => by
    have := nB_mkFlds l (k + f.cnt)
    unfold flds at this ⊢
    simp only [mkFlds, List.map_cons, nB.nBL, nB_mkFld, this]
theorem wf_fld (f : Fld) : wfT (.agg f.av) = true := by
  have h := wf_strs ro f.list
  show ([AV.lit (.string f.key), .lit (.string f.text), .sl ro 1 (f.list.map fun x => .lit (.string x)), .lit (.bool f.isL)].all okC && (wfT (.lit (.string f.key)) && (wfT (.lit (.string f.text)) && (wfT (.sl ro 1 (f.list.map fun x => .lit (.string x))) && (wfT (.lit (.bool f.isL)) && true))))) = true
  rw [h]; rfl
theorem wfL_flds (l : List Fld) : wfT.wfL (flds l) = true := wfL_iff.2 fun a ha => by
  obtain ⟨x, _, rfl⟩ := List.mem_map.1 ha; exact wf_fld x
theorem wf_flds (m : Mk) (l : List Fld) : wfT (.sl m 4 (flds l)) = true := by
  simp only [wfT, wfL_flds, Bool.and_true, Bool.and_eq_true, decide_eq_true_eq]
  refine ⟨by decide, List.all_eq_true.2 fun e he => ?_⟩
  obtain ⟨x, _, rfl⟩ := List.mem_map.1 he; rfl
theorem bsV_fld (p : Nat) (f : Fld) : bsV p (.agg f.av) = .agg [.lit (.string f.key), .lit (.string f.text), lsB p f.list, .lit (.bool f.isL)] := by
  rw [show bsV p (.agg f.av) = .agg [.lit (.string f.key), .lit (.string f.text), bsV (p + 0 + 0) (.sl ro 1 (f.list.map fun x => .lit (.string x))), .lit (.bool f.isL)] from rfl, bsV_strs]
  rfl
theorem bxA_fld (p : Nat) (f : Fld) : bxA p (.agg f.av) = lsR f.list := by
  rw [show bxA p (.agg f.av) = [] ++ ([] ++ (bxA (p + 0 + 0) (.sl ro 1 (f.list.map fun x => .lit (.string x))) ++ ([] ++ []))) from rfl, bxA_strs]
  simp
theorem bsL_mid (A Z : List Fld) (f : Fld) (p : Nat) : bsV.bsL p (flds (A ++ f :: Z)) = bsV.bsL p (flds A) ++ .agg [.lit (.string f.key), .lit (.string f.text), lsB (p + nB.nBL (flds A)) f.list, .lit (.bool f.isL)] :: bsV.bsL (p + nB.nBL (flds A) + n1 f.list) (flds Z) := by
  unfold flds
  rw [List.map_append, bsL_app, List.map_cons, bsV.bsL, bsV_fld, nB_fld]
theorem bxL_mid (A Z : List Fld) (f : Fld) (p : Nat) : bxA.bxL p (flds (A ++ f :: Z)) = bxA.bxL p (flds A) ++ lsR f.list ++ bxA.bxL (p + nB.nBL (flds A) + n1 f.list) (flds Z) := by
  unfold flds
  rw [List.map_append, bxL_app, List.map_cons, bxA.bxL, bxA_fld, nB_fld, List.append_assoc]
theorem noCL_app (d : Nat) : ∀ (a b : List AV), noC.noL d (a ++ b) = (noC.noL d a && noC.noL d b)
  | [], b => rfl
  | x :: a, b => by simp only [List.cons_append, noC.noL, noCL_app d a b, Bool.and_assoc]
theorem lsR_strs (l : List ByteArray) (h : l ≠ []) : lsR l = [l.map fun x => .lit (.string x)] := by
  unfold lsR; rw [if_neg (by simpa using h)]
theorem noC_lsR (d : Nat) (l : List ByteArray) : ∀ r ∈ lsR l, noC.noL d r = true := by
  intro r hr
  unfold lsR at hr
  split at hr
  · simp at hr
  · obtain rfl := List.mem_singleton.1 hr
    exact (PlL_strs _).noC
theorem noC_lsB (d p : Nat) (l : List ByteArray) : noC d (lsB p l) = true := by unfold lsB; split <;> rfl
theorem Wk_same {K : Nat → Prop} {s : AS} {l : List (Nat × AV)} {b : List (Nat × List AV)} (h : wkL s l) (hb : b = s.bxs) : Wk K ⟨l, b⟩ s := by subst hb; exact .envL h
section
variable {E : Env} (hE : E.P = Go.Proofs.Try.prog)
include hE
set_option maxHeartbeats 1000000 in
theorem markFieldS_nest (l : List Fld) (hne : l ≠ []) (k : Nat) (h0 : 0 < k) (hl : l.length ≤ 2097152) (hll : ∀ f ∈ l, f.list.length ≤ 1048576) (hk : k + cntL l ≤ 1152921504606846976) : Fx E 29 (bxA 0 (.sl ro 4 (flds l))) [bsV 0 (.sl ro 4 (flds l)), .lit (.int .i64 k)] (bxA 0 (.sl ro 4 (flds (mkFlds k l)))) (.lit (.int .i64 ((k : Int) + cntL l))) := by
  have hlen : (flds l).length = l.length := by simp [flds]
  have he : (flds l).isEmpty = false := by cases l <;> simp [flds] at hne ⊢
  have he' : (flds (mkFlds k l)).isEmpty = false := by cases l <;> simp [flds, mkFlds] at hne ⊢
  have hnb : nB.nBL (flds l) ≤ l.length := by
    clear hll hk he he' hlen hne hl
    induction l with
    | nil => simp [flds, nB.nBL]
    | cons f l ih => have := n1_le f.list; unfold flds at ih ⊢; simp only [List.map_cons, nB.nBL, nB_fld, List.length_cons]; omega
  have hm : nB (.sl ro 4 (flds (mkFlds k l))) = nB (.sl ro 4 (flds l)) := by simp only [nB, he, he', nB_mkFlds]
  refine (is29.to hE).fxn (by simp) rfl (fun r hr => resBL_pc (pc_bxA (m := nB (.sl ro 4 (flds (mkFlds k l)))) _ (wf_flds _ _) 0 (by omega) r hr)) (by rw [bxA_nB, bxA_nB, hm]) (by rw [bxA_nB]; simp only [nB, he]; simp; omega) ?_
  have hpcB := pc_bxA (m := nB (.sl ro 4 (flds (mkFlds k l)))) (.sl ro 4 (flds (mkFlds k l))) (wf_flds _ _) 0 (by omega)
  simp only [bxA, bsV, he, he'] at hpcB ⊢
  simp only [Bool.false_eq_true, if_false] at hpcB ⊢
  simp [v29, hlen]
  refine X_loop (τ := Nat) (fun i => ⟨[(0, .bs 0 4 l.length), (1, .lit (.int .i64 ((k : Int) + cntL (l.take i)))), (5, .lit (.int .i64 i))], (0, bsV.bsL 1 (flds (mkFlds k (l.take i) ++ l.drop i))) :: enum 1 (bxA.bxL 1 (flds (mkFlds k (l.take i) ++ l.drop i)))⟩) (fun i => i ≤ l.length) (fun i => l.length - i) 0 (by simp) (Wk_same (by simp [wkL, wkV.same, cntL]) (by simp [mkFlds])) ?_
  intro i hi
  simp
  have hle := cntL_le l i
  by_cases hlt : i < l.length
  · have ht := cntL_take l i hlt
    have hle2 := cntL_le l (i + 1)
    have hcn : l[i].cnt = l[i].list.length + 3 := rfl
    have hfl := hll _ (List.getElem_mem hlt)
    obtain ⟨c, hc⟩ : ∃ c, k + cntL (l.take i) = c := ⟨_, rfl⟩
    have hc' : (k : Int) + cntL (l.take i) = c := by omega
    rw [hc', List.drop_eq_getElem_cons hlt]
    have hT : mkFlds k (l.take (i + 1)) ++ l.drop (i + 1) = mkFlds k (l.take i) ++ mkFld c l[i] :: l.drop (i + 1) := by
      rw [List.take_succ_eq_append_getElem hlt, mkFlds_snoc, hc, List.append_assoc]; rfl
    obtain ⟨f, hf⟩ : ∃ f, l[i] = f := ⟨_, rfl⟩
    rw [hf] at hT ht hcn hfl ⊢
    rw [bsL_mid, bxL_mid]
    have hR2 := bsL_mid (mkFlds k (l.take i)) (l.drop (i + 1)) (mkFld c f) 1
    have hI2 := bxL_mid (mkFlds k (l.take i)) (l.drop (i + 1)) (mkFld c f) 1
    rw [← hT] at hR2 hI2
    have hn1 : n1 (mkFld c f).list = n1 f.list := n1_len (by simp [mkFld, mkRow_len])
    rw [hn1] at hR2 hI2
    obtain ⟨q, hq⟩ : ∃ q, 1 + nB.nBL (flds (mkFlds k (l.take i))) = q := ⟨_, rfl⟩
    rw [hq] at hR2 hI2 ⊢
    have hIAl : (bxA.bxL 1 (flds (mkFlds k (l.take i)))).length + 1 = q := by rw [bxL_nBL]; omega
    have hRA : (bsV.bsL 1 (flds (mkFlds k (l.take i)))).length = i := by rw [bsL_len]; simp [flds, mkFlds_len]; omega
    have hRAc : ∀ d, noC.noL d (bsV.bsL 1 (flds (mkFlds k (l.take i)))) = true := fun d => noC_bsL _ (wfL_flds _) _
    have hRZc : ∀ d, noC.noL d (bsV.bsL (q + n1 f.list) (flds (l.drop (i + 1)))) = true := fun d => noC_bsL _ (wfL_flds _) _
    have hIAc : ∀ d, ∀ r ∈ bxA.bxL 1 (flds (mkFlds k (l.take i))), noC.noL d r = true := fun d => noC_bxL _ (wfL_flds _) _
    have hIZc : ∀ d, ∀ r ∈ bxA.bxL (q + n1 f.list) (flds (l.drop (i + 1))), noC.noL d r = true := fun d => noC_bxL _ (wfL_flds _) _
    generalize bsV.bsL 1 (flds (mkFlds k (l.take i))) = RA at *
    generalize bsV.bsL (q + n1 f.list) (flds (l.drop (i + 1))) = RZ at *
    generalize bxA.bxL 1 (flds (mkFlds k (l.take i))) = IA at *
    generalize bxA.bxL (q + n1 f.list) (flds (l.drop (i + 1))) = IZ at *
    have hIc : ∀ (g : List ByteArray) d, allV (noC.noL d) (enum 1 (IA ++ (lsR g ++ IZ))) = true := fun g d => allV_enum fun r hr => by
      rcases List.mem_append.1 hr with hr | hr
      · exact hIAc d r hr
      · rcases List.mem_append.1 hr with hr | hr
        · exact noC_lsR d g r hr
        · exact hIZc d r hr
    simp [hlt]
    refine vcall_go (markText_fx hE c (by omega) (by omega)) (by simp) (by simp) (by simp) (by simp [noCL_app, hRAc, hRZc, hIc, noC_lsB]) ?_
    simp [hlt, okC, get_mid hRA, set_mid hRA, putElem, upd]
    rw [wrap_i64 (by omega) (by omega)]
    refine vcall_go (markText_fx hE (c + 1) (by omega) (by omega)) (by simp) (by simp) (by simp) (by simp [noCL_app, hRAc, hRZc, hIc, noC_lsB]) ?_
    simp [hlt, okC, get_mid hRA, set_mid hRA, putElem, upd]
    rw [wrap_i64 (by omega) (by omega)]
    have e1 : (c : Int) + 1 + 1 = ((c + 2 : Nat) : Int) := by omega
    rw [e1]
    have hmod : ∀ n : Nat, (((n : Nat) : Int).tmod 3 = 0) = (n % 3 = 0) := fun n => by
      have : ((n : Int)).tmod 3 = ((n % 3 : Nat) : Int) := rfl
      rw [this]; apply propext; omega
    by_cases hem : f.list = []
    · have hb : lsB q f.list = .sl ro 1 [] := by unfold lsB; rw [hem]; rfl
      have hr : lsR f.list = [] := by unfold lsR; rw [hem]; rfl
      have hb2 : lsB q (mkFld c f).list = .sl ro 1 [] := by unfold lsB; simp [mkFld, hem, mkRow]
      have hr2 : lsR (mkFld c f).list = [] := by unfold lsR; simp [mkFld, hem, mkRow]
      have hIc0 : ∀ d, allV (noC.noL d) (enum 1 (IA ++ IZ)) = true := fun d => by simpa [lsR] using hIc [] d
      rw [hb2] at hR2
      rw [hr2] at hI2
      rw [hb, hr]
      simp
      refine vcall_go (markStr_nil hE (c + 2) (by omega)) (by simp) (by simp) (by simp) (by simp [noCL_app, hRAc, hRZc, hIc0]) ?_
      have hfl0 : f.list.length = 0 := by rw [hem]; rfl
      have e2 : IntKind.i64.wrap (((c + 2 : Nat) : Int) + 1) = (k : Int) + cntL (l.take (i + 1)) := by rw [wrap_i64 (by omega) (by omega)]; omega
      simp [hlt, okC, get_mid hRA, set_mid hRA, putElem, upd]
      have e3 : IntKind.i64.wrap ((c : Int) + 2 + 1) = (k : Int) + cntL (l.take (i + 1)) := by rw [wrap_i64 (by omega) (by omega)]; omega
      have hm3 := hmod (c + 2)
      simp only [Int.natCast_add, Int.cast_ofNat_Int] at hm3
      rw [e3]
      refine ⟨i + 1, by omega, by omega, Wk_same (by simp [wkL, wkV.same]; rw [wrapN (by omega)]; exact wkV.same _) ?_⟩
      simp only [hR2, hI2, List.append_nil, mkFld, hfl0, Nat.add_zero, hm3]
    · have hb : lsB q f.list = .bs q 1 f.list.length := by unfold lsB; rw [if_neg (by simpa using hem)]
      have hne2 : mkRow (c + 2) f.list.length ≠ [] := fun e => hem (List.eq_nil_of_length_eq_zero (by rw [← mkRow_len (c + 2) f.list.length, e]; rfl))
      have hb2 : lsB q (mkFld c f).list = .bs q 1 f.list.length := by unfold lsB; rw [if_neg (by simpa [mkFld] using hne2)]; simp [mkFld, mkRow_len]
      have hIc2 : ∀ d, allV (noC.noL d) (enum 1 (IA ++ (lsR (mkFld c f).list ++ IZ))) = true := fun d => hIc (mkFld c f).list d
      rw [hb2] at hR2
      rw [hb]
      simp
      refine vcall_nestR (q := q) (tr := .sl ro 1 (f.list.map fun x => .lit (.string x))) (tr' := .sl ro 1 ((mkFld c f).list.map fun x => .lit (.string x))) (pre := IA) (post := IZ) (kv := .int .i64 ((c + 2 : Nat) : Int)) (rv := .int .i64 (((c + 2 : Nat) : Int) + f.list.length)) ?_ (wf_strs _ _) (wf_strs _ _) hIAl (by rw [nB_strs, nB_strs]; exact hn1) (by rw [bsV_strs, hb]) (by rw [bxA_strs, List.append_assoc]) ?_
      · rw [bxA_strs, bxA_strs, bsV_strs, lsR_strs _ hem, lsR_strs _ (by simpa [mkFld] using hne2)]
        have := markStr_row hE f.list (c + 2) (by omega) (by omega)
        have hb0 : lsB 0 f.list = .bs 0 1 f.list.length := by unfold lsB; rw [if_neg (by simpa using hem)]
        rw [hb0]
        exact this
      rw [bxA_strs, List.append_assoc]
      have e3 : IntKind.i64.wrap ((c : Int) + 2 + f.list.length + 1) = (k : Int) + cntL (l.take (i + 1)) := by rw [wrap_i64 (by omega) (by omega)]; omega
      have hm3 := hmod (c + 2 + f.list.length)
      simp only [Int.natCast_add, Int.cast_ofNat_Int] at hm3
      simp [hlt, okC, get_mid hRA, set_mid hRA, putElem, upd]
      rw [e3]
      refine ⟨i + 1, by omega, by omega, Wk_same (by simp [wkL, wkV.same]; rw [wrapN (by omega)]; exact wkV.same _) ?_⟩
      simp only [hR2, hI2, List.append_assoc, mkFld, hm3]
  · obtain rfl : i = l.length := by omega
    simp
    have hne' : ¬ flds (mkFlds k l) = [] := fun e => by rw [e] at he'; cases he'
    rw [if_neg hne']
    exact FinN_ret (loc := []) (m := nB (.sl ro 4 (flds (mkFlds k l)))) (r' := .lit (.int .i64 ((k : Int) + cntL l))) (by simp [resVs, resV]) (by simp [reC]) (by simp [enum]) hpcB
theorem markFieldS_nil (k : Nat) (hk : k ≤ 1152921504606846976) : Fx E 29 [] [.sl ro 4 [], .lit (.int .i64 k)] [] (.lit (.int .i64 k)) := by
  refine (is29.to hE).fx [] (by simp) rfl rfl ?_
  simp [v29]
  refine X_loop (τ := Nat) (fun i => ⟨[(0, .sl ro 4 []), (1, .lit (.int .i64 k)), (5, .lit (.int .i64 0))], []⟩) (fun i => True) (fun i => 0) 0 trivial (Wk.both (by simp [wkL, wkV.same]) trivial) ?_
  intro i _
  simp
  exact Fin_ret rfl (by simp [reC])
theorem heldFieldS_fx (l : List Fld) (k : Nat) (h0 : 0 < k) (hl : l.length ≤ 2097152) (hk : k + cntL l ≤ 1152921504606846976) : Fx E 30 [] [.sl ro 4 (flds (mkFlds k l)), .lit (.int .i64 k)] [] (.lit (.int .i64 ((k : Int) + cntL l))) := by
  have hlen : (flds (mkFlds k l)).length = l.length := by simp [flds, mkFlds_len]
  refine (is30.to hE).fx [] (by simp) rfl rfl ?_
  simp [v30, hlen]
  refine X_loop (τ := Nat) (fun i => ⟨[(0, .sl ro 4 (flds (mkFlds k l))), (1, .lit (.int .i64 ((k : Int) + cntL (l.take i)))), (5, .lit (.int .i64 i))], []⟩) (fun i => i ≤ l.length) (fun i => l.length - i) 0 (by simp) (Wk.both (by simp [wkL, wkV.same, cntL]) trivial) ?_
  intro i hi
  simp [hlen]
  have hle := cntL_le l i
  by_cases hlt : i < l.length
  · have ht := cntL_take l i hlt
    have hle2 := cntL_le l (i + 1)
    have hcn : l[i].cnt = l[i].list.length + 3 := rfl
    have hget := mkFlds_get l k i hlt
    have hgf : (flds (mkFlds k l))[i]? = some (.agg (mkFld (k + cntL (l.take i)) l[i]).av) := by unfold flds; rw [List.getElem?_map, hget]; rfl
    obtain ⟨c, hc⟩ : ∃ c, k + cntL (l.take i) = c := ⟨_, rfl⟩
    have hc' : (k : Int) + cntL (l.take i) = c := by omega
    rw [hc] at hgf
    rw [hc']
    have hav : (mkFld c l[i]).av = [.lit (.string (mkT c)), .lit (.string (mkT (c + 1))), .sl ro 1 ((mkRow (c + 2) l[i].list.length).map fun x => .lit (.string x)), .lit (.bool (decide ((c + 2 + l[i].list.length) % 3 = 0)))] := rfl
    have e1 : IntKind.i64.wrap ((c : Int) + 1) = ((c + 1 : Nat) : Int) := by rw [wrap_i64 (by omega) (by omega)]; omega
    have e2 : IntKind.i64.wrap ((c : Int) + 1 + 1) = ((c + 2 : Nat) : Int) := by rw [wrap_i64 (by omega) (by omega)]; omega
    simp [hlt, ro, mkF, hgf, hav]
    refine vcall_go (markText_fx hE c (by omega) (by omega)) (by simp) (by simp) (by simp) (by simp) ?_
    simp
    rw [e1]
    simp [hlt, hgf, hav, mkF, ro]
    refine vcall_go (markText_fx hE (c + 1) (by omega) (by omega)) (by simp) (by simp) (by simp) (by simp) ?_
    simp
    rw [e2]
    simp [hlt, hgf, hav, mkF, ro]
    refine vcall_go (heldStr_fx hE l[i].list.length (c + 2) (by omega) (by omega)) (by simp [ro]) (by simp) (by simp) (by simp) ?_
    have hneg : ¬ ((c : Int) + 2 + l[i].list.length < 0) := by omega
    have hmod : (((c : Int) + 2 + l[i].list.length).tmod 3 = 0) = ((c + 2 + l[i].list.length) % 3 = 0) := by
      have : ((c : Int) + 2 + l[i].list.length).tmod 3 = (((c + 2 + l[i].list.length) % 3 : Nat) : Int) := rfl
      rw [this]; apply propext; omega
    have e3 : IntKind.i64.wrap ((c : Int) + 2 + l[i].list.length + 1) = (k : Int) + cntL (l.take (i + 1)) := by rw [wrap_i64 (by omega) (by omega)]; omega
    simp [hneg, hlt, hgf, hav, mkF, hmod]
    rw [e3]
    exact ⟨i + 1, by omega, by omega, Wk.both (by simp [wkL, wkV.same, ro]; rw [wrapN (by omega)]; exact wkV.same _) trivial⟩
  · obtain rfl : i = l.length := by omega
    simp
    exact Fin_ret rfl (by simp [reC])
end
end Go.Proofs.Yticamghmcikfcaa.Vm
