/- The laws' marks of tables, over boxes. -/
import Derived.Test.YtgegcfhifojjiaaMf
namespace Go.Proofs.Ytgegcfhifojjiaa.Vm
open Go Go.RowKit
set_option linter.unusedVariables false
set_option linter.unusedSimpArgs false
theorem noB_pc {m d : Nat} (hd : m ≤ d) : ∀ (a : AV), pc m a = true → noB d a = true := by
  intro a
  refine AV.rec (motive_1 := fun a => pc m a = true → noB d a = true) (motive_2 := fun cs => pc.pcL m cs = true → noB.noL d cs = true) ?_ ?_ ?_ ?_ ?_ ?_ ?_ ?_ ?_ ?_ ?_ ?_ ?_ a
  all_goals (intros; first | rfl | skip)
  · rename_i cs ih h; simp only [noB]; exact ih (by simpa only [pc] using h)
  · rename_i h; cases h
  · rename_i h; cases h
  · rename_i h; cases h
  · rename_i n sz l h
    simp only [pc, decide_eq_true_eq] at h
    simp only [noB, bne_iff_ne, ne_eq]
    omega
  · rename_i c cs h1 h2 h
    simp only [pc.pcL, Bool.and_eq_true] at h
    simp only [noB.noL, h1 h.1, h2 h.2, Bool.and_self]
theorem noBL_pc {m d : Nat} (hd : m ≤ d) {cs : List AV} (h : pc.pcL m cs = true) : noB.noL d cs = true := by
  induction cs with
  | nil => rfl
  | cons c cs ih =>
    simp only [pc.pcL, Bool.and_eq_true] at h
    simp only [noB.noL, noB_pc hd c h.1, ih h.2, Bool.and_self]
/-- the whole tree handed on -/
theorem vcall_nest0 {E : EnvK} {t f : Nat} {kv rv : Value} {tr tr' a : AV} {B : List (List AV)} {env : List (Nat × AV)} {loc : List (Nat × List AV)} {Q : AS → Prop} (hF : Fx E f (bxA 0 tr) [bsV 0 tr, .lit kv] (bxA 0 tr') (.lit rv)) (hw : wfT tr = true) (hw' : wfT tr' = true) (hNB : nB tr' = nB tr) (ha : bsV 0 tr = a) (hB : bxA 0 tr = B) {l : Lk Q} (h4 : Q ⟨setL t (.lit rv) env, enum 0 (bxA 0 tr') ++ loc⟩) :
    Xc E false ⟨env, enum 0 B ++ loc⟩ (some t) f [a, .lit kv] Q l := by
  subst ha hB
  have := vcall_nest (E := E) (t := t) (l := l) (loc := loc) (pre := []) (post := []) (q := 0) (env := env) (Q := Q) hF hw hw' rfl hNB (by simpa using h4)
  simpa using this
def tbT (name : ByteArray) (l : List Fld) : AV := .agg [.lit (.string name), .sl ro 4 (flds l)]
theorem bxA_tb (p : Nat) (name : ByteArray) (l : List Fld) : bxA p (tbT name l) = bxA p (.sl ro 4 (flds l)) := by
  rw [show bxA p (tbT name l) = [] ++ (bxA (p + 0) (.sl ro 4 (flds l)) ++ []) from rfl]; simp
theorem bsV_tb (p : Nat) (name : ByteArray) (l : List Fld) : bsV p (tbT name l) = .agg [.lit (.string name), bsV p (.sl ro 4 (flds l))] := rfl
theorem nB_tb (name : ByteArray) (l : List Fld) : nB (tbT name l) = nB (.sl ro 4 (flds l)) := by
  rw [show nB (tbT name l) = 0 + (nB (.sl ro 4 (flds l)) + 0) from rfl]; omega
theorem wf_tb (name : ByteArray) (l : List Fld) : wfT (tbT name l) = true := by
  have h := wf_flds ro l
  show ([AV.lit (.string name), .sl ro 4 (flds l)].all okC && (wfT (.lit (.string name)) && (wfT (.sl ro 4 (flds l)) && true))) = true
  rw [h]; rfl
theorem nB_flds_le (l : List Fld) : nB (.sl ro 4 (flds l)) ≤ 1 + l.length := by
  have h : nB.nBL (flds l) ≤ l.length := by
    induction l with
    | nil => simp [flds, nB.nBL]
    | cons f l ih => have := n1_le f.list; unfold flds at ih ⊢; simp only [List.map_cons, nB.nBL, nB_fld, List.length_cons]; omega
  simp only [nB]
  split <;> omega
theorem nB_flds_mk (l : List Fld) (k : Nat) : nB (.sl ro 4 (flds (mkFlds k l))) = nB (.sl ro 4 (flds l)) := by
  have : (flds (mkFlds k l)).isEmpty = (flds l).isEmpty := by cases l <;> rfl
  simp only [nB, this, nB_mkFlds]
section
variable {E : Env} (hE : E.P = Go.Proofs.Try.prog)
include hE
theorem markTable_nest (name : ByteArray) (l : List Fld) (hne : l ≠ []) (k : Nat) (h0 : 0 < k) (hl : l.length ≤ 2097152) (hll : ∀ f ∈ l, f.list.length ≤ 1048576) (hk : k + cntL l ≤ 1099511627776) : Fx E 13 (bxA 0 (tbT name l)) [bsV 0 (tbT name l), .lit (.int .i64 k)] (bxA 0 (tbT name (mkFlds k l))) (.lit (.int .i64 ((k : Int) + cntL l))) := by
  have hF := markFieldS_nest hE l hne k h0 hl hll hk
  have hle := nB_flds_le l
  have hm := nB_flds_mk l k
  have he : (flds l).isEmpty = false := by cases l <;> simp [flds] at hne ⊢
  have hb : bsV 0 (.sl ro 4 (flds l)) = .bs 0 4 l.length := by simp only [bsV, he]; simp [flds]
  rw [bxA_tb, bxA_tb, bsV_tb]
  refine (is13.to hE).fxn (by simp) rfl (fun r hr => resBL_pc (pc_bxA (m := nB (.sl ro 4 (flds (mkFlds k l)))) _ (wf_flds _ _) 0 (by omega) r hr)) (by rw [bxA_nB, bxA_nB, hm]) (by rw [bxA_nB]; omega) ?_
  have hpc := pc_bxA (m := nB (.sl ro 4 (flds l))) (.sl ro 4 (flds l)) (wf_flds _ _) 0 (by omega)
  have hpc2 := pc_bxA (m := nB (.sl ro 4 (flds (mkFlds k l)))) (.sl ro 4 (flds (mkFlds k l))) (wf_flds _ _) 0 (by omega)
  have hBl : (bxA 0 (.sl ro 4 (flds l))).length ≤ 1000000000000 := by rw [bxA_nB]; omega
  obtain ⟨B, hB⟩ : ∃ B, bxA 0 (.sl ro 4 (flds l)) = B := ⟨_, rfl⟩
  obtain ⟨B', hB'⟩ : ∃ B', bxA 0 (.sl ro 4 (flds (mkFlds k l))) = B' := ⟨_, rfl⟩
  rw [hB'] at hpc2 ⊢
  rw [hB] at hpc hBl ⊢
  have hset : ∀ v : List AV, setL 1000000000002 v (enum 0 B) = enum 0 B ++ [(1000000000002, v)] := fun v => setL_far (by omega)
  have hlook : ∀ v : List AV, look (enum 0 B ++ [(1000000000002, v)]) 1000000000002 = some v := fun v => by rw [look_far (by omega)]; rfl
  have hnb : allV (noB.noL 1000000000002) (enum 0 B) = true := allV_enum fun r hr => noBL_pc (by omega) (hpc r hr)
  have hnc : ∀ d, allV (noC.noL d) (enum 0 B) = true := fun d => allV_enum fun r hr => noCL_pc (hpc r hr)
  rw [hb]
  simp [v13, okC, hset, hlook, hnb]
  refine vcall_nest0 hF (wf_flds _ _) (wf_flds _ _) hm hb hB ?_
  rw [hB']
  simp
  exact FinN_ret (B := B') (m := nB (.sl ro 4 (flds (mkFlds k l)))) (r' := .lit (.int .i64 ((k : Int) + cntL l))) (by simp [resVs, resV]) (by simp [reC]) rfl hpc2
theorem heldTable_fx (name : ByteArray) (l : List Fld) (k : Nat) (h0 : 0 < k) (hl : l.length ≤ 2097152) (hk : k + cntL l ≤ 1099511627776) : Fx E 15 [] [tbT name (mkFlds k l), .lit (.int .i64 k)] [] (.lit (.int .i64 ((k : Int) + cntL l))) := by
  have hneg : ¬ ((k : Int) + cntL l < 0) := by omega
  refine (is15.to hE).fx [] (by simp) rfl rfl ?_
  simp [v15, okC, tbT]
  refine vcall_go (heldFieldS_fx hE l k h0 hl hk) (by simp) (by simp) (by simp) (by simp) ?_
  simp [hneg]
  exact Fin_ret rfl (by simp [reC])
end
end Go.Proofs.Ytgegcfhifojjiaa.Vm
