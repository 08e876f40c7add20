/- The laws' marks of tables, over boxes. -/
import Derived.Test.YticamghmcikfcaaMf
namespace Go.Proofs.Yticamghmcikfcaa.Vm
open Go Go.RowKit
set_option linter.unusedVariables false
set_option linter.unusedSimpArgs false
theorem noB_pc {m d : Nat} (hd : m ≤ d) : ∀ (a : AV), pc m a = true → noB d a = true := by
  intro a
  refine AV.rec (motive_1 := fun a => pc m a = true → noB d a = true) (motive_2 := fun cs => pc.pcL m cs = true → noB.noL d cs = true) ?_ ?_ ?_ ?_ ?_ ?_ ?_ ?_ ?_ ?_ ?_ ?_ ?_ a
  all_goals (intros; first | rfl | skip)
  · rename_i cs ih h; simp only [noB]; exact ih (by simpa only [pc] using h)
  · rename_i h; cases h
  · rename_i h; cases h
  · rename_i h; cases h
  · rename_i n sz l h
    simp only [pc, decide_eq_true_eq] at h
    simp only [noB, bne_iff_ne, ne_eq]
    omega
  · rename_i c cs h1 h2 h
    simp only [pc.pcL, Bool.and_eq_true] at h
    simp only [noB.noL, h1 h.1, h2 h.2, Bool.and_self]
theorem noBL_pc {m d : Nat} (hd : m ≤ d) {cs : List AV} (h : pc.pcL m cs = true) : noB.noL d cs = true := by
  induction cs with
  | nil => rfl
  | cons c cs ih =>
    simp only [pc.pcL, Bool.and_eq_true] at h
    simp only [noB.noL, noB_pc hd c h.1, ih h.2, Bool.and_self]
/-- the whole tree handed on -/
theorem vcall_nest0 {E : EnvK} {t f : Nat} {kv rv : Value} {tr tr' a : AV} {B : List (List AV)} {env : List (Nat × AV)} {loc : List (Nat × List AV)} {Q : AS → Prop} (hF : Fx E f (bxA 0 tr) [bsV 0 tr, .lit kv] (bxA 0 tr') (.lit rv)) (hw : wfT tr = true) (hw' : wfT tr' = true) (hNB : nB tr' = nB tr) (ha : bsV 0 tr = a) (hB : bxA 0 tr = B) {l : Lk Q} (h4 : Q ⟨setL t (.lit rv) env, enum 0 (bxA 0 tr') ++ loc⟩) :
    Xc E false ⟨env, enum 0 B ++ loc⟩ (some t) f [a, .lit kv] Q l := by
  subst ha hB
  have := vcall_nest (E := E) (t := t) (l := l) (loc := loc) (pre := []) (post := []) (q := 0) (env := env) (Q := Q) hF hw hw' rfl hNB (by simpa using h4)
  simpa using this
def tbT (name : ByteArray) (l : List Fld) : AV := .agg [.lit (.string name), .sl ro 4 (flds l)]
theorem bxA_tb (p : Nat) (name : ByteArray) (l : List Fld) : bxA p (tbT name l) = bxA p (.sl ro 4 (flds l)) := by
  rw [show bxA p (tbT name l) = [] ++ (bxA (p + 0) (.sl ro 4 (flds l)) ++ []) from rfl]; simp
theorem bsV_tb (p : Nat) (name : ByteArray) (l : List Fld) : bsV p (tbT name l) = .agg [.lit (.string name), bsV p (.sl ro 4 (flds l))] := rfl
theorem nB_tb (name : ByteArray) (l : List Fld) : nB (tbT name l) = nB (.sl ro 4 (flds l)) := by
  rw [show nB (tbT name l) = 0 + (nB (.sl ro 4 (flds l)) + 0) from rfl]; omega
theorem wf_tb (name : ByteArray) (l : List Fld) : wfT (tbT name l) = true := by
  have h := wf_flds ro l
  show ([AV.lit (.string name), .sl ro 4 (flds l)].all okC && (wfT (.lit (.string name)) && (wfT (.sl ro 4 (flds l)) && true))) = true
  rw [h]; rfl
theorem nB_flds_le (l : List Fld) : nB (.sl ro 4 (flds l)) ≤ 1 + l.length := by
  have h : nB.nBL (flds l) ≤ l.length := by
    induction l with
    | nil => simp [flds, nB.nBL]
    | cons f l ih => have := n1_le f.list; unfold flds at ih ⊢; simp only [List.map_cons, nB.nBL, nB_fld, List.length_cons]; omega
  simp only [nB]
  split <;> omega
theorem nB_flds_mk (l : List Fld) (k : Nat) : nB (.sl ro 4 (flds (mkFlds k l))) = nB (.sl ro 4 (flds l)) := by
  have : (flds (mkFlds k l)).isEmpty = (flds l).isEmpty := by cases l <;> rfl
  simp only [nB, this, nB_mkFlds]
section
variable {E : Env} (hE : E.P = Go.Proofs.Try.prog)
include hE
end
end Go.Proofs.Yticamghmcikfcaa.Vm
