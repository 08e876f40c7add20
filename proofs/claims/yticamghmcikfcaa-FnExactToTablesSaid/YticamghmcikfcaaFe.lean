/- Fields: names forgotten, counts. -/
import Derived.Test.YticamghmcikfcaaSi
namespace Go.Proofs.Yticamghmcikfcaa.Vm
open Go Go.RowKit
set_option linter.unusedVariables false
set_option linter.unusedSimpArgs false
theorem er_fld (f : Fld) : er (.agg f.av) = .agg f.av := by
  have : er.erL (f.list.map fun x => AV.lit (.string x)) = f.list.map fun x => AV.lit (.string x) := by rw [erL_map, List.map_map]; rfl
  show AV.agg [.lit (.string f.key), .lit (.string f.text), .sl ro 1 (er.erL (f.list.map fun x => .lit (.string x))), .lit (.bool f.isL)] = _
  rw [this]; rfl
theorem erL_flds (l : List Fld) : er.erL (flds l) = flds l := by
  rw [erL_map]; unfold flds; rw [List.map_map]
  exact List.map_congr_left fun x _ => er_fld x
theorem er_idS_fld (p : Nat) (f : Fld) : er (idS p (.agg f.av)) = .agg f.av := by
  rw [idS_fld, lsI_eq]
  have : er.erL (f.list.map fun x => AV.lit (.string x)) = f.list.map fun x => AV.lit (.string x) := by rw [erL_map, List.map_map]; rfl
  simp only [er, er.erL, this]
  rfl
theorem erL_fldsI (l : List Fld) : ∀ n, er.erL (fldsI n l) = flds l := by
  induction l with
  | nil => intro n; rfl
  | cons f l ih =>
    intro n
    have := ih (n + nB (.agg f.av))
    unfold fldsI flds at this ⊢
    simp only [List.map_cons, idS.idL, er.erL, er_idS_fld, this]
theorem clo_lsI (p : Nat) (l : List ByteArray) : clo (lsI p l) = true := by
  have h : clo.cloL (l.map fun x => AV.lit (.string x)) = true := by
    induction l with
    | nil => rfl
    | cons x l ih => simp [clo.cloL, clo, ih]
  unfold lsI
  split
  · rfl
  · simp [clo, isId, h]
theorem cloL_fldsI (l : List Fld) : ∀ n, clo.cloL (fldsI n l) = true := by
  induction l with
  | nil => intro n; rfl
  | cons f l ih =>
    intro n
    have := ih (n + nB (.agg f.av))
    unfold fldsI flds at this ⊢
    simp only [List.map_cons, idS.idL, clo.cloL, idS_fld, clo, clo_lsI, this, Bool.and_self]
theorem inL_flds_mk : ∀ (l : List Fld) (k : Nat), inA.inL (flds (mkFlds k l)) = inA.inL (flds l)
  | [], k => rfl
  | f :: l, k => by
    have h := inL_flds_mk l (k + f.cnt)
    have h2 : inA (.agg (mkFld k f).av) = inA (.agg f.av) := by
      rw [show inA (.agg (mkFld k f).av) = [] ++ ([] ++ (inA (.sl ro 1 ((mkFld k f).list.map fun x => .lit (.string x))) ++ ([] ++ []))) from rfl, show inA (.agg f.av) = [] ++ ([] ++ (inA (.sl ro 1 (f.list.map fun x => .lit (.string x))) ++ ([] ++ []))) from rfl, inA_strs, inA_strs]
      have hl : (mkFld k f).list.length = f.list.length := by simp [mkFld, mkRow_len]
      have he : (mkFld k f).list.isEmpty = f.list.isEmpty := by
        revert hl
        cases (mkFld k f).list <;> cases f.list <;> simp
      rw [hl, he]
    unfold flds at h ⊢
    simp only [mkFlds, List.map_cons, inA.inL, h, h2]
theorem cntL_app : ∀ (a b : List Fld), cntL (a ++ b) = cntL a + cntL b
  | [], b => by simp [cntL]
  | x :: a, b => by simp only [List.cons_append, cntL, cntL_app a b]; omega
theorem cntL_set : ∀ (l : List Fld) (i : Nat) (f : Fld), cntL (l.set i f) ≤ cntL l + f.cnt
  | [], i, f => by simp [cntL]
  | g :: l, 0, f => by simp only [List.set_cons_zero, cntL]; omega
  | g :: l, i + 1, f => by have := cntL_set l i f; simp only [List.set_cons_succ, cntL]; omega
theorem Fld.eq_any (x : Fld) : x.eq x = true := Fld.eq_refl x
theorem idS_tb (name : ByteArray) {l : List Fld} (h : l ≠ []) : idS 0 (tbT name l) = .agg [.lit (.string name), .sl ⟨.id 0, false⟩ 4 (fldsI 1 l)] := by
  have he : (flds l).isEmpty = false := by cases l <;> simp [flds] at h ⊢
  have h1 : idS 0 (.sl ro 4 (flds l)) = .sl ⟨.id 0, false⟩ 4 (fldsI 1 l) := by simp only [idS, he]; rfl
  rw [← h1]; rfl
end Go.Proofs.Yticamghmcikfcaa.Vm
