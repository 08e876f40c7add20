/- Tables: names forgotten. -/
import Derived.Test.YticamghmcikfcaaTt
import Derived.Test.YticamghmcikfcaaTi
namespace Go.Proofs.Yticamghmcikfcaa.Vm
open Go Go.RowKit
set_option linter.unusedVariables false
set_option linter.unusedSimpArgs false
theorem idS_tbe (p : Nat) (x : Tb) : idS p (.agg x.av) = .agg [.lit (.string x.name), if x.fields = [] then .sl ro 4 [] else .sl ⟨.id p, false⟩ 4 (fldsI (p + 1) x.fields)] := by
  have h1 : idS p (.sl ro 4 (flds x.fields)) = if x.fields = [] then .sl ro 4 [] else .sl ⟨.id p, false⟩ 4 (fldsI (p + 1) x.fields) := by
    simp only [idS]
    cases hf : x.fields with
    | nil => rfl
    | cons a l => rfl
  rw [← h1]; rfl
theorem er_idS_tb (p : Nat) (x : Tb) : er (idS p (.agg x.av)) = .agg x.av := by
  rw [idS_tbe]
  show AV.agg [.lit (.string x.name), er (if x.fields = [] then .sl ro 4 [] else .sl ⟨.id p, false⟩ 4 (fldsI (p + 1) x.fields))] = tbT x.name x.fields
  have : er (if x.fields = [] then AV.sl ro 4 [] else .sl ⟨.id p, false⟩ 4 (fldsI (p + 1) x.fields)) = .sl ro 4 (flds x.fields) := by
    split
    · rename_i h; rw [h]; rfl
    · simp only [er, erL_fldsI]
  rw [this]; rfl
theorem erL_tbsI (l : List Tb) : ∀ n, er.erL (idS.idL n (tbs l)) = tbs l := by
  induction l with
  | nil => intro n; rfl
  | cons f l ih =>
    intro n
    have := ih (n + nB (.agg f.av))
    unfold tbs at this ⊢
    simp only [List.map_cons, idS.idL, er.erL, er_idS_tb, this]
theorem erL_tbs (l : List Tb) : er.erL (tbs l) = tbs l := by
  induction l with
  | nil => rfl
  | cons f l ih =>
    have h1 : er (.agg f.av) = .agg f.av := by
      show AV.agg [.lit (.string f.name), .sl ro 4 (er.erL (flds f.fields))] = _
      rw [erL_flds]; rfl
    unfold tbs at ih ⊢
    simp only [List.map_cons, er.erL, h1, ih]
theorem clo_idS_tb (p : Nat) (x : Tb) : clo (idS p (.agg x.av)) = true := by
  rw [idS_tbe]
  split
  · rfl
  · simp [clo, clo.cloL, isId, cloL_fldsI]
theorem cloL_tbsI (l : List Tb) : ∀ n, clo.cloL (idS.idL n (tbs l)) = true := by
  induction l with
  | nil => intro n; rfl
  | cons f l ih =>
    intro n
    have := ih (n + nB (.agg f.av))
    unfold tbs at this ⊢
    simp only [List.map_cons, idS.idL, clo.cloL, clo_idS_tb, this, Bool.and_self]
theorem inL_tbs_mk : ∀ (l : List Tb) (k : Nat), inA.inL (tbs (mkTbs k l)) = inA.inL (tbs l)
  | [], k => rfl
  | f :: l, k => by
    have h := inL_tbs_mk l (k + f.cnt)
    have h2 : inA (.agg (mkTb k f).av) = inA (.agg f.av) := by
      show inA (.lit (.string (mkT k))) ++ (inA (.sl ro 4 (flds (mkFlds (k + 1) f.fields))) ++ []) = inA (.lit (.string f.name)) ++ (inA (.sl ro 4 (flds f.fields)) ++ [])
      have he : (flds (mkFlds (k + 1) f.fields)).isEmpty = (flds f.fields).isEmpty := by cases f.fields <;> rfl
      have hl : (flds (mkFlds (k + 1) f.fields)).length = (flds f.fields).length := by simp [flds, mkFlds_len]
      simp only [inA, he, hl, inL_flds_mk]
    unfold tbs at h ⊢
    simp only [mkTbs, List.map_cons, inA.inL, h, h2]
theorem noIL_tbs (q : Nat → Prop) (l : List Tb) : noI.noIL q (tbs l) := noIL_iff.2 fun a ha => by
  obtain ⟨x, _, rfl⟩ := List.mem_map.1 ha
  exact ⟨trivial, noI_ro _ _ _ (noIL_flds _ _), trivial⟩
theorem Tb.all2_self : ∀ (l : List Tb), all2 Tb.eq l l = true
  | [] => rfl
  | x :: l => by simp [all2, Tb.eq_refl, Tb.all2_self l]
theorem bsV_tbs {l : List Tb} (h : l ≠ []) (k : Nat) : bsV 0 (.sl ro 2 (tbs (mkTbs k l))) = bsV 0 (.sl ro 2 (tbs l)) := by
  have he : (tbs l).isEmpty = false := by cases l <;> simp [tbs] at h ⊢
  have he' : (tbs (mkTbs k l)).isEmpty = false := by cases l <;> simp [tbs, mkTbs] at h ⊢
  simp only [bsV, he, he']
  simp [tbs, mkTbs_len]
theorem inA_tbs (l : List Tb) (k : Nat) : inA (.sl ro 2 (tbs (mkTbs k l))) = inA (.sl ro 2 (tbs l)) := by
  have he : (tbs (mkTbs k l)).isEmpty = (tbs l).isEmpty := by cases l <;> rfl
  have hl : (tbs (mkTbs k l)).length = (tbs l).length := by simp [tbs, mkTbs_len]
  simp only [inA, he, hl, inL_tbs_mk]
theorem fldsP_bd (g : Gr) (a b : ByteArray) (p : Pk) (h : p.needs.length ≤ 1048576) : (fldsP g a b p).length ≤ 5 ∧ cntL (fldsP g a b p) ≤ 2000000 ∧ ∀ f ∈ fldsP g a b p, f.list.length ≤ 1048576 := by
  have key : ∀ (l : List Fld), (l.length ≤ 1 ∧ ∀ f ∈ l, f.list.length ≤ 1048576) → cntL l ≤ 1048579 ∧ ((∀ f ∈ l, f.list = []) → cntL l ≤ 3) := by
    rintro l ⟨h1, h2⟩
    match l with
    | [] => exact ⟨by simp [cntL], fun _ => by simp [cntL]⟩
    | [f] =>
      have := h2 f List.mem_cons_self
      refine ⟨by simp only [cntL, Fld.cnt]; omega, fun h3 => ?_⟩
      have h4 := h3 f List.mem_cons_self
      simp only [cntL, Fld.cnt, h4]; simp
    | f :: f' :: l => simp at h1
  have hS : (fldS p).length ≤ 1 ∧ ∀ f ∈ fldS p, f.list = [] := by
    unfold fldS
    split
    · simp
    · exact ⟨Nat.le_refl _, fun f hf => by rw [List.mem_singleton.1 hf]; rfl⟩
  have hC : (fldC p).length ≤ 1 ∧ ∀ f ∈ fldC p, f.list = [] := by
    unfold fldC
    split
    · simp
    · exact ⟨Nat.le_refl _, fun f hf => by rw [List.mem_singleton.1 hf]; rfl⟩
  have hD : (fldD g p).length ≤ 1 ∧ ∀ f ∈ fldD g p, f.list.length ≤ 1048576 := by
    unfold fldD
    split
    · simp
    · exact ⟨Nat.le_refl _, fun f hf => by rw [List.mem_singleton.1 hf]; simp only [depF, List.length_map]; exact h⟩
  have kS := (key _ ⟨hS.1, fun f hf => by rw [hS.2 f hf]; simp⟩).2 hS.2
  have kC := (key _ ⟨hC.1, fun f hf => by rw [hC.2 f hf]; simp⟩).2 hC.2
  have kD := (key _ hD).1
  have k0 : cntL (fld0 a b) = 6 := rfl
  unfold fldsP
  simp only [List.length_append, cntL_app]
  refine ⟨?_, by omega, fun f hf => ?_⟩
  · have : (fld0 a b).length = 2 := rfl
    omega
  · simp only [List.mem_append] at hf
    rcases hf with ((hf | hf) | hf) | hf
    · simp only [fld0, List.mem_cons, List.not_mem_nil, or_false] at hf
      rcases hf with rfl | rfl <;> simp [txtF]
    · rw [hS.2 f hf]; simp
    · rw [hC.2 f hf]; simp
    · exact hD.2 f hf
theorem tbsG_bd (g : Gr) (h : g.small) (n : Nat) : ∀ x ∈ tbsG g n, x.fields ≠ [] ∧ x.fields.length ≤ 100 ∧ cntL x.fields ≤ 2000000 ∧ ∀ f ∈ x.fields, f.list.length ≤ 1048576 := by
  have main : ∀ (a b : ByteArray) (p : Pk), p.needs.length ≤ 1048576 → (tbP g a b p).fields ≠ [] ∧ (tbP g a b p).fields.length ≤ 100 ∧ cntL (tbP g a b p).fields ≤ 2000000 ∧ ∀ f ∈ (tbP g a b p).fields, f.list.length ≤ 1048576 := by
    intro a b p hp
    obtain ⟨h1, h2, h3⟩ := fldsP_bd g a b p hp
    exact ⟨by simp [tbP, fldsP, fld0], by show (fldsP g a b p).length ≤ 100; omega, h2, h3⟩
  obtain ⟨⟨s1, s2⟩, s3, s4⟩ := h
  intro x hx
  unfold tbsG at hx
  simp only [List.mem_cons, List.mem_map] at hx
  rcases hx with rfl | rfl | ⟨p, hp, rfl⟩
  · refine ⟨by simp [tb0], by simp [tb0], by show 3 ≤ _; omega, fun f hf => ?_⟩
    simp only [tb0, List.mem_singleton] at hf
    rw [hf]; simp [txtF]
  · exact main _ _ _ s1
  · have := (s4 p (List.mem_of_mem_take hp)).2.2.2.2.2.1
    exact main _ _ _ this
theorem cntB_bd : ∀ (l : List Tb), (∀ x ∈ l, cntL x.fields ≤ 2000000) → cntB l ≤ 2000001 * l.length
  | [], _ => by simp [cntB]
  | x :: l, h => by
    have ih := cntB_bd l fun y hy => h y (List.mem_cons_of_mem _ hy)
    have := h x List.mem_cons_self
    simp only [cntB, Tb.cnt, List.length_cons]; omega
end Go.Proofs.Yticamghmcikfcaa.Vm
