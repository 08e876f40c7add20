/- FieldOf: the law. -/
import Derived.Test.YticamghmcikfcaaFo
import Derived.Test.YticamghmcikfcaaVc
namespace Go.Proofs.Yticamghmcikfcaa.Vm
open Go Go.RowKit
set_option linter.unusedVariables false
set_option linter.unusedSimpArgs false

theorem szGo_bound {α : Type} {f : α → Int → Int} (hf : ∀ x l, 0 ≤ l → f x l ≤ l) : ∀ {xs : List α} {l : Int}, 0 ≤ l → 0 ≤ szGo f xs l → ∀ x ∈ xs, ∃ m, 0 ≤ m ∧ m ≤ l ∧ 0 ≤ f x m
  | [], _, _, _, x, hx => by simp at hx
  | y :: xs, l, h0, h, x, hx => by
    simp only [szGo] at h
    split at h
    · omega
    · rename_i h1
      rcases List.mem_cons.1 hx with rfl | hx
      · exact ⟨l, h0, Int.le_refl l, by omega⟩
      · obtain ⟨m, m1, m2, m3⟩ := szGo_bound hf (l := f y l) (by omega) h x hx
        have := hf y l h0
        exact ⟨m, m1, by omega, m3⟩
theorem szL_bound {α : Type} {f : α → Int → Int} (hf : ∀ x l, 0 ≤ l → f x l ≤ l) {xs : List α} {l : Int} (h : 0 ≤ szL f xs l) : (xs.length : Int) ≤ l ∧ ∀ x ∈ xs, ∃ m, 0 ≤ m ∧ m ≤ l ∧ 0 ≤ f x m := by
  unfold szL at h
  split at h
  · omega
  · refine ⟨by omega, fun x hx => ?_⟩
    obtain ⟨m, m1, m2, m3⟩ := szGo_bound hf (l := l - xs.length) (by omega) h x hx
    exact ⟨m, m1, by omega, m3⟩
theorem szIf_bound {l : Int} {k : Int → Int} (h : 0 ≤ szIf l k) : 0 ≤ l ∧ 0 ≤ k l ∧ szIf l k = k l := by
  unfold szIf at h ⊢
  split at h
  · omega
  · rename_i h1; exact ⟨by omega, h, if_neg h1⟩
theorem Fld.bound {x : Fld} {l : Int} (h : 0 ≤ x.sz l) : (x.key.size : Int) ≤ l ∧ x.sz l + x.list.length ≤ l := by
  unfold Fld.sz at h ⊢
  obtain ⟨h1, h, e1⟩ := szIf_bound h
  rw [e1]
  obtain ⟨h2, h, e2⟩ := szIf_bound h
  rw [e2]
  obtain ⟨h3, h, e3⟩ := szIf_bound h
  rw [e3]
  unfold szL at h3 ⊢
  split at h3
  · omega
  · rename_i h4
    rw [if_neg h4]
    have := szGo_le (f := fun (x : ByteArray) l => l - x.size) (xs := x.list) (l := l - x.key.size - x.text.size - x.list.length) (fun x _ l _ => by omega) (by omega)
    omega
theorem szGo_cnt : ∀ {xs : List Fld} {l : Int}, 0 ≤ l → 0 ≤ szGo Fld.sz xs l → szGo Fld.sz xs l + cntL xs ≤ l + 3 * xs.length
  | [], l, h0, h => by simp [szGo, cntL]
  | y :: xs, l, h0, h => by
    simp only [szGo] at h ⊢
    split at h
    · omega
    · rename_i h1
      rw [if_neg h1]
      have a := (Fld.bound (x := y) (l := l) (by omega)).2
      have b := szGo_cnt (xs := xs) (l := y.sz l) (by omega) h
      simp only [cntL, Fld.cnt, List.length_cons]
      omega
theorem Tb.bound {x : Tb} {l : Int} (h : 0 ≤ x.sz l) (hl : l ≤ 1048576) : x.name.size ≤ 1048576 ∧ x.fields.length ≤ 1048576 ∧ (∀ f ∈ x.fields, f.list.length ≤ 1048576) ∧ cntL x.fields ≤ 8388608 := by
  obtain ⟨h1, h, _⟩ := szIf_bound h
  obtain ⟨h2, h, _⟩ := szIf_bound h
  have hb := szL_bound (f := Fld.sz) Fld.sz_le h2
  refine ⟨by omega, by omega, fun f hf => ?_, ?_⟩
  · obtain ⟨m, m1, m2, m3⟩ := hb.2 f hf
    have := (Fld.bound m3).2
    omega
  · unfold szL at h2
    split at h2
    · omega
    · have := szGo_cnt (xs := x.fields) (l := l - x.name.size - x.fields.length) (by omega) h2
      omega
theorem all2_refl {α : Type} {p : α → α → Bool} (h : ∀ x, p x x = true) : ∀ (l : List α), all2 p l l = true
  | [] => rfl
  | a :: l => by simp [all2, h, all2_refl h l]
theorem Fld.eq_refl (x : Fld) : x.eq x = true := by simp [Fld.eq, all2_refl]
theorem Tb.eq_refl (x : Tb) : x.eq x = true := by simp [Tb.eq, all2_refl Fld.eq_refl]
@[simp] theorem noC_slow (d t : Nat) (fr : Bool) (sz : Nat) (xs : List AV) : noC d (.sl ⟨.ow t, fr⟩ sz xs) = true := rfl
theorem flatL_strs (l : List ByteArray) : flat.flatL (l.map fun x => AV.lit (.string x)) = true := by
  induction l with
  | nil => rfl
  | cons x l ih => simp [flat.flatL, flat, isSl, ih]
theorem flatL_flds (l : List Fld) : flat.flatL (l.map fun x => AV.agg x.av) = true := by
  induction l with
  | nil => rfl
  | cons x l ih =>
    have h1 : flat.flatL x.av = true := by simp [Fld.av, flat.flatL, flat, isSl, flatL_strs]
    simp only [List.map_cons, flat.flatL, flat, h1, ih, Bool.and_self]
theorem rowOk_strs (l : List ByteArray) : rowOk 1 (l.map fun x => AV.lit (.string x)) = true := by simp [rowOk, AV.cells, isLit]
/-- the field that a result holds -/
def resF : Option Fld → Fld
  | some f => f
  | none => ⟨by8 "", by8 "", [], false⟩
section
variable {E : Env} (hE : E.P = Go.Proofs.Try.prog)
include hE
end
end Go.Proofs.Yticamghmcikfcaa.Vm
