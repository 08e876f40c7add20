/- Sizes that the laws let in: plain laws; a row held against itself. -/
import Derived.Test.YticamghmcikfcaaVc
namespace Go.Proofs.Yticamghmcikfcaa.Vm
open Go Go.RowKit
set_option linter.unusedVariables false
set_option linter.unusedSimpArgs false
theorem szGo_bnd {α : Type} {f : α → Int → Int} (hf : ∀ x l, 0 ≤ l → f x l ≤ l) : ∀ {xs : List α} {l : Int}, 0 ≤ l → 0 ≤ szGo f xs l → ∀ x ∈ xs, ∃ m, 0 ≤ m ∧ m ≤ l ∧ 0 ≤ f x m
  | [], _, _, _, x, hx => by simp at hx
  | y :: xs, l, h0, h, x, hx => by
    simp only [szGo] at h
    split at h
    · omega
    · rename_i h1
      rcases List.mem_cons.1 hx with rfl | hx
      · exact ⟨l, h0, Int.le_refl l, by omega⟩
      · obtain ⟨m, m1, m2, m3⟩ := szGo_bnd hf (l := f y l) (by omega) h x hx
        have := hf y l h0
        exact ⟨m, m1, by omega, m3⟩
theorem szL_bnd {α : Type} {f : α → Int → Int} (hf : ∀ x l, 0 ≤ l → f x l ≤ l) {xs : List α} {l : Int} (h : 0 ≤ szL f xs l) : (xs.length : Int) ≤ l ∧ ∀ x ∈ xs, ∃ m, 0 ≤ m ∧ m ≤ l ∧ 0 ≤ f x m := by
  unfold szL at h
  split at h
  · omega
  · refine ⟨by omega, fun x hx => ?_⟩
    obtain ⟨m, m1, m2, m3⟩ := szGo_bnd hf (l := l - xs.length) (by omega) h x hx
    exact ⟨m, m1, by omega, m3⟩
theorem all2_same {α : Type} {p : α → α → Bool} (h : ∀ x, p x x = true) : ∀ (l : List α), all2 p l l = true
  | [] => rfl
  | a :: l => by simp [all2, h, all2_same h l]
def fidx {α : Type} (p : α → Bool) (l : List α) : Int := if l.findIdx p < l.length then (l.findIdx p : Nat) else -1
theorem fidx_found {α : Type} {p : α → Bool} {l : List α} {i : Nat} (h : i < l.length) (h1 : p l[i] = true) (h2 : ∀ (m : Nat) (g : α), m < i → l[m]? = some g → p g = false) : fidx p l = i := by
  have e : l.findIdx p = i := by
    rw [List.findIdx_eq h]
    exact ⟨h1, fun j hj => h2 j _ hj (List.getElem?_eq_getElem _)⟩
  unfold fidx
  rw [e, if_pos h]
theorem fidx_none {α : Type} {p : α → Bool} {l : List α} (h2 : ∀ (m : Nat) (g : α), l[m]? = some g → p g = false) : fidx p l = -1 := by
  have e : ¬ l.findIdx p < l.length := by
    rw [List.findIdx_lt_length]
    rintro ⟨x, hx, hp⟩
    obtain ⟨m, hm, rfl⟩ := List.getElem_of_mem hx
    rw [h2 m _ (List.getElem?_eq_getElem hm)] at hp; cases hp
  unfold fidx
  rw [if_neg e]
theorem fidx_has {α : Type} (p : α → Bool) (l : List α) : decide (0 ≤ fidx p l) = l.any p := by
  unfold fidx
  by_cases h : l.findIdx p < l.length
  · rw [if_pos h]
    have := List.findIdx_lt_length.1 h
    simp only [Int.natCast_nonneg, decide_true]
    exact (List.any_eq_true.2 (by obtain ⟨x, hx, hp⟩ := this; exact ⟨x, hx, hp⟩)).symm
  · rw [if_neg h]
    have h2 : ¬ ∃ x, x ∈ l ∧ p x = true := fun hh => h (List.findIdx_lt_length.2 (by obtain ⟨x, hx, hp⟩ := hh; exact ⟨x, hx, hp⟩))
    have : l.any p = false := by
      rw [List.any_eq_false]
      intro x hx hp
      exact h2 ⟨x, hx, hp⟩
    rw [this]; rfl
theorem eqSame_fx {E : Env} {n nt sz f : Nat} (h : Is E.P n nt (eqS sz f) [.t 4]) (hnt : 2 ≤ nt) {α : Type} {a : α → List AV} (ha : ∀ x, PlL (a x)) (hla : ∀ x, (a x).length = sz)
    (xs : List α) (hf : ∀ x, x ∈ xs → Fx E f [] [.agg (a x), .agg (a x)] [] (.lit (.bool true))) (hxs : xs.length ≤ 9223372036854775807) : Fx E n [] [.sl ro sz (xs.map fun x => .agg (a x)), .sl ro sz (xs.map fun y => .agg (a y))] [] (.lit (.bool true)) := by
  refine h.fx [] (by simpa using hnt) rfl rfl ?_
  simp [eqS]
  refine X_loop (τ := Nat) (fun i => ⟨[(0, .sl ro sz (xs.map fun x => .agg (a x))), (1, .sl ro sz (xs.map fun y => .agg (a y))), (5, .lit (.int .i64 i))], []⟩) (fun i => i ≤ xs.length) (fun i => xs.length - i) 0 (by simp) (Wk.both (by simp [wkL, wkV.same]) trivial) ?_
  rintro i hi
  simp
  by_cases hlt : i < xs.length
  · simp [hlt, hla]
    refine vcall_go (hf xs[i] (List.getElem_mem hlt)) (by simp [hla, List.take_of_length_le, ha]) (by simp) (by simp) (by simp) ?_
    simp
    exact ⟨i + 1, by omega, by omega, Wk.both (by simp [wkL, wkV.same]; rw [wrap_i64 (by omega) (by omega)]; exact wkV.same _) trivial⟩
  · simp [hlt]
    exact Fin_ret rfl rfl
end Go.Proofs.Yticamghmcikfcaa.Vm
