/- Bounds of what the laws let in. -/
import Derived.Test.YtpopccnnjpdmlaaMrk
import Derived.Test.YtpopccnnjpdmlaaVmOpen
namespace Go.Proofs.Ytpopccnnjpdmlaa.Vm
open Go Go.RowKit
set_option linter.unusedVariables false
set_option linter.unusedSimpArgs false
theorem szGo_bound {α : Type} {f : α → Int → Int} (hf : ∀ x l, 0 ≤ l → f x l ≤ l) : ∀ {xs : List α} {l : Int}, 0 ≤ l → 0 ≤ szGo f xs l → ∀ x ∈ xs, ∃ m, 0 ≤ m ∧ m ≤ l ∧ 0 ≤ f x m
  | [], _, _, _, x, hx => by simp at hx
  | y :: xs, l, h0, h, x, hx => by
    simp only [szGo] at h
    split at h
    · omega
    · rename_i h1
      rcases List.mem_cons.1 hx with rfl | hx
      · exact ⟨l, h0, Int.le_refl l, by omega⟩
      · obtain ⟨m, m1, m2, m3⟩ := szGo_bound hf (l := f y l) (by omega) h x hx
        have := hf y l h0
        exact ⟨m, m1, by omega, m3⟩
theorem szL_bound {α : Type} {f : α → Int → Int} (hf : ∀ x l, 0 ≤ l → f x l ≤ l) {xs : List α} {l : Int} (h : 0 ≤ szL f xs l) : (xs.length : Int) ≤ l ∧ ∀ x ∈ xs, ∃ m, 0 ≤ m ∧ m ≤ l ∧ 0 ≤ f x m := by
  unfold szL at h
  split at h
  · omega
  · refine ⟨by omega, fun x hx => ?_⟩
    obtain ⟨m, m1, m2, m3⟩ := szGo_bound hf (l := l - xs.length) (by omega) h x hx
    exact ⟨m, m1, by omega, m3⟩
theorem szIf_bound {l : Int} {k : Int → Int} (h : 0 ≤ szIf l k) : 0 ≤ l ∧ 0 ≤ k l ∧ szIf l k = k l := by
  unfold szIf at h ⊢
  split at h
  · omega
  · rename_i h1; exact ⟨by omega, h, if_neg h1⟩
theorem all2_refl {α : Type} {p : α → α → Bool} (h : ∀ x, p x x = true) : ∀ (l : List α), all2 p l l = true
  | [] => rfl
  | a :: l => by simp [all2, h, all2_refl h l]
@[simp] theorem noC_slow (d t : Nat) (fr : Bool) (sz : Nat) (xs : List AV) : noC d (.sl ⟨.ow t, fr⟩ sz xs) = true := rfl
end Go.Proofs.Ytpopccnnjpdmlaa.Vm
