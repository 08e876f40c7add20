/- Names of packages: the law. -/
import Derived.Test.YtgegcfhifojjiaaDoorNm
namespace Go.Proofs.YtgegcfhifojjiaaDoor.Vm
open Go Go.RowKit
set_option linter.unusedVariables false
set_option linter.unusedSimpArgs false
theorem allI_cons (f : Nat → ByteArray → Bool) (p : ByteArray) (r : List ByteArray) : allI f (p :: r) = (f 0 p && allI (fun i => f (i + 1)) r) := by
  unfold allI
  rw [List.length_cons, List.range_succ_eq_map, List.all_cons, List.all_map]
  rfl
theorem allI_congr {f g : Nat → ByteArray → Bool} (h : ∀ i p, f i p = g i p) (l : List ByteArray) : allI f l = allI g l := by
  have : f = g := by funext i p; exact h i p
  rw [this]
theorem part_tail (sc : Bool) (i : Nat) (p : ByteArray) : specPart (i + 1) p = partOk sc (i + 1) p := by
  unfold specPart partOk cutAt
  rw [if_neg (by omega)]
  simp
  cases allB nameB p <;> cases decide (p = by8 "") <;> cases decide (p = by8 "node_modules") <;> rfl
theorem nm_not {p : ByteArray} (h : 0 < p.size) (h2 : bt p 0 = 64) : p ≠ by8 "node_modules" := by
  rintro rfl
  revert h2
  decide +kernel
theorem head_at {p : ByteArray} (h : hasP p (one 64) = true) : specPart 0 p = partOk true 0 (p.extract 1 p.size) := by
  have h' := h
  rw [hasP_one] at h'
  have hp := of_decide_eq_true h'
  unfold specPart partOk cutAt
  rw [if_pos ⟨rfl, h⟩]
  have : decide (p = by8 "node_modules") = false := decide_eq_false (nm_not hp.1 hp.2)
  rw [this]
  simp
  cases allB nameB (p.extract 1 p.size) <;> cases decide (p.extract 1 p.size = by8 "") <;> rfl
theorem head_no {p : ByteArray} (h : hasP p (one 64) = false) : specPart 0 p = partOk false 0 p := by
  unfold specPart partOk cutAt
  rw [if_neg (by rw [h]; simp)]
  simp
  cases allB nameB p <;> cases decide (p = by8 "") <;> cases decide (p = by8 "node_modules") <;> rfl
theorem name_law (s : ByteArray) : allI specPart (spl 47 s) = allI (partOk (hasP s (one 64))) (spl 47 (trimP s (one 64))) := by
  cases hs : hasP s (one 64)
  · have ht : trimP s (one 64) = s := by unfold trimP; rw [hs]; rfl
    rw [ht]
    have hs2 := hs
    rw [hasP_one] at hs2
    have hs2 := of_decide_eq_false hs2
    rcases idx_cases 47 s with ⟨_, hn⟩ | ⟨i, h1, h2, h3, _⟩
    · rw [spl_none hn, allI_cons, allI_cons, head_no hs, allI_congr (part_tail false)]
    · rw [spl_hit h1 h2 h3, allI_cons, allI_cons, head_no ?_, allI_congr (part_tail false)]
      rw [hasP_one]
      refine decide_eq_false ?_
      rintro ⟨h4, h5⟩
      rw [ext_size] at h4
      rw [bt_ext (by omega)] at h5
      exact hs2 ⟨by omega, h5⟩
  · have ht : trimP s (one 64) = s.extract 1 s.size := by unfold trimP; rw [hs]; rfl
    rw [ht]
    have hs2 := hs
    rw [hasP_one] at hs2
    obtain ⟨hs3, hs4⟩ := of_decide_eq_true hs2
    rcases idx_cases 47 s with ⟨_, hn⟩ | ⟨i, h1, h2, h3, _⟩
    · rw [spl_none hn, spl_none (fun j hj => by rw [ext_size] at hj; rw [bt_ext (by omega)]; exact hn _ (by omega)), allI_cons, allI_cons, head_at hs, allI_congr (part_tail true)]
    · have hi : 0 < i := by
        rcases Nat.eq_zero_or_pos i with rfl | h
        · rw [hs4] at h2; cases h2
        · exact h
      rw [spl_hit h1 h2 h3, spl_hit (s := s.extract 1 s.size) (i := i - 1) (by rw [ext_size]; omega) (by rw [bt_ext (by omega), show 1 + (i - 1) = i by omega]; exact h2) (fun j hj => by rw [bt_ext (by omega)]; exact h3 _ (by omega))]
      have hp : hasP (s.extract 0 i) (one 64) = true := by
        rw [hasP_one]
        refine decide_eq_true ⟨by rw [ext_size]; omega, ?_⟩
        rw [bt_ext (by omega)]; exact hs4
      rw [allI_cons, allI_cons, head_at hp, allI_congr (part_tail true), ext_ext, ext_ext, ext_ext, ext_size, ext_size]
      rw [show min (0 + (min i s.size - 0)) i = i by omega, show 1 + 0 = 0 + 1 by omega, show min (1 + (i - 1)) s.size = i by omega, show 1 + (i - 1 + 1) = i + 1 by omega, show min (1 + (min s.size s.size - 1)) s.size = s.size by omega]
section
variable {E : Env} (hE : E.P = Go.Proofs.Tryd.prog)
include hE
theorem specName_fx (s : ByteArray) (hs : s.size ≤ 1099511627) : Fx E 64 [] [.lit (.string s)] [] (.lit (.bool (nameOk s))) := by
  have := specName_fx0 hE s hs
  rwa [name_law] at this
end
end Go.Proofs.YtgegcfhifojjiaaDoor.Vm
