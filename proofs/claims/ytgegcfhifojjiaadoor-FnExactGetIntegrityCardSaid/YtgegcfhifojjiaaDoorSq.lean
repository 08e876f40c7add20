/- Texts cut at a byte: plain laws. -/
import Derived.Test.YtgegcfhifojjiaaDoorRd
import Derived.Lib.SplitLaws
namespace Go.Proofs.YtgegcfhifojjiaaDoor.Vm
open Go Go.RowKit
set_option linter.unusedVariables false
set_option linter.unusedSimpArgs false
def one (c : UInt8) : ByteArray := ⟨#[c]⟩
def spB (sep s : ByteArray) : List ByteArray := Lib.splitB sep 0 (Lib.countB s sep) s
def spl (c : UInt8) (s : ByteArray) : List ByteArray := spB (one c) s
theorem spB_hit {sep s : ByteArray} {i : Nat} (h1 : 1 ≤ sep.size) (h : Lib.indexB s sep = i) : spB sep s = s.extract 0 i :: spB sep (s.extract (i + sep.size) s.size) := by
  unfold spB
  rw [Lib.countB_hit s sep i h1 h, Nat.add_comm, Lib.splitB_hit _ _ _ _ i h]; rfl
theorem spB_none {sep s : ByteArray} (h : Lib.indexB s sep = -1) : spB sep s = [s] := Lib.splitB_miss _ _ _ _ h
theorem spB_len {sep s : ByteArray} (h1 : 1 ≤ sep.size) : (spB sep s).length = Lib.countB s sep + 1 := Lib.splitB_all sep h1 0 _ s rfl
theorem spB_len_le {sep s : ByteArray} (h1 : 1 ≤ sep.size) : (spB sep s).length ≤ s.size + 1 := by
  rw [spB_len h1]
  have := Lib.countB_le sep h1 s.size s (Nat.le_refl _)
  omega
theorem one_list (c : UInt8) : (one c).data.toList = [c] := rfl
theorem bt_some {s : ByteArray} {i : Nat} {c : UInt8} (h : s.data.toList[i]? = some c) : i < s.size ∧ bt s i = c := by
  have hi : i < s.size := by simpa using (List.getElem?_eq_some_iff.1 h).1
  rw [bt_get hi] at h
  exact ⟨hi, Option.some.inj h⟩
theorem occ_one {s : ByteArray} {i : Nat} {c : UInt8} : Lib.occAt s.data.toList [c] i = decide (i < s.size ∧ bt s i = c) := by
  unfold Lib.occAt
  rw [Bool.eq_iff_iff, decide_eq_true_eq]
  constructor
  · intro h
    cases hd : s.data.toList.drop i with
    | nil => rw [hd] at h; simp at h
    | cons x l =>
      rw [hd] at h
      have hx : x = c := by simp [List.isPrefixOf] at h; exact h.symm
      subst hx
      refine bt_some ?_
      have := congrArg (·[0]?) hd
      simpa using this
  · rintro ⟨h1, h2⟩
    have h3 := bt_get h1
    rw [h2] at h3
    have : s.data.toList.drop i = c :: s.data.toList.drop (i + 1) := by
      rw [List.drop_eq_getElem_cons (by simpa using h1)]
      rw [List.getElem?_eq_getElem (by simpa using h1)] at h3
      rw [Option.some.inj h3]
    rw [this]
    simp [List.isPrefixOf]
theorem idx_hit {s : ByteArray} {i : Nat} {c : UInt8} (hi : i < s.size) (hc : bt s i = c) (hn : ∀ j, j < i → bt s j ≠ c) : Lib.indexB s (one c) = i := by
  refine Lib.index_first (sub := (one c).data.toList) (by simp; omega) ?_ fun j hj => ?_
  · rw [one_list, occ_one]; simp [hi, hc]
  · rw [one_list, occ_one]; simp [hn j hj]
theorem idx_miss {s : ByteArray} {c : UInt8} (hn : ∀ j, j < s.size → bt s j ≠ c) : Lib.indexB s (one c) = -1 := by
  refine Lib.index_none (sub := (one c).data.toList) fun j hj => ?_
  rw [one_list, occ_one]; simp; exact hn j
theorem spl_hit {s : ByteArray} {i : Nat} {c : UInt8} (hi : i < s.size) (hc : bt s i = c) (hn : ∀ j, j < i → bt s j ≠ c) : spl c s = s.extract 0 i :: spl c (s.extract (i + 1) s.size) := spB_hit (Nat.le_refl _) (idx_hit hi hc hn)
theorem spl_none {s : ByteArray} {c : UInt8} (hn : ∀ j, j < s.size → bt s j ≠ c) : spl c s = [s] := spB_none (idx_miss hn)
theorem spl_len_le (c : UInt8) (s : ByteArray) : (spl c s).length ≤ s.size + 1 := spB_len_le (Nat.le_refl _)
theorem idx_cases (c : UInt8) (s : ByteArray) : (Lib.indexB s (one c) = -1 ∧ ∀ j, j < s.size → bt s j ≠ c) ∨ ∃ i, i < s.size ∧ bt s i = c ∧ (∀ j, j < i → bt s j ≠ c) ∧ Lib.indexB s (one c) = (i : Nat) := by
  rcases Lib.index_spec s.data.toList [c] with ⟨h1, h2⟩ | ⟨i, h1, h2, h3, h4⟩
  · refine .inl ⟨h1, fun j hj e => ?_⟩
    have := h2 j (by simp; omega)
    rw [occ_one] at this
    simp [hj, e] at this
  · rw [occ_one] at h3
    have h3 := of_decide_eq_true h3
    refine .inr ⟨i, h3.1, h3.2, fun j hj e => ?_, h1⟩
    have := h4 j hj
    rw [occ_one] at this
    simp at this
    exact this (by omega) e
theorem ext_size (s : ByteArray) (a b : Nat) : (s.extract a b).size = min b s.size - a := ByteArray.size_extract
theorem ext_ext (s : ByteArray) (a b c d : Nat) : (s.extract a b).extract c d = s.extract (a + c) (min (a + d) b) := by
  refine ba_ext ?_
  simp [ByteArray.data_extract]
theorem bt_ext {s : ByteArray} {a b j : Nat} (h : a + j < b) : bt (s.extract a b) j = bt s (a + j) := by
  unfold bt
  simp only [ByteArray.data_extract, List.getD]
  rw [Array.getElem?_toList, Array.getElem?_toList, Array.getElem?_extract]
  split
  · rfl
  · rename_i h2
    rw [Array.getElem?_eq_none]
    omega
theorem ext_all (s : ByteArray) : s.extract 0 s.size = s := by
  refine ba_ext ?_
  simp [ByteArray.data_extract]
theorem spB_size {sep : ByteArray} (h1 : 1 ≤ sep.size) : ∀ (n : Nat) (s : ByteArray), s.size ≤ n → ∀ p ∈ spB sep s, p.size ≤ s.size
  | 0, s, hn, p, hp => by
    rcases Lib.indexB_cases s sep with h | ⟨i, h, hi⟩
    · rw [spB_none h] at hp
      rw [List.mem_singleton.1 hp]; omega
    · omega
  | n + 1, s, hn, p, hp => by
    rcases Lib.indexB_cases s sep with h | ⟨i, h, hi⟩
    · rw [spB_none h] at hp
      rw [List.mem_singleton.1 hp]; omega
    · rw [spB_hit h1 h] at hp
      rcases List.mem_cons.1 hp with rfl | hp
      · rw [ext_size]; omega
      · have := spB_size h1 n (s.extract (i + sep.size) s.size) (by rw [ext_size]; omega) p hp
        rw [ext_size] at this
        omega
theorem spl_size {c : UInt8} {s p : ByteArray} {i : Nat} (h : (spl c s)[i]? = some p) : p.size ≤ s.size := spB_size (Nat.le_refl _) s.size s (Nat.le_refl _) p (List.mem_of_getElem? h)
end Go.Proofs.YtgegcfhifojjiaaDoor.Vm
