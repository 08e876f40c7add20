/- Bytes in percent, read back: plain laws. -/
import Derived.Test.YtgegcfhifojjiaaDoorPi
namespace Go.Proofs.YtgegcfhifojjiaaDoor.Vm
open Go Go.RowKit
set_option linter.unusedVariables false
set_option linter.unusedSimpArgs false
theorem hexU_inj : ∀ a b : _root_.Fin 16, hexU a.val = hexU b.val → a = b := by decide +kernel
theorem hexL_inj : ∀ a b : _root_.Fin 16, hexL a.val = hexL b.val → a = b := by decide +kernel
theorem hexU_safe : ∀ a : _root_.Fin 16, safeB (hexU a.val) = true := by decide +kernel
theorem u8_parts {u v : UInt8} (h1 : u.toNat / 16 = v.toNat / 16) (h2 : u.toNat % 16 = v.toNat % 16) : u = v := by
  apply UInt8.toNat_inj.1
  omega
theorem safe_not37 {u : UInt8} (h : safeB u = true) : u ≠ 37 := by
  rintro rfl
  revert h
  decide +kernel
theorem pctL_cons (u : UInt8) (l : List UInt8) : pctL (u :: l) = pctB u ++ pctL l := rfl
theorem pctL_app (a b : List UInt8) : pctL (a ++ b) = pctL a ++ pctL b := by simp [pctL]
theorem pctB_ne (u : UInt8) : pctB u ≠ [] := by unfold pctB; split <;> simp
theorem hexU_two {u v : UInt8} (h1 : hexU (u.toNat / 16) = hexU (v.toNat / 16)) (h2 : hexU (u.toNat % 16) = hexU (v.toNat % 16)) : u = v := by
  have hu := u.toNat_lt
  have hv := v.toNat_lt
  have k1 := hexU_inj ⟨u.toNat / 16, by omega⟩ ⟨v.toNat / 16, by omega⟩ h1
  have k2 := hexU_inj ⟨u.toNat % 16, by omega⟩ ⟨v.toNat % 16, by omega⟩ h2
  exact u8_parts (by simpa using k1) (by simpa using k2)
theorem hexL_two {u v : UInt8} (h1 : hexL (u.toNat / 16) = hexL (v.toNat / 16)) (h2 : hexL (u.toNat % 16) = hexL (v.toNat % 16)) : u = v := by
  have hu := u.toNat_lt
  have hv := v.toNat_lt
  have k1 := hexL_inj ⟨u.toNat / 16, by omega⟩ ⟨v.toNat / 16, by omega⟩ h1
  have k2 := hexL_inj ⟨u.toNat % 16, by omega⟩ ⟨v.toNat % 16, by omega⟩ h2
  exact u8_parts (by simpa using k1) (by simpa using k2)
theorem pctL_inj : ∀ (a b : List UInt8), pctL a = pctL b → a = b
  | [], [], _ => rfl
  | [], v :: b, h => by
    rw [pctL_cons] at h
    exact absurd (List.append_eq_nil_iff.1 h.symm).1 (pctB_ne v)
  | u :: a, [], h => by
    rw [pctL_cons] at h
    exact absurd (List.append_eq_nil_iff.1 h).1 (pctB_ne u)
  | u :: a, v :: b, h => by
    rw [pctL_cons, pctL_cons] at h
    unfold pctB at h
    split at h
    · rename_i su
      split at h
      · simp only [List.cons_append, List.nil_append, List.cons.injEq] at h
        rw [h.1, pctL_inj a b h.2]
      · simp only [List.cons_append, List.nil_append, List.cons.injEq] at h
        exact absurd h.1 (safe_not37 su)
    · split at h
      · rename_i sv
        simp only [List.cons_append, List.nil_append, List.cons.injEq] at h
        exact absurd h.1.symm (safe_not37 sv)
      · simp only [List.cons_append, List.nil_append, List.cons.injEq] at h
        rw [hexU_two h.2.1 h.2.2.1, pctL_inj a b h.2.2.2]
theorem pct_list (s : ByteArray) : (pct s).data.toList = pctL s.data.toList := rfl
theorem pct_inj {a b : ByteArray} (h : pct a = pct b) : a = b := ba_ext (pctL_inj _ _ (by rw [← pct_list, ← pct_list, h]))
/-- what stands in such a text -/
def pctC (u : UInt8) : Prop := safeB u = true ∨ u = 37
theorem pctL_all : ∀ (l : List UInt8), ∀ b ∈ pctL l, pctC b
  | [], b, h => by simp [pctL] at h
  | u :: l, b, h => by
    have hu := u.toNat_lt
    rw [pctL_cons] at h
    rcases List.mem_append.1 h with h | h
    · unfold pctB at h
      split at h
      · rename_i su
        obtain rfl := List.mem_singleton.1 h
        exact .inl su
      · simp only [List.mem_cons, List.not_mem_nil, or_false] at h
        rcases h with rfl | rfl | rfl
        · exact .inr rfl
        · exact .inl (hexU_safe ⟨u.toNat / 16, by omega⟩)
        · exact .inl (hexU_safe ⟨u.toNat % 16, by omega⟩)
    · exact pctL_all l b h
/-- the text behind it -/
noncomputable def unPct (s : ByteArray) : Option ByteArray := @dite _ (∃ t, pct t = s) (Classical.propDecidable _) (fun h => some h.choose) (fun _ => none)
theorem unPct_pct (t : ByteArray) : unPct (pct t) = some t := by
  unfold unPct
  rw [dif_pos ⟨t, rfl⟩]
  have : ∃ x, pct x = pct t := ⟨t, rfl⟩
  exact congrArg some (pct_inj this.choose_spec)
theorem unPct_none {s : ByteArray} (h : ∀ t, pct t ≠ s) : unPct s = none := by
  unfold unPct
  rw [dif_neg]
  rintro ⟨t, ht⟩
  exact h t ht
theorem unPct_some {s t : ByteArray} (h : unPct s = some t) : pct t = s := by
  by_cases hx : ∃ x, pct x = s
  · obtain ⟨x, rfl⟩ := hx
    rw [unPct_pct] at h
    rw [Option.some.inj h]
  · rw [unPct_none fun t ht => hx ⟨t, ht⟩] at h
    cases h
theorem pct_len_le (s : ByteArray) : s.size ≤ (pct s).size := by
  have : ∀ l : List UInt8, l.length ≤ (pctL l).length := by
    intro l
    induction l with
    | nil => simp
    | cons u l ih =>
      have : 1 ≤ (pctB u).length := by
        have := pctB_ne u
        cases h : pctB u with
        | nil => exact absurd h this
        | cons => simp
      rw [pctL_cons, List.length_append, List.length_cons]
      omega
  have h := this s.data.toList
  have e : (pct s).size = (pctL s.data.toList).length := List.size_toArray
  have e2 : s.data.toList.length = s.size := by simp
  omega
theorem unPct_size {s t : ByteArray} (h : unPct s = some t) : t.size ≤ s.size := by
  have := pct_len_le t
  rw [unPct_some h] at this
  exact this
noncomputable def pctRes (s : ByteArray) : AV := match unPct s with
  | some t => .tup [.lit (.string t), .lit (.bool true)]
  | none => .tup [.lit (.string (by8 "")), .lit (.bool false)]
/-- where a reader stands: what it has read, and what is to come -/
def PctAt (s : ByteArray) (i : Nat) (out : List UInt8) : Prop := ∀ t : ByteArray, pct t = s → ∃ b, t.data.toList = out ++ b ∧ s.data.toList.drop i = pctL b
theorem PctAt.zero (s : ByteArray) : PctAt s 0 [] := fun t ht => ⟨t.data.toList, rfl, by rw [← ht]; rfl⟩
theorem PctAt.plain {s : ByteArray} {i : Nat} {out : List UInt8} (h : PctAt s i out) (hi : i < s.size) (hc : bt s i ≠ 37) : PctAt s (i + 1) (out ++ [bt s i]) := fun t ht => by
  obtain ⟨b, h1, h2⟩ := h t ht
  rw [drop_bt hi] at h2
  cases b with
  | nil => simp [pctL] at h2
  | cons u b =>
    rw [pctL_cons] at h2
    unfold pctB at h2
    split at h2
    · simp only [List.cons_append, List.nil_append, List.cons.injEq] at h2
      exact ⟨b, by rw [h1, h2.1]; simp, h2.2⟩
    · simp only [List.cons_append, List.nil_append, List.cons.injEq] at h2
      exact absurd h2.1 hc
theorem PctAt.esc {s : ByteArray} {i : Nat} {out : List UInt8} (h : PctAt s i out) (hi : i < s.size) (hc : bt s i = 37) {t : ByteArray} (ht : pct t = s) : ∃ u : UInt8, i + 3 ≤ s.size ∧ bt s (i + 1) = hexU (u.toNat / 16) ∧ bt s (i + 2) = hexU (u.toNat % 16) ∧ ∃ b, t.data.toList = (out ++ [u]) ++ b ∧ s.data.toList.drop (i + 3) = pctL b := by
  obtain ⟨b, h1, h2⟩ := h t ht
  rw [drop_bt hi] at h2
  cases b with
  | nil => simp [pctL] at h2
  | cons u b =>
    rw [pctL_cons] at h2
    unfold pctB at h2
    split at h2
    · rename_i su
      simp only [List.cons_append, List.nil_append, List.cons.injEq] at h2
      exact absurd (h2.1.symm.trans hc) (safe_not37 su)
    · simp only [List.cons_append, List.nil_append, List.cons.injEq] at h2
      have h3 := h2.2
      have hl := congrArg List.length h3
      have hsz : s.data.toList.length = s.size := by simp
      simp only [List.length_drop, List.length_cons, hsz] at hl
      rw [drop_bt (by omega), drop_bt (by omega)] at h3
      simp only [List.cons.injEq] at h3
      exact ⟨u, by omega, h3.1, h3.2.1, b, by rw [h1]; simp, h3.2.2⟩
theorem PctAt.done {s out : ByteArray} (h : PctAt s s.size out.data.toList) : (pct out = s → unPct s = some out) ∧ (pct out ≠ s → unPct s = none) := by
  refine ⟨fun e => by rw [← e, unPct_pct], fun e => unPct_none fun t ht => ?_⟩
  obtain ⟨b, h1, h2⟩ := h t ht
  rw [List.drop_of_length_le (by simp)] at h2
  cases b with
  | nil =>
    refine e ?_
    rw [← ht, ba_ext (a := t) (b := out) (by simpa using h1)]
  | cons u b =>
    rw [pctL_cons] at h2
    exact absurd (List.append_eq_nil_iff.1 h2.symm).1 (pctB_ne u)
end Go.Proofs.YtgegcfhifojjiaaDoor.Vm
