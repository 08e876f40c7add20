/- Decimal numerals: plain laws. -/
import Derived.Test.YtgegcfhifojjiaaDoorLb
namespace Go.Proofs.YtgegcfhifojjiaaDoor.Vm
open Go Go.RowKit
set_option linter.unusedVariables false
set_option linter.unusedSimpArgs false
theorem ba_ext {a b : ByteArray} (h : a.data.toList = b.data.toList) : a = b := by
  obtain ⟨⟨a⟩⟩ := a; obtain ⟨⟨b⟩⟩ := b; simp at h; rw [h]
def isD (b : UInt8) : Prop := 48 ≤ b.toNat ∧ b.toNat ≤ 57
def dval (a : Nat) (l : List UInt8) : Nat := l.foldl (fun a b => 10 * a + (b.toNat - 48)) a
theorem dig_nat {u : Nat} (h : u < 10) : (UInt8.ofNat (48 + u)).toNat = 48 + u := by
  rw [UInt8.toNat_ofNat']; omega
theorem dec_digits (u : Nat) : ∀ b ∈ Lib.decDigits u, isD b := by
  induction u using Nat.strongRecOn with
  | _ u ih =>
    intro b hb
    rw [Lib.decDigits] at hb
    split at hb
    · rename_i h
      obtain rfl := List.mem_singleton.1 hb
      unfold isD; rw [dig_nat h]; omega
    · rename_i h
      rcases List.mem_append.1 hb with hb | hb
      · exact ih (u / 10) (by omega) b hb
      · obtain rfl := List.mem_singleton.1 hb
        unfold isD; rw [dig_nat (Nat.mod_lt _ (by omega))]; have := Nat.mod_lt u (y := 10) (by omega); omega
theorem dec_val (u : Nat) : dval 0 (Lib.decDigits u) = u := by
  induction u using Nat.strongRecOn with
  | _ u ih =>
    rw [Lib.decDigits]
    split
    · rename_i h
      show 10 * 0 + ((UInt8.ofNat (48 + u)).toNat - 48) = u
      rw [dig_nat h]; omega
    · rename_i h
      have := ih (u / 10) (by omega)
      unfold dval at this ⊢
      rw [List.foldl_append, this]
      simp [dig_nat (Nat.mod_lt u (y := 10) (by omega))]
      omega
theorem dec_ne (u : Nat) : Lib.decDigits u ≠ [] := by
  rw [Lib.decDigits]; split <;> simp
theorem dec_len : ∀ (k u : Nat), u < 10 ^ (k + 1) → (Lib.decDigits u).length ≤ k + 1
  | 0, u, h => by rw [Lib.decDigits, dif_pos (by simpa using h)]; simp
  | k + 1, u, h => by
    rw [Lib.decDigits]
    split
    · simp
    · have := dec_len k (u / 10) (by rw [Nat.pow_succ] at h; omega)
      simp; omega
theorem dval_lt : ∀ (l : List UInt8) (a k : Nat), (∀ b ∈ l, isD b) → a < 10 ^ k → dval a l < 10 ^ (k + l.length)
  | [], a, k, _, h => by simpa [dval] using h
  | b :: l, a, k, hd, h => by
    have hb := hd b (by simp)
    have := dval_lt l (10 * a + (b.toNat - 48)) (k + 1) (fun c hc => hd c (by simp [hc])) (by rw [Nat.pow_succ]; unfold isD at hb; omega)
    simp only [dval, List.foldl_cons, List.length_cons] at this ⊢
    rw [show k + (l.length + 1) = k + 1 + l.length by omega]
    exact this
theorem parse_ok : ∀ (l : List UInt8) (a : Nat), (∀ b ∈ l, isD b) → (a + 1) * 10 ^ l.length ≤ 1844674407370955162 → Lib.parseUint10 a l = .ok (dval a l)
  | [], a, _, _ => rfl
  | b :: l, a, hd, h => by
    have hb := hd b (by simp)
    unfold isD at hb
    rw [List.length_cons, Nat.pow_succ] at h
    have h1 : 1 ≤ 10 ^ l.length := Nat.one_le_pow _ _ (by decide)
    have h2 : (a + 1) * 10 ≤ 1844674407370955162 := by
      have e : (a + 1) * 10 * 1 ≤ (a + 1) * 10 * 10 ^ l.length := Nat.mul_le_mul_left _ h1
      rw [show (a + 1) * (10 ^ l.length * 10) = (a + 1) * 10 * 10 ^ l.length by rw [Nat.mul_assoc, Nat.mul_comm 10]] at h
      omega
    rw [Lib.parseUint10, if_pos hb, if_neg (by omega), if_neg (by omega), parse_ok l _ (fun c hc => hd c (by simp [hc])) ?_]
    · simp only [dval, List.foldl_cons, Nat.mul_comm a 10]
    · refine Nat.le_trans ?_ h
      rw [show (a + 1) * (10 ^ l.length * 10) = ((a + 1) * 10) * 10 ^ l.length by rw [Nat.mul_assoc, Nat.mul_comm 10]]
      exact Nat.mul_le_mul_right _ (by omega)
theorem atoi_dec (u : Nat) (h : u ≤ 999999999) : Lib.atoiAll (Lib.decDigits u) = .ok u := by
  have hd := dec_digits u
  have hv := dec_val u
  have hn := dec_ne u
  have hl := dec_len 8 u (by omega)
  revert hd hv hn hl
  cases Lib.decDigits u with
  | nil => intro _ _ h; exact absurd rfl h
  | cons c r =>
    intro hd hv _ hl
    have hc := hd c (by simp)
    unfold isD at hc
    have hp : Lib.parseMag (c :: r) = .ok u := by
      unfold Lib.parseMag
      rw [if_neg (by simp), parse_ok _ _ hd ?_, hv]
      have : 10 ^ (c :: r).length ≤ 10 ^ 9 := Nat.pow_le_pow_right (by omega) hl
      omega
    unfold Lib.atoiAll
    simp only
    rw [if_neg (by omega), hp]
    simp only
    rw [if_neg (by omega), if_neg (by omega), if_neg (by omega)]
/-- a number's text -/
def decT (n : Nat) : ByteArray := ⟨(Lib.decDigits n).toArray⟩
theorem decT_list (n : Nat) : (decT n).data.toList = Lib.decDigits n := rfl
theorem decT_inj {n m : Nat} (h : decT n = decT m) : n = m := by
  have : Lib.decDigits n = Lib.decDigits m := by rw [← decT_list, ← decT_list, h]
  rw [← dec_val n, ← dec_val m, this]
theorem decT_size {k n : Nat} (h : n < 10 ^ (k + 1)) : (decT n).size ≤ k + 1 := by
  have := dec_len k n h
  show (Lib.decDigits n).toArray.size ≤ k + 1
  simpa using this
theorem itoa_decT (n : Nat) : (⟨(Lib.itoa n).toArray⟩ : ByteArray) = decT n := by rw [Lib.itoa_nonneg]; rfl
/-- the number of a text that is a number's, or -1 -/
noncomputable def readDec (s : ByteArray) : Int := @dite _ (∃ n, n ≤ 999999999 ∧ decT n = s) (Classical.propDecidable _) (fun h => (h.choose : Int)) fun _ => -1
theorem readDec_some {n : Nat} (h : n ≤ 999999999) : readDec (decT n) = n := by
  have hx : ∃ m, m ≤ 999999999 ∧ decT m = decT n := ⟨n, h, rfl⟩
  unfold readDec
  rw [dif_pos hx, decT_inj hx.choose_spec.2]
theorem readDec_none {s : ByteArray} (h : ∀ n, n ≤ 999999999 → decT n ≠ s) : readDec s = -1 := by
  unfold readDec
  rw [dif_neg]
  rintro ⟨n, h1, h2⟩
  exact h n h1 h2
theorem readDec_cases (s : ByteArray) : readDec s = -1 ∨ ∃ n, n ≤ 999999999 ∧ decT n = s ∧ readDec s = n := by
  by_cases h : ∃ n, n ≤ 999999999 ∧ decT n = s
  · obtain ⟨n, h1, rfl⟩ := h
    exact .inr ⟨n, h1, rfl, readDec_some h1⟩
  · exact .inl (readDec_none fun n h1 h2 => h ⟨n, h1, h2⟩)
theorem bt_get {s : ByteArray} {i : Nat} (h : i < s.size) : s.data.toList[i]? = some (bt s i) := by
  have : i < s.data.toList.length := by simpa using h
  rw [List.getElem?_eq_getElem this]
  unfold bt
  simp [List.getD, List.getElem?_eq_getElem this]
theorem dval_take {s : ByteArray} {i : Nat} (h : i < s.size) : dval 0 (s.data.toList.take (i + 1)) = 10 * dval 0 (s.data.toList.take i) + ((bt s i).toNat - 48) := by
  rw [List.take_add_one, bt_get h]
  simp [dval, List.foldl_append]
end Go.Proofs.YtgegcfhifojjiaaDoor.Vm
