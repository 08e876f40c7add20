/- For every text the program's FromSpdxId returns what the reference's FromSpdxId returns. No condition. -/
import Derived.Test.YtoihkkkdkpllnaaPFnExactFromSpdxIdx4
import Derived.Test.YtoihkkkdkpllnaaAid
namespace Go.Proofs.Ytoihkkkdkpllnaa.Pure
open Go.RowKit Go.Proofs.Ytoihkkkdkpllnaa.PFnExactFromSpdxId Go.Proofs.YtoihkkkdkpllnaaW.PrintWords Go.Proofs.YtoihkkkdkpllnaaW.PrintLast Go.Proofs.Ytoihkkkdkpllnaa.Aid
set_option linter.unusedSimpArgs false
set_option linter.unusedVariables false
/-! ### PutHex of both -/
theorem spec_hex (d : Nat) : ∀ (k : Nat) (l : List UInt8) (acc : List Int) (n : Nat), n + d = l.length → d < k → l.length ≤ 1073741824 → acc.length ≤ 2 * n →
    spec_PutHex.l0 k (B l) acc n = some (strOfNums (acc ++ ((l.drop n).flatMap hex2).map fun c => (c.toNat : Int))) := by
  induction d with
  | zero =>
    intro k l acc n hn hk hl ha
    obtain ⟨k, rfl⟩ : ∃ m, k = m + 1 := ⟨k - 1, by omega⟩
    simp only [spec_PutHex.l0, B_size]
    rw [if_neg (by omega), List.drop_of_length_le (by omega)]; simp
  | succ d ih =>
    intro k l acc n hn hk hl ha
    obtain ⟨k, rfl⟩ : ∃ m, k = m + 1 := ⟨k - 1, by omega⟩
    have hlt : n < l.length := by omega
    have hc := u8_lt (l[n]'hlt)
    have e1 : (Int.tdiv ((l[n]'hlt).toNat : Int) 16) % 256 = (((l[n]'hlt).toNat / 16 : Nat) : Int) := by
      rw [Int.tdiv_eq_ediv_of_nonneg (by omega)]; omega
    have e2 : Int.tmod ((l[n]'hlt).toNat : Int) 16 = (((l[n]'hlt).toNat % 16 : Nat) : Int) := by
      rw [Int.tmod_eq_emod_of_nonneg (by omega)]; omega
    simp only [spec_PutHex.l0, B_size, bt_B l n hlt, e1, e2]
    rw [if_pos (by omega), if_pos (by omega), if_pos (by omega), if_pos (by omega), if_pos (by omega), if_pos (by omega), bt_hex _ (by omega) _ rfl, bt_hex _ (by omega) _ rfl]
    simp only [Option.bind_some, List.length_cons, List.length_nil]
    rw [if_pos (by omega), wrap_succ n (by omega), ih k l _ (n + 1) (by omega) (by omega) hl (by simp; omega), drop_at l n hlt, List.flatMap_cons, List.map_append, List.append_assoc]
    rfl
theorem spec_hex_f (l : List UInt8) (k : Nat) (hl : l.length ≤ 1073741824) (hk : l.length < k) : spec_PutHex.f k (B l) = some (B (l.flatMap hex2)) := by
  unfold spec_PutHex.f
  have := spec_hex l.length k l [] 0 (by omega) hk hl (by simp)
  simp only [Int.natCast_zero] at this
  rw [this, List.nil_append, strOfNums_B, map_u8]; rfl

theorem impl_hex (d : Nat) : ∀ (k : Nat) (l : List UInt8) (acc : List Int) (n : Nat), n + d = l.length → d < k → l.length ≤ 1073741824 → acc.length ≤ 2 * n →
    impl_PutHex.l0 k (B l) acc l.length n = some (strOfNums (acc ++ ((l.drop n).flatMap hex2).map fun c => (c.toNat : Int))) := by
  induction d with
  | zero =>
    intro k l acc n hn hk hl ha
    obtain ⟨k, rfl⟩ : ∃ m, k = m + 1 := ⟨k - 1, by omega⟩
    simp only [impl_PutHex.l0]
    rw [if_neg (by omega), List.drop_of_length_le (by omega)]; simp
  | succ d ih =>
    intro k l acc n hn hk hl ha
    obtain ⟨k, rfl⟩ : ∃ m, k = m + 1 := ⟨k - 1, by omega⟩
    have hlt : n < l.length := by omega
    have hc := u8_lt (l[n]'hlt)
    have e1 : ((l[n]'hlt).toNat : Int) / 16 = (((l[n]'hlt).toNat / 16 : Nat) : Int) := by omega
    have e2 : Go.bits .and .u8 ((l[n]'hlt).toNat : Int) 15 = (((l[n]'hlt).toNat % 16 : Nat) : Int) := by
      rw [u8_and15 (x := ((l[n]'hlt).toNat : Int)) (by omega) (by omega)]; omega
    simp only [impl_PutHex.l0, B_size, bt_B l n hlt, e1, e2]
    rw [if_pos (by omega), if_pos (by omega), if_pos (by omega), if_pos (by omega), if_pos (by omega), if_pos (by omega), if_pos (by omega), bt_hex _ (by omega) _ rfl, bt_hex _ (by omega) _ rfl]
    simp only [Option.bind_some, List.length_cons, List.length_nil]
    rw [if_pos (by omega), wrap_succ n (by omega), ih k l _ (n + 1) (by omega) (by omega) hl (by simp; omega), drop_at l n hlt, List.flatMap_cons, List.map_append, List.append_assoc]
    rfl
theorem impl_hex_f (l : List UInt8) (k : Nat) (hl : l.length ≤ 1073741824) (hk : l.length < k) : impl_PutHex.f k (B l) = some (B (l.flatMap hex2)) := by
  unfold impl_PutHex.f
  have := impl_hex l.length k l [] 0 (by omega) hk hl (by simp)
  simp only [Int.natCast_zero] at this
  rw [B_size, this, List.nil_append, strOfNums_B, map_u8]; rfl

def lowS (c : UInt8) : Bool := (decide (97 ≤ c.toNat) && decide (c.toNat ≤ 122)) || (decide (48 ≤ c.toNat) && decide (c.toNat ≤ 57))
def greatS (c : UInt8) : Bool := decide (65 ≤ c.toNat) && decide (c.toNat ≤ 90)
theorem spec_letter (c : UInt8) : spec_l01Letter.f (c.toNat : Int) = some (lowS c) := by
  have hc := u8_lt c
  unfold spec_l01Letter.f spec_l01In.f lowS
  rw [wrap_nat _ (by omega)]
  by_cases h1 : 97 ≤ c.toNat
  · have h1' : (c.toNat : Int) ≥ 97 := by omega
    have h2' : (c.toNat : Int) ≥ 48 := by omega
    by_cases h2 : c.toNat ≤ 122
    · have : (c.toNat : Int) ≤ 122 := by omega
      simp [h1, h1', h2, this]
    · have : ¬ (c.toNat : Int) ≤ 122 := by omega
      have h3 : ¬ (c.toNat : Int) ≤ 57 := by omega
      have h4 : ¬ c.toNat ≤ 57 := by omega
      simp [h1', h2, this, h2', h3, h4]
  · have h1' : ¬ (c.toNat : Int) ≥ 97 := by omega
    by_cases h2 : 48 ≤ c.toNat
    · have h2' : (c.toNat : Int) ≥ 48 := by omega
      have h3 : ((c.toNat : Int) ≤ 57) ↔ c.toNat ≤ 57 := by omega
      simp [h1, h1', h2, h2', h3]
    · have h2' : ¬ (c.toNat : Int) ≥ 48 := by omega
      simp [h1, h1', h2, h2']
theorem spec_great (c : UInt8) : spec_l01Great.f (c.toNat : Int) = some (greatS c) := by
  have hc := u8_lt c
  unfold spec_l01Great.f spec_l01In.f greatS
  rw [wrap_nat _ (by omega)]
  by_cases h1 : 65 ≤ c.toNat
  · have h1' : (c.toNat : Int) ≥ 65 := by omega
    have h3 : ((c.toNat : Int) ≤ 90) ↔ c.toNat ≤ 90 := by omega
    simp [h1, h1', h3]
  · have h1' : ¬ (c.toNat : Int) ≥ 65 := by omega
    simp [h1, h1']

theorem impl_lower (c : UInt8) : impl_isLower.f (c.toNat : Int) = some (decide (97 ≤ c.toNat) && decide (c.toNat ≤ 122)) := by
  unfold impl_isLower.f
  by_cases h1 : 97 ≤ c.toNat
  · have h1' : (c.toNat : Int) ≥ 97 := by omega
    have h3 : ((c.toNat : Int) ≤ 122) ↔ c.toNat ≤ 122 := by omega
    simp [h1, h1', h3]
  · have h1' : ¬ (c.toNat : Int) ≥ 97 := by omega
    simp [h1, h1']
theorem impl_digit (c : UInt8) : impl_isDigit.f (c.toNat : Int) = some (decide (48 ≤ c.toNat) && decide (c.toNat ≤ 57)) := by
  unfold impl_isDigit.f
  by_cases h1 : 48 ≤ c.toNat
  · have h1' : (c.toNat : Int) ≥ 48 := by omega
    have h3 : ((c.toNat : Int) ≤ 57) ↔ c.toNat ≤ 57 := by omega
    simp [h1, h1', h3]
  · have h1' : ¬ (c.toNat : Int) ≥ 48 := by omega
    simp [h1, h1']
theorem impl_letter (c : UInt8) : impl_isLetter.f (c.toNat : Int) = some ((decide (97 ≤ c.toNat) && decide (c.toNat ≤ 122)) || (decide (65 ≤ c.toNat) && decide (c.toNat ≤ 90))) := by
  unfold impl_isLetter.f
  rw [impl_lower]
  simp only [Option.bind_some]
  by_cases h : (decide (97 ≤ c.toNat) && decide (c.toNat ≤ 122)) = true
  · rw [if_pos h, h]; rfl
  · rw [if_neg h]
    simp only [Bool.not_eq_true] at h
    rw [h, Bool.false_or]
    by_cases h1 : 65 ≤ c.toNat
    · have h1' : (c.toNat : Int) ≥ 65 := by omega
      have h3 : ((c.toNat : Int) ≤ 90) ↔ c.toNat ≤ 90 := by omega
      simp [h1, h1', h3]
    · have h1' : ¬ (c.toNat : Int) ≥ 65 := by omega
      simp [h1, h1']

/-! ### SpdxId of both -/
def okS (c : UInt8) : Bool := lowS c || greatS c || decide (c.toNat = 46)
def encS (c : UInt8) : List UInt8 := if okS c then [c] else 45 :: (hex2 c ++ [45])
theorem encS_len (c : UInt8) : (encS c).length ≤ 4 := by unfold encS; split <;> simp [hex2]
theorem spec_spdx (d : Nat) : ∀ (k : Nat) (l acc : List UInt8) (n : Nat), n + d = l.length → d + 2 < k → l.length ≤ 1073741824 → acc.length ≤ 8 + 4 * n →
    spec_SpdxId.l0 k (B l) (B acc) n = some (B (acc ++ (l.drop n).flatMap encS)) := by
  induction d with
  | zero =>
    intro k l acc n hn hk hl ha
    obtain ⟨k, rfl⟩ : ∃ m, k = m + 1 := ⟨k - 1, by omega⟩
    simp only [spec_SpdxId.l0, B_size]
    rw [if_neg (by omega), List.drop_of_length_le (by omega)]; simp
  | succ d ih =>
    intro k l acc n hn hk hl ha
    obtain ⟨k, rfl⟩ : ∃ m, k = m + 1 := ⟨k - 1, by omega⟩
    have hlt : n < l.length := by omega
    have nx : ∀ acc' : List UInt8, acc' = acc ++ encS (l[n]'hlt) → spec_SpdxId.l0 k (B l) (B acc') ((n + 1 : Nat) : Int) = some (B (acc ++ (l.drop n).flatMap encS)) := by
      intro acc' h
      have hlen := encS_len (l[n]'hlt)
      rw [ih k l acc' (n + 1) (by omega) (by omega) hl (by rw [h, List.length_append]; omega), drop_at l n hlt, h, List.flatMap_cons, List.append_assoc]
    have e46 : (((l[n]'hlt).toNat : Int) = 46) ↔ (l[n]'hlt).toNat = 46 := by omega
    have g1 : (n : Int) < (l.length : Int) := by omega
    have g2 : (0 : Int) ≤ n := by omega
    have g3 : (n : Int) ≤ ((n + 1 : Nat) : Int) := by omega
    have g4 : ((n + 1 : Nat) : Int) ≤ (l.length : Int) := by omega
    have g5 : acc.length + 1 ≤ 9223372036854775807 := by omega
    simp only [spec_SpdxId.l0, B_size, bt_B l n hlt, spec_letter, spec_great, wrap_succ n (show n < 9223372036854775807 by omega), B_extract, Int.toNat_natCast, take_drop_one l n hlt, mk_B, B_append, Option.bind_some, if_pos g1, if_pos g2, if_pos g3, if_pos g4, List.length_cons, List.length_nil, Nat.zero_add, if_pos g5, spec_hex_f [l[n]'hlt] k (by simp) (by simp; omega), e46]
    have g6 : (acc ++ [45]).length + ([l[n]'hlt].flatMap hex2).length ≤ 9223372036854775807 := by simp [hex2]; omega
    have g7 : (acc ++ [45] ++ [l[n]'hlt].flatMap hex2).length + 1 ≤ 9223372036854775807 := by simp [hex2]; omega
    rw [if_pos g6, if_pos g7]
    by_cases h1 : lowS (l[n]'hlt) = true
    · rw [if_pos h1]; exact nx _ (by simp [encS, okS, h1])
    · rw [if_neg h1]
      by_cases h2 : greatS (l[n]'hlt) = true
      · rw [if_pos h2]; exact nx _ (by simp [encS, okS, h2])
      · rw [if_neg h2]
        by_cases h3 : (l[n]'hlt).toNat = 46
        · rw [if_pos h3]; exact nx _ (by simp [encS, okS, h3])
        · rw [if_neg h3]; exact nx _ (by simp [encS, okS, h1, h2, h3])
theorem spec_spdx_f (l : List UInt8) (k : Nat) (hl : l.length ≤ 1073741824) (hk : l.length + 2 < k) : spec_SpdxId.f k (B l) = some (B ([83, 80, 68, 88, 82, 101, 102, 45] ++ l.flatMap encS)) := by
  unfold spec_SpdxId.f
  have := spec_spdx l.length k l [83, 80, 68, 88, 82, 101, 102, 45] 0 (by omega) hk hl (by simp)
  simp only [Int.natCast_zero] at this
  rw [mk_B, this]; rfl

theorem impl_spdx (d : Nat) : ∀ (k : Nat) (l acc : List UInt8) (n : Nat), n + d = l.length → d + 2 < k → l.length ≤ 1073741824 → acc.length ≤ 8 + 4 * n →
    impl_SpdxId.l0 k (B l) (B acc) l.length n = some (B (acc ++ (l.drop n).flatMap encS)) := by
  induction d with
  | zero =>
    intro k l acc n hn hk hl ha
    obtain ⟨k, rfl⟩ : ∃ m, k = m + 1 := ⟨k - 1, by omega⟩
    simp only [impl_SpdxId.l0, B_size]
    rw [if_neg (by omega), List.drop_of_length_le (by omega)]; simp
  | succ d ih =>
    intro k l acc n hn hk hl ha
    obtain ⟨k, rfl⟩ : ∃ m, k = m + 1 := ⟨k - 1, by omega⟩
    have hlt : n < l.length := by omega
    have nx : ∀ acc' : List UInt8, acc' = acc ++ encS (l[n]'hlt) → impl_SpdxId.l0 k (B l) (B acc') l.length ((n + 1 : Nat) : Int) = some (B (acc ++ (l.drop n).flatMap encS)) := by
      intro acc' h
      have hlen := encS_len (l[n]'hlt)
      rw [ih k l acc' (n + 1) (by omega) (by omega) hl (by rw [h, List.length_append]; omega), drop_at l n hlt, h, List.flatMap_cons, List.append_assoc]
    have e46 : (((l[n]'hlt).toNat : Int) = 46) ↔ (l[n]'hlt).toNat = 46 := by omega
    have g1 : (n : Int) < (l.length : Int) := by omega
    have g2 : (0 : Int) ≤ n := by omega
    have g3 : (n : Int) ≤ ((n + 1 : Nat) : Int) := by omega
    have g4 : ((n + 1 : Nat) : Int) ≤ (l.length : Int) := by omega
    have g5 : acc.length + 1 ≤ 9223372036854775807 := by omega
    simp only [impl_SpdxId.l0, B_size, bt_B l n hlt, impl_letter, impl_digit, wrap_succ n (show n < 9223372036854775807 by omega), B_extract, Int.toNat_natCast, take_drop_one l n hlt, mk_B, B_append, Option.bind_some, if_pos g1, if_pos g2, if_pos g3, if_pos g4, List.length_cons, List.length_nil, Nat.zero_add, if_pos g5, impl_hex_f [l[n]'hlt] k (by simp) (by simp; omega), e46]
    have g6 : 1 + ([l[n]'hlt].flatMap hex2).length ≤ 9223372036854775807 := by simp [hex2]
    have g7 : ([45] ++ [l[n]'hlt].flatMap hex2).length + 1 ≤ 9223372036854775807 := by simp [hex2]
    have g8 : acc.length + ([45] ++ [l[n]'hlt].flatMap hex2 ++ [45]).length ≤ 9223372036854775807 := by simp [hex2]; omega
    rw [if_pos g6, if_pos g7, if_pos g8]
    have key : okS (l[n]'hlt) = (((decide (97 ≤ (l[n]'hlt).toNat) && decide ((l[n]'hlt).toNat ≤ 122)) || (decide (65 ≤ (l[n]'hlt).toNat) && decide ((l[n]'hlt).toNat ≤ 90))) || (decide (48 ≤ (l[n]'hlt).toNat) && decide ((l[n]'hlt).toNat ≤ 57)) || decide ((l[n]'hlt).toNat = 46)) := by
      unfold okS lowS greatS
      generalize (decide (97 ≤ (l[n]'hlt).toNat) && decide ((l[n]'hlt).toNat ≤ 122)) = p
      generalize (decide (65 ≤ (l[n]'hlt).toNat) && decide ((l[n]'hlt).toNat ≤ 90)) = q
      generalize (decide (48 ≤ (l[n]'hlt).toNat) && decide ((l[n]'hlt).toNat ≤ 57)) = r
      cases p <;> cases q <;> cases r <;> rfl
    by_cases h1 : ((decide (97 ≤ (l[n]'hlt).toNat) && decide ((l[n]'hlt).toNat ≤ 122)) || (decide (65 ≤ (l[n]'hlt).toNat) && decide ((l[n]'hlt).toNat ≤ 90))) = true
    · rw [if_pos h1]; exact nx _ (by rw [encS, key, h1]; rfl)
    · rw [if_neg h1]
      by_cases h2 : (decide (48 ≤ (l[n]'hlt).toNat) && decide ((l[n]'hlt).toNat ≤ 57)) = true
      · rw [if_pos h2]; exact nx _ (by rw [encS, key, h2]; simp)
      · rw [if_neg h2]
        by_cases h3 : (l[n]'hlt).toNat = 46
        · rw [if_pos h3]; exact nx _ (by rw [encS, key]; simp [h3])
        · rw [if_neg h3]; exact nx _ (by rw [encS, key, Bool.eq_false_iff.2 h1, Bool.eq_false_iff.2 h2]; simp [h3])
theorem impl_spdx_f (l : List UInt8) (k : Nat) (hl : l.length ≤ 1073741824) (hk : l.length + 2 < k) : impl_SpdxId.f k (B l) = some (B ([83, 80, 68, 88, 82, 101, 102, 45] ++ l.flatMap encS)) := by
  unfold impl_SpdxId.f
  have := impl_spdx l.length k l [83, 80, 68, 88, 82, 101, 102, 45] 0 (by omega) hk hl (by simp)
  simp only [Int.natCast_zero] at this
  rw [mk_B, B_size, this]; rfl

/-! ### GetHex at two bytes, of both -/
def hexL : List UInt8 := [48, 49, 50, 51, 52, 53, 54, 55, 56, 57, 97, 98, 99, 100, 101, 102]
def hexv (c : UInt8) : Int := Lib.indexByte hexL c
theorem hexv_range (c : UInt8) : -1 ≤ hexv c ∧ hexv c < 16 := by
  constructor
  · exact Lib.indexByte_ge _ _
  · have : ∀ (l : List UInt8), Lib.indexByte l c < l.length ∨ Lib.indexByte l c = -1 := by
      intro l
      induction l with
      | nil => right; rfl
      | cons b l ih =>
        simp only [Lib.indexByte, List.length_cons]
        split
        · left; omega
        · split
          · right; rfl
          · rename_i h1 h2
            rcases ih with ih | ih
            · left; omega
            · exact absurd (beq_iff_eq.2 ih) h2
    rcases this hexL with h | h
    · exact h
    · unfold hexv; omega
theorem hexv_hexd (n : Nat) (h : n < 16) : hexv (hexd n) = n := by
  have : ∀ m : Fin 16, hexv (hexd m.1) = ((m.1 : Nat) : Int) := by decide
  exact this ⟨n, h⟩
def get2 (a b : UInt8) : ByteArray × Bool := if hexv a < 0 ∨ hexv b < 0 then (⟨#[]⟩, false) else (B [UInt8.ofNat (16 * hexv a + hexv b).toNat], true)
theorem get2_hex2 (c : UInt8) : get2 (hexd (c.toNat / 16)) (hexd (c.toNat % 16)) = (B [c], true) := by
  have hc := u8_lt c
  unfold get2
  rw [hexv_hexd _ (by omega), hexv_hexd _ (by omega), if_neg (by omega), show ((16 * ((c.toNat / 16 : Nat) : Int) + ((c.toNat % 16 : Nat) : Int)).toNat) = c.toNat from by omega]
  simp
theorem get2_size (a b : UInt8) : (get2 a b).1.size ≤ 1 := by
  unfold get2
  split
  · exact Nat.zero_le _
  · exact Nat.le_refl _
theorem l01At_l (c : UInt8) (d : Nat) : ∀ (k : Nat) (l : List UInt8) (n : Nat), n + d = l.length → d < k → l.length ≤ 1073741824 →
    spec_l01At.l0 k (B l) (c.toNat : Int) n = some (if Lib.indexByte (l.drop n) c = -1 then -1 else n + Lib.indexByte (l.drop n) c) := by
  induction d with
  | zero =>
    intro k l n hn hk hl
    obtain ⟨k, rfl⟩ : ∃ m, k = m + 1 := ⟨k - 1, by omega⟩
    simp only [spec_l01At.l0, B_size]
    rw [if_neg (by omega), List.drop_of_length_le (by omega)]; rfl
  | succ d ih =>
    intro k l n hn hk hl
    obtain ⟨k, rfl⟩ : ∃ m, k = m + 1 := ⟨k - 1, by omega⟩
    have hlt : n < l.length := by omega
    simp only [spec_l01At.l0, B_size, bt_B l n hlt]
    rw [if_pos (by omega), if_pos (by omega), wrap_succ n (by omega), ih k l (n + 1) (by omega) (by omega) hl, drop_at l n hlt]
    generalize l.drop (n + 1) = r
    have hge := Lib.indexByte_ge r c
    by_cases h : l[n]'hlt = c
    · rw [if_pos (by rw [h])]
      simp [Lib.indexByte, h]
    · rw [if_neg (fun hq => h (UInt8.toNat_inj.1 (by omega)))]
      have hb : (l[n]'hlt == c) = false := beq_eq_false_iff_ne.2 h
      by_cases h1 : Lib.indexByte r c = -1
      · simp [Lib.indexByte, hb, h1]
      · have h2 : ¬ (Lib.indexByte r c + 1 = -1) := by omega
        have h3 : (Lib.indexByte r c == -1) = false := beq_eq_false_iff_ne.2 h1
        rw [if_neg h1]
        simp only [Lib.indexByte, hb, h3, Bool.false_eq_true, if_false, if_neg h2]
        congr 1; omega
theorem l01At_f (c : UInt8) (l : List UInt8) (k : Nat) (hk : l.length < k) (hl : l.length ≤ 1073741824) : spec_l01At.f k (B l) (c.toNat : Int) = some (Lib.indexByte l c) := by
  unfold spec_l01At.f
  have := l01At_l c l.length k l 0 (by omega) hk hl
  simp only [Int.natCast_zero, List.drop_zero, Int.zero_add] at this
  rw [this]; congr 1
  split <;> omega
theorem byte_of (x : Int) (h0 : 0 ≤ x) (h1 : x < 256) : strOfNums ([] ++ [x]) = B [UInt8.ofNat x.toNat] := by simp [strOfNums_B]
theorem spec_get2 (a b : UInt8) (k : Nat) (hk : 20 < k) : spec_GetHex.f k (B [a, b]) = some (get2 a b) := by
  obtain ⟨k, rfl⟩ : ∃ m, k = m + 2 := ⟨k - 2, by omega⟩
  have ra := hexv_range a
  have rb := hexv_range b
  have ha := l01At_f a hexL (k + 1) (by simp [hexL]; omega) (by simp [hexL])
  have hb := l01At_f b hexL (k + 1) (by simp [hexL]; omega) (by simp [hexL])
  rw [show B hexL = (⟨#[48, 49, 50, 51, 52, 53, 54, 55, 56, 57, 97, 98, 99, 100, 101, 102]⟩ : ByteArray) from rfl] at ha hb
  change _ = some (hexv a) at ha
  change _ = some (hexv b) at hb
  have b0 : bt (B [a, b]) 0 = (a.toNat : Int) := bt_B [a, b] 0 (by simp)
  have b1 : bt (B [a, b]) 1 = (b.toNat : Int) := bt_B [a, b] 1 (by simp)
  unfold spec_GetHex.f spec_l01Pairs.f
  rw [spec_l01Pairs.l0]
  simp only [B_size, List.length_cons, List.length_nil, wrap_01, b0, b1]
  rw [if_pos (by omega), if_pos (by omega), if_pos (by omega), ha]
  simp only [Option.bind_some]
  rw [if_pos (by omega), hb]
  simp only [Option.bind_some]
  by_cases h1 : hexv a < 0
  · rw [if_pos h1]; unfold get2; rw [if_pos (.inl h1)]; rfl
  · rw [if_neg h1]
    by_cases h2 : hexv b < 0
    · rw [if_pos h2]; unfold get2; rw [if_pos (.inr h2)]; rfl
    · rw [if_neg h2, if_pos (by omega), wrap_02, spec_l01Pairs.l0]
      simp only [B_size, List.length_cons, List.length_nil, wrap_23]
      rw [if_neg (by omega)]
      have e : (wrap64 ((wrap64 (16 * hexv a)) + hexv b)) % 256 = 16 * hexv a + hexv b := by
        rw [wrap_id (16 * hexv a) (by omega) (by omega), wrap_id _ (by omega) (by omega)]; omega
      rw [e, byte_of _ (by omega) (by omega)]
      unfold get2; rw [if_neg (by omega)]; rfl

theorem impl_get2 (a b : UInt8) (k : Nat) (hk : 20 < k) : impl_GetHex.f k (B [a, b]) = some (get2 a b) := by
  obtain ⟨k, rfl⟩ : ∃ m, k = m + 2 := ⟨k - 2, by omega⟩
  have ra := hexv_range a
  have rb := hexv_range b
  have hi : ∀ c : UInt8, strings_IndexByte.f (⟨#[48, 49, 50, 51, 52, 53, 54, 55, 56, 57, 97, 98, 99, 100, 101, 102]⟩ : ByteArray) (c.toNat : Int) = some (hexv c) := by
    intro c; unfold strings_IndexByte.f hexv
    rw [Int.toNat_natCast]; simp [hexL]
  have b0 : bt (B [a, b]) 0 = (a.toNat : Int) := bt_B [a, b] 0 (by simp)
  have b1 : bt (B [a, b]) 1 = (b.toNat : Int) := bt_B [a, b] 1 (by simp)
  unfold impl_GetHex.f
  rw [impl_GetHex.l0]
  simp only [B_size, List.length_cons, List.length_nil, wrap_01, b0, b1, hi]
  rw [if_pos (by omega), if_pos (by omega), if_pos (by omega)]
  simp only [Option.bind_some]
  rw [if_pos (by omega)]
  by_cases h1 : hexv a < 0
  · rw [if_pos h1]; unfold get2; rw [if_pos (.inl h1)]
  · rw [if_neg h1]
    by_cases h2 : hexv b < 0
    · rw [if_pos h2]; unfold get2; rw [if_pos (.inr h2)]
    · rw [if_neg h2, if_pos (by omega), wrap_02, impl_GetHex.l0]
      simp only [B_size, List.length_cons, List.length_nil, wrap_23]
      rw [if_neg (by omega), if_neg (by omega)]
      have e : (wrap64 ((wrap64 (16 * hexv a)) + hexv b)) % 256 = 16 * hexv a + hexv b := by
        rw [wrap_id (16 * hexv a) (by omega) (by omega), wrap_id _ (by omega) (by omega)]; omega
      rw [e, byte_of _ (by omega) (by omega)]
      unfold get2; rw [if_neg (by omega)]

/-! ### FromSpdxId of both -/
def preS : List UInt8 := [83, 80, 68, 88, 82, 101, 102, 45]
theorem encS_inj : ∀ (x y : List UInt8), x.flatMap encS = y.flatMap encS → x = y := by
  intro x
  have ne45 : ∀ c : UInt8, okS c = true → c ≠ 45 := by rintro c h rfl; revert h; decide
  have hx : ∀ c d : UInt8, hex2 c = hex2 d → c = d := by
    intro c d h
    have h1 : hexd (c.toNat / 16) = hexd (d.toNat / 16) ∧ hexd (c.toNat % 16) = hexd (d.toNat % 16) := by
      unfold hex2 at h; injection h with h1 h2; injection h2 with h2 _; exact ⟨h1, h2⟩
    have hc := u8_lt c
    have hd := u8_lt d
    have e1 := congrArg hexv h1.1
    have e2 := congrArg hexv h1.2
    rw [hexv_hexd _ (by omega), hexv_hexd _ (by omega)] at e1 e2
    exact UInt8.toNat_inj.1 (by omega)
  induction x with
  | nil =>
    intro y h
    cases y with
    | nil => rfl
    | cons d y => simp only [List.flatMap_nil, List.flatMap_cons] at h; unfold encS at h; split at h <;> simp at h
  | cons c x ih =>
    intro y h
    cases y with
    | nil => simp only [List.flatMap_nil, List.flatMap_cons] at h; unfold encS at h; split at h <;> simp at h
    | cons d y =>
      simp only [List.flatMap_cons] at h
      by_cases hc : okS c = true
      · by_cases hd : okS d = true
        · rw [encS, if_pos hc, encS, if_pos hd] at h
          injection h with h1 h2
          rw [h1, ih y h2]
        · rw [encS, if_pos hc, encS, if_neg hd] at h
          injection h with h1 h2
          exact absurd h1 (ne45 c hc)
      · by_cases hd : okS d = true
        · rw [encS, if_neg hc, encS, if_pos hd] at h
          injection h with h1 h2
          exact absurd h1.symm (ne45 d hd)
        · rw [encS, if_neg hc, encS, if_neg hd] at h
          injection h with _ h2
          unfold hex2 at h2
          injection h2 with a1 h3
          injection h3 with a2 h4
          injection h4 with _ h5
          rw [hx c d (by unfold hex2; rw [a1, a2]), ih y h5]
open Classical in
/-- What both return. -/
noncomputable def fromS (l : List UInt8) : ByteArray := if h : ∃ x, preS ++ List.flatMap encS x = l then B (Classical.choose h) else ⟨#[]⟩
theorem fromS_of {l : List UInt8} {x : List UInt8} (h : preS ++ List.flatMap encS x = l) : fromS l = B x := by
  have hh : ∃ x, preS ++ List.flatMap encS x = l := ⟨x, h⟩
  unfold fromS
  rw [dif_pos hh]
  have h2 := Classical.choose_spec hh
  exact congrArg B (encS_inj _ _ (List.append_cancel_left (h2.trans h.symm)))
/-- An answer that is right: empty, or its own id is the text; and never empty where the text is an id. -/
theorem fromS_eq {l : List UInt8} {r : ByteArray} (h1 : r = ⟨#[]⟩ ∨ ∃ x, r = B x ∧ preS ++ List.flatMap encS x = l) (h2 : ∀ x, preS ++ List.flatMap encS x = l → r = B x) : r = fromS l := by
  by_cases h : ∃ x, preS ++ List.flatMap encS x = l
  · obtain ⟨x, hx⟩ := h
    rw [h2 x hx, fromS_of hx]
  · rcases h1 with h1 | ⟨x, _, hx⟩
    · unfold fromS; rw [dif_neg h]; exact h1
    · exact absurd ⟨x, hx⟩ h
theorem encS_head (c : UInt8) : (okS c = true ∧ encS c = [c] ∧ c.toNat ≠ 45) ∨ encS c = [45, hexd (c.toNat / 16), hexd (c.toNat % 16), 45] := by
  by_cases h : okS c = true
  · refine .inl ⟨h, by rw [encS, if_pos h], fun h2 => ?_⟩
    have : c = 45 := UInt8.toNat_inj.1 (by simpa using h2)
    subst this; revert h; decide
  · exact .inr (by rw [encS, if_neg h]; rfl)
/-- The last step of both: an id's own text, or nothing. -/
theorem last_step (l acc : List UInt8) (t : ByteArray) (ht : t = B (preS ++ List.flatMap encS acc)) :
    ∃ r, (if t.toList = (B l).toList then some (B acc) else some (⟨#[]⟩ : ByteArray)) = some r ∧ (r = ⟨#[]⟩ ∨ ∃ x, r = B x ∧ preS ++ List.flatMap encS x = l) ∧ (∀ x, x = acc → preS ++ List.flatMap encS x = l → r = B x) := by
  subst ht
  rw [B_toList, B_toList]
  by_cases h : preS ++ List.flatMap encS acc = l
  · rw [if_pos h]; exact ⟨_, rfl, .inr ⟨acc, rfl, h⟩, fun x hx _ => by rw [hx]⟩
  · rw [if_neg h]; exact ⟨_, rfl, .inl rfl, fun x hx h2 => absurd (hx ▸ h2) h⟩
/-- What an encoded text begins with, at a byte 45 and at another. -/
theorem enc_at {l : List UInt8} {n : Nat} {y : List UInt8} (hlt : n < l.length) (h : l.drop n = y.flatMap encS) :
    (l[n]'hlt ≠ 45 → ∃ y', y = l[n]'hlt :: y' ∧ l.drop (n + 1) = y'.flatMap encS) ∧
    (l[n]'hlt = 45 → ∃ c y', y = c :: y' ∧ ∃ h3 : n + 3 < l.length, l[n + 1]'(by omega) = hexd (c.toNat / 16) ∧ l[n + 2]'(by omega) = hexd (c.toNat % 16) ∧ l.drop (n + 4) = y'.flatMap encS) := by
  rw [drop_at l n hlt] at h
  cases y with
  | nil => simp at h; omega
  | cons c y' =>
    rw [List.flatMap_cons] at h
    rcases encS_head c with ⟨_, he, hne⟩ | he
    · rw [he] at h
      injection h with h1 h2
      refine ⟨fun _ => ⟨y', by rw [h1], h2⟩, fun h45 => absurd ?_ hne⟩
      rw [← h1, h45]; rfl
    · rw [he] at h
      injection h with h1 h2
      refine ⟨fun hne => absurd h1 hne, fun _ => ⟨c, y', rfl, ?_⟩⟩
      have hlen := congrArg List.length h2
      simp at hlen
      have h3 : n + 3 < l.length := by omega
      refine ⟨h3, ?_⟩
      rw [drop_at l (n + 1) (by omega), drop_at l (n + 2) (by omega), drop_at l (n + 3) (by omega)] at h2
      injection h2 with a1 h2
      injection h2 with a2 h2
      injection h2 with _ h2
      exact ⟨a1, a2, h2⟩
theorem spec_from_l (l : List UInt8) (hl : l.length ≤ 1048576) (d : Nat) : ∀ (k n : Nat) (acc : List UInt8), l.length ≤ n + d → n ≤ l.length → d + l.length + 100 < k → acc.length ≤ n →
    ∃ r, spec_FromSpdxId.l0 k (B l) (B acc) n = some r ∧ (r = ⟨#[]⟩ ∨ ∃ x, r = B x ∧ preS ++ List.flatMap encS x = l) ∧ (∀ x y, x = acc ++ y → preS ++ List.flatMap encS x = l → l.drop n = y.flatMap encS → r = B x) := by
  induction d with
  | zero =>
    intro k n acc hn hn2 hk ha
    obtain ⟨k, rfl⟩ : ∃ m, k = m + 1 := ⟨k - 1, by omega⟩
    simp only [spec_FromSpdxId.l0, B_size]
    rw [if_neg (by omega), spec_spdx_f acc k (by omega) (by omega)]
    obtain ⟨r, h1, h2, h3⟩ := last_step l acc _ rfl
    refine ⟨r, h1, h2, fun x y hx he hy => h3 x ?_ he⟩
    rw [List.drop_of_length_le (by omega)] at hy
    cases y with
    | nil => simpa using hx
    | cons c y => rcases encS_head c with ⟨_, h, _⟩ | h <;> simp [h] at hy
  | succ d ih =>
    intro k n acc hn hn2 hk ha
    by_cases hlt : n < l.length
    · obtain ⟨k, rfl⟩ : ∃ m, k = m + 1 := ⟨k - 1, by omega⟩
      have g1 : (n : Int) < (l.length : Int) := by omega
      have g2 : (0 : Int) ≤ n := by omega
      simp only [spec_FromSpdxId.l0, B_size, bt_B l n hlt, if_pos g1, if_pos g2]
      have w1 := wrap_add n 1 (by omega)
      have w3 := wrap_add n 3 (by omega)
      have w4 := wrap_add (n + 3) 1 (by omega)
      simp only [Int.natCast_one] at w1 w4
      rw [show ((3 : Nat) : Int) = 3 from rfl] at w3
      rw [w1, w3, w4]
      by_cases h45 : l[n]'hlt = 45
      · rw [if_pos (by rw [h45]; rfl)]
        by_cases h3 : n + 3 < l.length
        · rw [if_neg (by omega), if_pos (by omega), if_pos (by omega), if_pos (by omega), B_extract, Int.toNat_natCast, Int.toNat_natCast, show n + 3 = (n + 1) + 2 from by omega, take_drop_two l (n + 1) (by omega), spec_get2 _ _ k (by omega)]
          simp only [Option.bind_some]
          have hsz := get2_size (l[n + 1]'(by omega)) (l[n + 1 + 1]'(by omega))
          by_cases hok : (get2 (l[n + 1]'(by omega)) (l[n + 1 + 1]'(by omega))).2 = true
          · rw [if_pos hok, if_pos (by omega), B_of (get2 (l[n + 1]'(by omega)) (l[n + 1 + 1]'(by omega))).1, B_append]
            obtain ⟨r, h1, h2, h4⟩ := ih k (n + 4) (acc ++ (get2 (l[n + 1]'(by omega)) (l[n + 1 + 1]'(by omega))).1.data.toList) (by omega) (by omega) (by omega) (by rw [List.length_append, data_len]; omega)
            refine ⟨r, h1, h2, fun x y hx he hy => ?_⟩
            obtain ⟨c, y', rfl, _, e1, e2, e3⟩ := (enc_at hlt hy).2 h45
            refine h4 x y' ?_ he e3
            have e2' : l[n + 1 + 1]'(by omega) = hexd (c.toNat % 16) := e2
            rw [hx, e1, e2', get2_hex2, B_data, List.append_assoc]; rfl
          · rw [if_neg hok]
            refine ⟨_, rfl, .inl rfl, fun x y hx he hy => ?_⟩
            obtain ⟨c, y', rfl, _, e1, e2, e3⟩ := (enc_at hlt hy).2 h45
            have e2' : l[n + 1 + 1]'(by omega) = hexd (c.toNat % 16) := e2
            rw [e1, e2', get2_hex2] at hok
            exact absurd rfl hok
        · rw [if_pos (by omega)]
          refine ⟨_, rfl, .inl rfl, fun x y hx he hy => ?_⟩
          obtain ⟨c, y', rfl, h5, _⟩ := (enc_at hlt hy).2 h45
          exact absurd h5 h3
      · rw [if_neg (fun h => h45 (UInt8.toNat_inj.1 (show _ = 45 from by omega))), if_pos (by omega), if_pos (by omega), B_extract, Int.toNat_natCast, Int.toNat_natCast, take_drop_one l n hlt, B_size]
        rw [if_pos (by simp; omega), B_append]
        obtain ⟨r, h1, h2, h4⟩ := ih k (n + 1) (acc ++ [l[n]'hlt]) (by omega) (by omega) (by omega) (by simp; omega)
        refine ⟨r, h1, h2, fun x y hx he hy => ?_⟩
        obtain ⟨y', rfl, e3⟩ := (enc_at hlt hy).1 h45
        exact h4 x y' (by rw [hx]; simp) he e3
    · exact ih k n acc (by omega) hn2 (by omega) ha
theorem spec_from_f (l : List UInt8) (k : Nat) (hl : l.length ≤ 1048576) (hk : 2 * l.length + 200 < k) : spec_FromSpdxId.f k (B l) = some (fromS l) := by
  obtain ⟨k, rfl⟩ : ∃ m, k = m + 1 := ⟨k - 1, by omega⟩
  unfold spec_FromSpdxId.f
  simp only [B_size]
  have short : ¬ (preS = l.take 8) → fromS l = ⟨#[]⟩ := by
    intro h
    unfold fromS
    rw [dif_neg]
    rintro ⟨x, hx⟩
    exact h (by rw [← hx]; rfl)
  by_cases h8 : (l.length : Int) < 8
  · rw [if_pos h8, spec_FromSpdxId.j0, if_pos rfl, short]
    intro h
    have := congrArg List.length h
    simp [preS] at this; omega
  · rw [if_neg h8, if_pos (by omega), if_pos (by omega), B_extract, B_toList, List.drop_zero]
    by_cases hp : preS = l.take 8
    · rw [← hp, show (preS != [83, 80, 68, 88, 82, 101, 102, 45]) = false from by decide, spec_FromSpdxId.j0, if_neg (by decide)]
      obtain ⟨r, h1, h2, h3⟩ := spec_from_l l hl l.length k 8 [] (by omega) (by omega) (by omega) (by simp)
      have e8 : ((8 : Nat) : Int) = 8 := rfl
      rw [e8] at h1
      rw [show (⟨#[]⟩ : ByteArray) = B [] from rfl, h1, fromS_eq h2]
      intro x hx
      refine h3 x x rfl hx ?_
      rw [← hx]; rfl
    · rw [show (l.take 8 != [83, 80, 68, 88, 82, 101, 102, 45]) = true from bne_iff_ne.2 (fun h => hp h.symm), spec_FromSpdxId.j0, if_pos rfl, short hp]
theorem impl_from_l (l m : List UInt8) (hl : l.length ≤ 1048576) (d : Nat) : ∀ (k n : Nat) (acc : List UInt8), l.length ≤ n + d → n ≤ l.length → d + l.length + 100 < k → acc.length ≤ n →
    ∃ r, impl_FromSpdxId.l0 k (B m) (B l) (B acc) n = some r ∧ (r = ⟨#[]⟩ ∨ ∃ x, r = B x ∧ preS ++ List.flatMap encS x = m) ∧ (∀ x y, x = acc ++ y → preS ++ List.flatMap encS x = m → l.drop n = y.flatMap encS → r = B x) := by
  induction d with
  | zero =>
    intro k n acc hn hn2 hk ha
    obtain ⟨k, rfl⟩ : ∃ m, k = m + 1 := ⟨k - 1, by omega⟩
    simp only [impl_FromSpdxId.l0, B_size]
    rw [if_neg (by omega), impl_spdx_f acc k (by omega) (by omega)]
    obtain ⟨r, h1, h2, h3⟩ := last_step m acc _ rfl
    refine ⟨r, h1, h2, fun x y hx he hy => h3 x ?_ he⟩
    rw [List.drop_of_length_le (by omega)] at hy
    cases y with
    | nil => simpa using hx
    | cons c y => rcases encS_head c with ⟨_, h, _⟩ | h <;> simp [h] at hy
  | succ d ih =>
    intro k n acc hn hn2 hk ha
    by_cases hlt : n < l.length
    · obtain ⟨k, rfl⟩ : ∃ m, k = m + 1 := ⟨k - 1, by omega⟩
      have g1 : (n : Int) < (l.length : Int) := by omega
      have g2 : (0 : Int) ≤ n := by omega
      simp only [impl_FromSpdxId.l0, B_size, bt_B l n hlt, if_pos g1, if_pos g2]
      have w1 := wrap_add n 1 (by omega)
      have w3 := wrap_add n 3 (by omega)
      have w4 := wrap_add (n + 3) 1 (by omega)
      have w5 := wrap_add n 4 (by omega)
      simp only [Int.natCast_one] at w1 w4
      rw [show ((3 : Nat) : Int) = 3 from rfl] at w3
      rw [show ((4 : Nat) : Int) = 4 from rfl] at w5
      rw [w1, w3, w4, w5]
      by_cases h45 : l[n]'hlt = 45
      · rw [if_pos (by rw [h45]; rfl)]
        by_cases h3 : n + 3 < l.length
        · rw [if_neg (by omega), if_pos (by omega), if_pos (by omega), if_pos (by omega), B_extract, Int.toNat_natCast, Int.toNat_natCast, show n + 3 = (n + 1) + 2 from by omega, take_drop_two l (n + 1) (by omega), impl_get2 _ _ k (by omega)]
          simp only [Option.bind_some]
          have hsz := get2_size (l[n + 1]'(by omega)) (l[n + 1 + 1]'(by omega))
          rw [if_pos (by omega), B_of (get2 (l[n + 1]'(by omega)) (l[n + 1 + 1]'(by omega))).1, B_append]
          obtain ⟨r, h1, h2, h4⟩ := ih k (n + 4) (acc ++ (get2 (l[n + 1]'(by omega)) (l[n + 1 + 1]'(by omega))).1.data.toList) (by omega) (by omega) (by omega) (by rw [List.length_append, data_len]; omega)
          refine ⟨r, h1, h2, fun x y hx he hy => ?_⟩
          obtain ⟨c, y', rfl, _, e1, e2, e3⟩ := (enc_at hlt hy).2 h45
          refine h4 x y' ?_ he e3
          have e2' : l[n + 1 + 1]'(by omega) = hexd (c.toNat % 16) := e2
          rw [hx, e1, e2', get2_hex2, B_data, List.append_assoc]; rfl
        · rw [if_pos (by omega)]
          refine ⟨_, rfl, .inl rfl, fun x y hx he hy => ?_⟩
          obtain ⟨c, y', rfl, h5, _⟩ := (enc_at hlt hy).2 h45
          exact absurd h5 h3
      · rw [if_neg (fun h => h45 (UInt8.toNat_inj.1 (show _ = 45 from by omega))), if_pos (by omega), if_pos (by omega), B_extract, Int.toNat_natCast, Int.toNat_natCast, take_drop_one l n hlt, B_size]
        rw [if_pos (by simp; omega), B_append]
        obtain ⟨r, h1, h2, h4⟩ := ih k (n + 1) (acc ++ [l[n]'hlt]) (by omega) (by omega) (by omega) (by simp; omega)
        refine ⟨r, h1, h2, fun x y hx he hy => ?_⟩
        obtain ⟨y', rfl, e3⟩ := (enc_at hlt hy).1 h45
        exact h4 x y' (by rw [hx]; simp) he e3
    · exact ih k n acc (by omega) hn2 (by omega) ha
theorem impl_from_f (l : List UInt8) (k : Nat) (hl : l.length ≤ 1048576) (hk : 2 * l.length + 200 < k) : impl_FromSpdxId.f k (B l) = some (fromS l) := by
  have cut : ∃ m, strings_CutPrefix.f (B l) (⟨#[83, 80, 68, 88, 82, 101, 102, 45]⟩ : ByteArray) = some (B m, decide (preS = l.take 8)) ∧ m.length ≤ l.length ∧ (preS = l.take 8 → m = l.drop 8) := by
    unfold strings_CutPrefix.f stringslite_CutPrefix.f stringslite_HasPrefix.f
    have h8 : (⟨#[83, 80, 68, 88, 82, 101, 102, 45]⟩ : ByteArray).size = 8 := rfl
    simp only [h8, B_size]
    by_cases h : ((l.length : Int) ≥ ((8 : Nat) : Int))
    · have e8 : (((8 : Nat) : Int)).toNat = 8 := rfl
      rw [if_pos h, if_pos (by omega), if_pos (by omega), e8, B_extract, B_toList, List.drop_zero, show (⟨#[83, 80, 68, 88, 82, 101, 102, 45]⟩ : ByteArray).toList = preS from B_toList preS]
      simp only [Option.bind_some]
      by_cases hp : preS = l.take 8
      · rw [← hp, if_pos (by simp), if_pos (by omega), if_pos (by omega), B_extract, List.take_length]
        exact ⟨l.drop 8, by simp, by simp, fun _ => rfl⟩
      · rw [show (l.take 8 == preS) = false from beq_eq_false_iff_ne.2 (fun h => hp h.symm), if_neg (by decide)]
        exact ⟨l, by simp [hp], Nat.le_refl _, fun h => absurd h hp⟩
    · rw [if_neg h]
      have hp : ¬ preS = l.take 8 := by
        intro h2
        have := congrArg List.length h2
        simp [preS] at this; omega
      exact ⟨l, by simp [hp], Nat.le_refl _, fun h => absurd h hp⟩
  obtain ⟨m, hc, hml, hm⟩ := cut
  unfold impl_FromSpdxId.f
  rw [hc]
  simp only [Option.bind_some]
  obtain ⟨r, h1, h2, h3⟩ := impl_from_l m l (by omega) m.length k 0 [] (by omega) (by omega) (by omega) (by simp)
  simp only [Int.natCast_zero] at h1
  rw [show (⟨#[]⟩ : ByteArray) = B [] from rfl, h1, fromS_eq h2]
  intro x hx
  refine h3 x x rfl hx ?_
  have hp : preS = l.take 8 := by rw [← hx]; rfl
  rw [hm hp, List.drop_zero, ← hx]; rfl

theorem FnExactFromSpdxId : laws_FnExactFromSpdxId.Pure := by
  intro a _
  obtain ⟨l, rfl⟩ : ∃ l, a = B l := ⟨_, B_of a⟩
  refine ⟨2 * l.length + 1000, ?_⟩
  unfold laws_FnExactFromSpdxId.f
  simp only [B_size]
  split
  · rfl
  · rename_i hs
    rw [spec_from_f l _ (by omega) (by omega), impl_from_f l _ (by omega) (by omega)]
    simp

end Go.Proofs.Ytoihkkkdkpllnaa.Pure
