/- For every text the program's SpdxId returns what the reference's SpdxId returns. No condition. -/
import Derived.Test.YtoihkkkdkpllnaaPFnExactSpdxIdx2
import Derived.Test.YtoihkkkdkpllnaaAid
namespace Go.Proofs.Ytoihkkkdkpllnaa.Pure
open Go.RowKit Go.Proofs.Ytoihkkkdkpllnaa.PFnExactSpdxId Go.Proofs.YtoihkkkdkpllnaaW.PrintWords Go.Proofs.YtoihkkkdkpllnaaW.PrintLast Go.Proofs.Ytoihkkkdkpllnaa.Aid
set_option linter.unusedSimpArgs false
set_option linter.unusedVariables false
/-! ### PutHex of both -/
theorem spec_hex (d : Nat) : ∀ (k : Nat) (l : List UInt8) (acc : List Int) (n : Nat), n + d = l.length → d < k → l.length ≤ 1073741824 → acc.length ≤ 2 * n →
    spec_PutHex.l0 k (B l) acc n = some (strOfNums (acc ++ ((l.drop n).flatMap hex2).map fun c => (c.toNat : Int))) := by
  induction d with
  | zero =>
    intro k l acc n hn hk hl ha
    obtain ⟨k, rfl⟩ : ∃ m, k = m + 1 := ⟨k - 1, by omega⟩
    simp only [spec_PutHex.l0, B_size]
    rw [if_neg (by omega), List.drop_of_length_le (by omega)]; simp
  | succ d ih =>
    intro k l acc n hn hk hl ha
    obtain ⟨k, rfl⟩ : ∃ m, k = m + 1 := ⟨k - 1, by omega⟩
    have hlt : n < l.length := by omega
    have hc := u8_lt (l[n]'hlt)
    have e1 : (Int.tdiv ((l[n]'hlt).toNat : Int) 16) % 256 = (((l[n]'hlt).toNat / 16 : Nat) : Int) := by
      rw [Int.tdiv_eq_ediv_of_nonneg (by omega)]; omega
    have e2 : Int.tmod ((l[n]'hlt).toNat : Int) 16 = (((l[n]'hlt).toNat % 16 : Nat) : Int) := by
      rw [Int.tmod_eq_emod_of_nonneg (by omega)]; omega
    simp only [spec_PutHex.l0, B_size, bt_B l n hlt, e1, e2]
    rw [if_pos (by omega), if_pos (by omega), if_pos (by omega), if_pos (by omega), if_pos (by omega), if_pos (by omega), bt_hex _ (by omega) _ rfl, bt_hex _ (by omega) _ rfl]
    simp only [Option.bind_some, List.length_cons, List.length_nil]
    rw [if_pos (by omega), wrap_succ n (by omega), ih k l _ (n + 1) (by omega) (by omega) hl (by simp; omega), drop_at l n hlt, List.flatMap_cons, List.map_append, List.append_assoc]
    rfl
theorem spec_hex_f (l : List UInt8) (k : Nat) (hl : l.length ≤ 1073741824) (hk : l.length < k) : spec_PutHex.f k (B l) = some (B (l.flatMap hex2)) := by
  unfold spec_PutHex.f
  have := spec_hex l.length k l [] 0 (by omega) hk hl (by simp)
  simp only [Int.natCast_zero] at this
  rw [this, List.nil_append, strOfNums_B, map_u8]; rfl

theorem impl_hex (d : Nat) : ∀ (k : Nat) (l : List UInt8) (acc : List Int) (n : Nat), n + d = l.length → d < k → l.length ≤ 1073741824 → acc.length ≤ 2 * n →
    impl_PutHex.l0 k (B l) acc l.length n = some (strOfNums (acc ++ ((l.drop n).flatMap hex2).map fun c => (c.toNat : Int))) := by
  induction d with
  | zero =>
    intro k l acc n hn hk hl ha
    obtain ⟨k, rfl⟩ : ∃ m, k = m + 1 := ⟨k - 1, by omega⟩
    simp only [impl_PutHex.l0]
    rw [if_neg (by omega), List.drop_of_length_le (by omega)]; simp
  | succ d ih =>
    intro k l acc n hn hk hl ha
    obtain ⟨k, rfl⟩ : ∃ m, k = m + 1 := ⟨k - 1, by omega⟩
    have hlt : n < l.length := by omega
    have hc := u8_lt (l[n]'hlt)
    have e1 : ((l[n]'hlt).toNat : Int) / 16 = (((l[n]'hlt).toNat / 16 : Nat) : Int) := by omega
    have e2 : Go.bits .and .u8 ((l[n]'hlt).toNat : Int) 15 = (((l[n]'hlt).toNat % 16 : Nat) : Int) := by
      rw [u8_and15 (x := ((l[n]'hlt).toNat : Int)) (by omega) (by omega)]; omega
    simp only [impl_PutHex.l0, B_size, bt_B l n hlt, e1, e2]
    rw [if_pos (by omega), if_pos (by omega), if_pos (by omega), if_pos (by omega), if_pos (by omega), if_pos (by omega), if_pos (by omega), bt_hex _ (by omega) _ rfl, bt_hex _ (by omega) _ rfl]
    simp only [Option.bind_some, List.length_cons, List.length_nil]
    rw [if_pos (by omega), wrap_succ n (by omega), ih k l _ (n + 1) (by omega) (by omega) hl (by simp; omega), drop_at l n hlt, List.flatMap_cons, List.map_append, List.append_assoc]
    rfl
theorem impl_hex_f (l : List UInt8) (k : Nat) (hl : l.length ≤ 1073741824) (hk : l.length < k) : impl_PutHex.f k (B l) = some (B (l.flatMap hex2)) := by
  unfold impl_PutHex.f
  have := impl_hex l.length k l [] 0 (by omega) hk hl (by simp)
  simp only [Int.natCast_zero] at this
  rw [B_size, this, List.nil_append, strOfNums_B, map_u8]; rfl

def lowS (c : UInt8) : Bool := (decide (97 ≤ c.toNat) && decide (c.toNat ≤ 122)) || (decide (48 ≤ c.toNat) && decide (c.toNat ≤ 57))
def greatS (c : UInt8) : Bool := decide (65 ≤ c.toNat) && decide (c.toNat ≤ 90)
theorem spec_letter (c : UInt8) : spec_l01Letter.f (c.toNat : Int) = some (lowS c) := by
  have hc := u8_lt c
  unfold spec_l01Letter.f spec_l01In.f lowS
  rw [wrap_nat _ (by omega)]
  by_cases h1 : 97 ≤ c.toNat
  · have h1' : (c.toNat : Int) ≥ 97 := by omega
    have h2' : (c.toNat : Int) ≥ 48 := by omega
    by_cases h2 : c.toNat ≤ 122
    · have : (c.toNat : Int) ≤ 122 := by omega
      simp [h1, h1', h2, this]
    · have : ¬ (c.toNat : Int) ≤ 122 := by omega
      have h3 : ¬ (c.toNat : Int) ≤ 57 := by omega
      have h4 : ¬ c.toNat ≤ 57 := by omega
      simp [h1', h2, this, h2', h3, h4]
  · have h1' : ¬ (c.toNat : Int) ≥ 97 := by omega
    by_cases h2 : 48 ≤ c.toNat
    · have h2' : (c.toNat : Int) ≥ 48 := by omega
      have h3 : ((c.toNat : Int) ≤ 57) ↔ c.toNat ≤ 57 := by omega
      simp [h1, h1', h2, h2', h3]
    · have h2' : ¬ (c.toNat : Int) ≥ 48 := by omega
      simp [h1, h1', h2, h2']
theorem spec_great (c : UInt8) : spec_l01Great.f (c.toNat : Int) = some (greatS c) := by
  have hc := u8_lt c
  unfold spec_l01Great.f spec_l01In.f greatS
  rw [wrap_nat _ (by omega)]
  by_cases h1 : 65 ≤ c.toNat
  · have h1' : (c.toNat : Int) ≥ 65 := by omega
    have h3 : ((c.toNat : Int) ≤ 90) ↔ c.toNat ≤ 90 := by omega
    simp [h1, h1', h3]
  · have h1' : ¬ (c.toNat : Int) ≥ 65 := by omega
    simp [h1, h1']

theorem impl_lower (c : UInt8) : impl_isLower.f (c.toNat : Int) = some (decide (97 ≤ c.toNat) && decide (c.toNat ≤ 122)) := by
  unfold impl_isLower.f
  by_cases h1 : 97 ≤ c.toNat
  · have h1' : (c.toNat : Int) ≥ 97 := by omega
    have h3 : ((c.toNat : Int) ≤ 122) ↔ c.toNat ≤ 122 := by omega
    simp [h1, h1', h3]
  · have h1' : ¬ (c.toNat : Int) ≥ 97 := by omega
    simp [h1, h1']
theorem impl_digit (c : UInt8) : impl_isDigit.f (c.toNat : Int) = some (decide (48 ≤ c.toNat) && decide (c.toNat ≤ 57)) := by
  unfold impl_isDigit.f
  by_cases h1 : 48 ≤ c.toNat
  · have h1' : (c.toNat : Int) ≥ 48 := by omega
    have h3 : ((c.toNat : Int) ≤ 57) ↔ c.toNat ≤ 57 := by omega
    simp [h1, h1', h3]
  · have h1' : ¬ (c.toNat : Int) ≥ 48 := by omega
    simp [h1, h1']
theorem impl_letter (c : UInt8) : impl_isLetter.f (c.toNat : Int) = some ((decide (97 ≤ c.toNat) && decide (c.toNat ≤ 122)) || (decide (65 ≤ c.toNat) && decide (c.toNat ≤ 90))) := by
  unfold impl_isLetter.f
  rw [impl_lower]
  simp only [Option.bind_some]
  by_cases h : (decide (97 ≤ c.toNat) && decide (c.toNat ≤ 122)) = true
  · rw [if_pos h, h]; rfl
  · rw [if_neg h]
    simp only [Bool.not_eq_true] at h
    rw [h, Bool.false_or]
    by_cases h1 : 65 ≤ c.toNat
    · have h1' : (c.toNat : Int) ≥ 65 := by omega
      have h3 : ((c.toNat : Int) ≤ 90) ↔ c.toNat ≤ 90 := by omega
      simp [h1, h1', h3]
    · have h1' : ¬ (c.toNat : Int) ≥ 65 := by omega
      simp [h1, h1']

/-! ### SpdxId of both -/
def okS (c : UInt8) : Bool := lowS c || greatS c || decide (c.toNat = 46)
def encS (c : UInt8) : List UInt8 := if okS c then [c] else 45 :: (hex2 c ++ [45])
theorem encS_len (c : UInt8) : (encS c).length ≤ 4 := by unfold encS; split <;> simp [hex2]
theorem spec_spdx (d : Nat) : ∀ (k : Nat) (l acc : List UInt8) (n : Nat), n + d = l.length → d + 2 < k → l.length ≤ 1073741824 → acc.length ≤ 8 + 4 * n →
    spec_SpdxId.l0 k (B l) (B acc) n = some (B (acc ++ (l.drop n).flatMap encS)) := by
  induction d with
  | zero =>
    intro k l acc n hn hk hl ha
    obtain ⟨k, rfl⟩ : ∃ m, k = m + 1 := ⟨k - 1, by omega⟩
    simp only [spec_SpdxId.l0, B_size]
    rw [if_neg (by omega), List.drop_of_length_le (by omega)]; simp
  | succ d ih =>
    intro k l acc n hn hk hl ha
    obtain ⟨k, rfl⟩ : ∃ m, k = m + 1 := ⟨k - 1, by omega⟩
    have hlt : n < l.length := by omega
    have nx : ∀ acc' : List UInt8, acc' = acc ++ encS (l[n]'hlt) → spec_SpdxId.l0 k (B l) (B acc') ((n + 1 : Nat) : Int) = some (B (acc ++ (l.drop n).flatMap encS)) := by
      intro acc' h
      have hlen := encS_len (l[n]'hlt)
      rw [ih k l acc' (n + 1) (by omega) (by omega) hl (by rw [h, List.length_append]; omega), drop_at l n hlt, h, List.flatMap_cons, List.append_assoc]
    have e46 : (((l[n]'hlt).toNat : Int) = 46) ↔ (l[n]'hlt).toNat = 46 := by omega
    have g1 : (n : Int) < (l.length : Int) := by omega
    have g2 : (0 : Int) ≤ n := by omega
    have g3 : (n : Int) ≤ ((n + 1 : Nat) : Int) := by omega
    have g4 : ((n + 1 : Nat) : Int) ≤ (l.length : Int) := by omega
    have g5 : acc.length + 1 ≤ 9223372036854775807 := by omega
    simp only [spec_SpdxId.l0, B_size, bt_B l n hlt, spec_letter, spec_great, wrap_succ n (show n < 9223372036854775807 by omega), B_extract, Int.toNat_natCast, take_drop_one l n hlt, mk_B, B_append, Option.bind_some, if_pos g1, if_pos g2, if_pos g3, if_pos g4, List.length_cons, List.length_nil, Nat.zero_add, if_pos g5, spec_hex_f [l[n]'hlt] k (by simp) (by simp; omega), e46]
    have g6 : (acc ++ [45]).length + ([l[n]'hlt].flatMap hex2).length ≤ 9223372036854775807 := by simp [hex2]; omega
    have g7 : (acc ++ [45] ++ [l[n]'hlt].flatMap hex2).length + 1 ≤ 9223372036854775807 := by simp [hex2]; omega
    rw [if_pos g6, if_pos g7]
    by_cases h1 : lowS (l[n]'hlt) = true
    · rw [if_pos h1]; exact nx _ (by simp [encS, okS, h1])
    · rw [if_neg h1]
      by_cases h2 : greatS (l[n]'hlt) = true
      · rw [if_pos h2]; exact nx _ (by simp [encS, okS, h2])
      · rw [if_neg h2]
        by_cases h3 : (l[n]'hlt).toNat = 46
        · rw [if_pos h3]; exact nx _ (by simp [encS, okS, h3])
        · rw [if_neg h3]; exact nx _ (by simp [encS, okS, h1, h2, h3])
theorem spec_spdx_f (l : List UInt8) (k : Nat) (hl : l.length ≤ 1073741824) (hk : l.length + 2 < k) : spec_SpdxId.f k (B l) = some (B ([83, 80, 68, 88, 82, 101, 102, 45] ++ l.flatMap encS)) := by
  unfold spec_SpdxId.f
  have := spec_spdx l.length k l [83, 80, 68, 88, 82, 101, 102, 45] 0 (by omega) hk hl (by simp)
  simp only [Int.natCast_zero] at this
  rw [mk_B, this]; rfl

theorem impl_spdx (d : Nat) : ∀ (k : Nat) (l acc : List UInt8) (n : Nat), n + d = l.length → d + 2 < k → l.length ≤ 1073741824 → acc.length ≤ 8 + 4 * n →
    impl_SpdxId.l0 k (B l) (B acc) l.length n = some (B (acc ++ (l.drop n).flatMap encS)) := by
  induction d with
  | zero =>
    intro k l acc n hn hk hl ha
    obtain ⟨k, rfl⟩ : ∃ m, k = m + 1 := ⟨k - 1, by omega⟩
    simp only [impl_SpdxId.l0, B_size]
    rw [if_neg (by omega), List.drop_of_length_le (by omega)]; simp
  | succ d ih =>
    intro k l acc n hn hk hl ha
    obtain ⟨k, rfl⟩ : ∃ m, k = m + 1 := ⟨k - 1, by omega⟩
    have hlt : n < l.length := by omega
    have nx : ∀ acc' : List UInt8, acc' = acc ++ encS (l[n]'hlt) → impl_SpdxId.l0 k (B l) (B acc') l.length ((n + 1 : Nat) : Int) = some (B (acc ++ (l.drop n).flatMap encS)) := by
      intro acc' h
      have hlen := encS_len (l[n]'hlt)
      rw [ih k l acc' (n + 1) (by omega) (by omega) hl (by rw [h, List.length_append]; omega), drop_at l n hlt, h, List.flatMap_cons, List.append_assoc]
    have e46 : (((l[n]'hlt).toNat : Int) = 46) ↔ (l[n]'hlt).toNat = 46 := by omega
    have g1 : (n : Int) < (l.length : Int) := by omega
    have g2 : (0 : Int) ≤ n := by omega
    have g3 : (n : Int) ≤ ((n + 1 : Nat) : Int) := by omega
    have g4 : ((n + 1 : Nat) : Int) ≤ (l.length : Int) := by omega
    have g5 : acc.length + 1 ≤ 9223372036854775807 := by omega
    simp only [impl_SpdxId.l0, B_size, bt_B l n hlt, impl_letter, impl_digit, wrap_succ n (show n < 9223372036854775807 by omega), B_extract, Int.toNat_natCast, take_drop_one l n hlt, mk_B, B_append, Option.bind_some, if_pos g1, if_pos g2, if_pos g3, if_pos g4, List.length_cons, List.length_nil, Nat.zero_add, if_pos g5, impl_hex_f [l[n]'hlt] k (by simp) (by simp; omega), e46]
    have g6 : 1 + ([l[n]'hlt].flatMap hex2).length ≤ 9223372036854775807 := by simp [hex2]
    have g7 : ([45] ++ [l[n]'hlt].flatMap hex2).length + 1 ≤ 9223372036854775807 := by simp [hex2]
    have g8 : acc.length + ([45] ++ [l[n]'hlt].flatMap hex2 ++ [45]).length ≤ 9223372036854775807 := by simp [hex2]; omega
    rw [if_pos g6, if_pos g7, if_pos g8]
    have key : okS (l[n]'hlt) = (((decide (97 ≤ (l[n]'hlt).toNat) && decide ((l[n]'hlt).toNat ≤ 122)) || (decide (65 ≤ (l[n]'hlt).toNat) && decide ((l[n]'hlt).toNat ≤ 90))) || (decide (48 ≤ (l[n]'hlt).toNat) && decide ((l[n]'hlt).toNat ≤ 57)) || decide ((l[n]'hlt).toNat = 46)) := by
      unfold okS lowS greatS
      generalize (decide (97 ≤ (l[n]'hlt).toNat) && decide ((l[n]'hlt).toNat ≤ 122)) = p
      generalize (decide (65 ≤ (l[n]'hlt).toNat) && decide ((l[n]'hlt).toNat ≤ 90)) = q
      generalize (decide (48 ≤ (l[n]'hlt).toNat) && decide ((l[n]'hlt).toNat ≤ 57)) = r
      cases p <;> cases q <;> cases r <;> rfl
    by_cases h1 : ((decide (97 ≤ (l[n]'hlt).toNat) && decide ((l[n]'hlt).toNat ≤ 122)) || (decide (65 ≤ (l[n]'hlt).toNat) && decide ((l[n]'hlt).toNat ≤ 90))) = true
    · rw [if_pos h1]; exact nx _ (by rw [encS, key, h1]; rfl)
    · rw [if_neg h1]
      by_cases h2 : (decide (48 ≤ (l[n]'hlt).toNat) && decide ((l[n]'hlt).toNat ≤ 57)) = true
      · rw [if_pos h2]; exact nx _ (by rw [encS, key, h2]; simp)
      · rw [if_neg h2]
        by_cases h3 : (l[n]'hlt).toNat = 46
        · rw [if_pos h3]; exact nx _ (by rw [encS, key]; simp [h3])
        · rw [if_neg h3]; exact nx _ (by rw [encS, key, Bool.eq_false_iff.2 h1, Bool.eq_false_iff.2 h2]; simp [h3])
theorem impl_spdx_f (l : List UInt8) (k : Nat) (hl : l.length ≤ 1073741824) (hk : l.length + 2 < k) : impl_SpdxId.f k (B l) = some (B ([83, 80, 68, 88, 82, 101, 102, 45] ++ l.flatMap encS)) := by
  unfold impl_SpdxId.f
  have := impl_spdx l.length k l [83, 80, 68, 88, 82, 101, 102, 45] 0 (by omega) hk hl (by simp)
  simp only [Int.natCast_zero] at this
  rw [mk_B, B_size, this]; rfl

theorem FnExactSpdxId : laws_FnExactSpdxId.Pure := by
  intro a0 _
  refine ⟨a0.size + 5, ?_⟩
  unfold laws_FnExactSpdxId.f
  split
  · rfl
  · rename_i hs
    obtain ⟨l, rfl⟩ : ∃ l, a0 = B l := ⟨_, B_of a0⟩
    rw [B_size] at hs ⊢
    rw [spec_spdx_f l _ (by omega) (by omega), impl_spdx_f l _ (by omega) (by omega)]
    simp

end Go.Proofs.Ytoihkkkdkpllnaa.Pure
