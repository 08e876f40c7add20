/- For every need the program's NeedText returns what the reference's NeedText returns. No condition. -/
import Derived.Test.YtoihkkkdkpllnaaPFnExactNeedTextx2
import Derived.Test.YtoihkkkdkpllnaaAid
namespace Go.Proofs.Ytoihkkkdkpllnaa.Pure
open Go.RowKit Go.Proofs.Ytoihkkkdkpllnaa.PFnExactNeedText Go.Proofs.YtoihkkkdkpllnaaW.PrintWords Go.Proofs.YtoihkkkdkpllnaaW.PrintLast Go.Proofs.Ytoihkkkdkpllnaa.Aid
set_option linter.unusedSimpArgs false
set_option linter.unusedVariables false
/-! ### PutHex of both -/
theorem spec_hex (d : Nat) : ∀ (k : Nat) (l : List UInt8) (acc : List Int) (n : Nat), n + d = l.length → d < k → l.length ≤ 1073741824 → acc.length ≤ 2 * n →
    spec_PutHex.l0 k (B l) acc n = some (strOfNums (acc ++ ((l.drop n).flatMap hex2).map fun c => (c.toNat : Int))) := by
  induction d with
  | zero =>
    intro k l acc n hn hk hl ha
    obtain ⟨k, rfl⟩ : ∃ m, k = m + 1 := ⟨k - 1, by omega⟩
    simp only [spec_PutHex.l0, B_size]
    rw [if_neg (by omega), List.drop_of_length_le (by omega)]; simp
  | succ d ih =>
    intro k l acc n hn hk hl ha
    obtain ⟨k, rfl⟩ : ∃ m, k = m + 1 := ⟨k - 1, by omega⟩
    have hlt : n < l.length := by omega
    have hc := u8_lt (l[n]'hlt)
    have e1 : (Int.tdiv ((l[n]'hlt).toNat : Int) 16) % 256 = (((l[n]'hlt).toNat / 16 : Nat) : Int) := by
      rw [Int.tdiv_eq_ediv_of_nonneg (by omega)]; omega
    have e2 : Int.tmod ((l[n]'hlt).toNat : Int) 16 = (((l[n]'hlt).toNat % 16 : Nat) : Int) := by
      rw [Int.tmod_eq_emod_of_nonneg (by omega)]; omega
    simp only [spec_PutHex.l0, B_size, bt_B l n hlt, e1, e2]
    rw [if_pos (by omega), if_pos (by omega), if_pos (by omega), if_pos (by omega), if_pos (by omega), if_pos (by omega), bt_hex _ (by omega) _ rfl, bt_hex _ (by omega) _ rfl]
    simp only [Option.bind_some, List.length_cons, List.length_nil]
    rw [if_pos (by omega), wrap_succ n (by omega), ih k l _ (n + 1) (by omega) (by omega) hl (by simp; omega), drop_at l n hlt, List.flatMap_cons, List.map_append, List.append_assoc]
    rfl
theorem spec_hex_f (l : List UInt8) (k : Nat) (hl : l.length ≤ 1073741824) (hk : l.length < k) : spec_PutHex.f k (B l) = some (B (l.flatMap hex2)) := by
  unfold spec_PutHex.f
  have := spec_hex l.length k l [] 0 (by omega) hk hl (by simp)
  simp only [Int.natCast_zero] at this
  rw [this, List.nil_append, strOfNums_B, map_u8]; rfl

theorem impl_hex (d : Nat) : ∀ (k : Nat) (l : List UInt8) (acc : List Int) (n : Nat), n + d = l.length → d < k → l.length ≤ 1073741824 → acc.length ≤ 2 * n →
    impl_PutHex.l0 k (B l) acc l.length n = some (strOfNums (acc ++ ((l.drop n).flatMap hex2).map fun c => (c.toNat : Int))) := by
  induction d with
  | zero =>
    intro k l acc n hn hk hl ha
    obtain ⟨k, rfl⟩ : ∃ m, k = m + 1 := ⟨k - 1, by omega⟩
    simp only [impl_PutHex.l0]
    rw [if_neg (by omega), List.drop_of_length_le (by omega)]; simp
  | succ d ih =>
    intro k l acc n hn hk hl ha
    obtain ⟨k, rfl⟩ : ∃ m, k = m + 1 := ⟨k - 1, by omega⟩
    have hlt : n < l.length := by omega
    have hc := u8_lt (l[n]'hlt)
    have e1 : ((l[n]'hlt).toNat : Int) / 16 = (((l[n]'hlt).toNat / 16 : Nat) : Int) := by omega
    have e2 : Go.bits .and .u8 ((l[n]'hlt).toNat : Int) 15 = (((l[n]'hlt).toNat % 16 : Nat) : Int) := by
      rw [u8_and15 (x := ((l[n]'hlt).toNat : Int)) (by omega) (by omega)]; omega
    simp only [impl_PutHex.l0, B_size, bt_B l n hlt, e1, e2]
    rw [if_pos (by omega), if_pos (by omega), if_pos (by omega), if_pos (by omega), if_pos (by omega), if_pos (by omega), if_pos (by omega), bt_hex _ (by omega) _ rfl, bt_hex _ (by omega) _ rfl]
    simp only [Option.bind_some, List.length_cons, List.length_nil]
    rw [if_pos (by omega), wrap_succ n (by omega), ih k l _ (n + 1) (by omega) (by omega) hl (by simp; omega), drop_at l n hlt, List.flatMap_cons, List.map_append, List.append_assoc]
    rfl
theorem impl_hex_f (l : List UInt8) (k : Nat) (hl : l.length ≤ 1073741824) (hk : l.length < k) : impl_PutHex.f k (B l) = some (B (l.flatMap hex2)) := by
  unfold impl_PutHex.f
  have := impl_hex l.length k l [] 0 (by omega) hk hl (by simp)
  simp only [Int.natCast_zero] at this
  rw [B_size, this, List.nil_append, strOfNums_B, map_u8]; rfl

/-! ### Quote of both -/
theorem spec_quote (d : Nat) : ∀ (k : Nat) (l acc : List UInt8) (n : Nat), n + d = l.length → 2 * d + 3 < k → l.length ≤ 1073741824 → acc.length ≤ 8 + 4 * n →
    spec_Quote.l0 k (B l) (nums8 acc) n = some (B (acc ++ (l.drop n).flatMap encQ ++ [34])) := by
  induction d with
  | zero =>
    intro k l acc n hn hk hl ha
    obtain ⟨k, rfl⟩ : ∃ m, k = m + 1 := ⟨k - 1, by omega⟩
    simp only [spec_Quote.l0, B_size, nums8_length]
    rw [if_neg (by omega), if_pos (by omega), List.drop_of_length_le (by omega), show ([34] : List Int) = nums8 [34] from rfl, nums8_append, strOfNums8]; simp
  | succ d ih =>
    intro k l acc n hn hk hl ha
    obtain ⟨k, rfl⟩ : ∃ m, k = m + 2 := ⟨k - 2, by omega⟩
    have hlt : n < l.length := by omega
    have nx : ∀ acc' : List UInt8, acc' = acc ++ encQ (l[n]'hlt) → spec_Quote.l0 k (B l) (nums8 acc') ((n + 1 : Nat) : Int) = some (B (acc ++ (l.drop n).flatMap encQ ++ [34])) := by
      intro acc' h
      have hlen := encQ_len (l[n]'hlt)
      rw [ih k l acc' (n + 1) (by omega) (by omega) hl (by rw [h, List.length_append]; omega), drop_at l n hlt, h, List.flatMap_cons]
      simp only [List.append_assoc]
    have g1 : (n : Int) < (l.length : Int) := by omega
    have g2 : (0 : Int) ≤ n := by omega
    have g3 : (n : Int) ≤ ((n + 1 : Nat) : Int) := by omega
    have g4 : ((n + 1 : Nat) : Int) ≤ (l.length : Int) := by omega
    have hw := wrap_succ n (show n < 9223372036854775807 by omega)
    have hh := spec_hex_f [l[n]'hlt] k (by simp) (by simp; omega)
    have hx2 : ([l[n]'hlt].flatMap hex2) = hex2 (l[n]'hlt) := by simp
    rw [hx2] at hh
    have hl2 : (hex2 (l[n]'hlt)).length = 2 := rfl
    have r1 : spec_Quote.j1 (k + 1) (B l) (nums8 acc) n true = some (B (acc ++ (l.drop n).flatMap encQ ++ [34])) ∨ ¬ ((l[n]'hlt).toNat = 34 ∨ (l[n]'hlt).toNat = 92) := by
      by_cases hq : (l[n]'hlt).toNat = 34 ∨ (l[n]'hlt).toNat = 92
      · left
        simp only [spec_Quote.j1, B_size, if_pos g1, if_pos g2, bt_B l n hlt, hw, Option.bind_some, nums8_length, List.length_cons, List.length_nil]
        rw [if_pos trivial, if_pos (by omega), show [92, ((l[n]'hlt).toNat : Int)] = nums8 [92, l[n]'hlt] from rfl, nums8_append]
        exact nx _ (by rw [encQ, if_pos hq])
      · exact .inr hq
    have r2 : ¬ ((l[n]'hlt).toNat = 34 ∨ (l[n]'hlt).toNat = 92) → spec_Quote.j1 (k + 1) (B l) (nums8 acc) n false = some (B (acc ++ (l.drop n).flatMap encQ ++ [34])) := by
      intro hq
      simp only [spec_Quote.j1, B_size, if_pos g1, if_pos g2, if_pos g3, if_pos g4, bt_B l n hlt, hw, Option.bind_some, nums8_length, List.length_cons, List.length_nil, B_extract, Int.toNat_natCast, take_drop_one l n hlt, hh, List.length_append]
      rw [if_neg (by simp)]
      by_cases h10 : (l[n]'hlt).toNat = 10
      · rw [if_pos (by omega), if_pos (by omega), show ([92, 110] : List Int) = nums8 [92, 110] from rfl, nums8_append]
        exact nx _ (by rw [encQ, if_neg hq, if_pos h10])
      · rw [if_neg (by omega)]
        by_cases h32 : (l[n]'hlt).toNat < 32
        · rw [if_pos (by omega), if_pos (by omega), hl2, if_pos (by omega), show ([92, 120] : List Int) = nums8 [92, 120] from rfl, bytesOf_B, nums8_append, nums8_append]
          exact nx _ (by rw [encQ, if_neg hq, if_neg h10, if_pos (by omega)]; simp)
        · rw [if_neg (by omega)]
          by_cases h126 : (l[n]'hlt).toNat > 126
          · rw [if_pos (by omega), if_pos (by omega), hl2, if_pos (by omega), show ([92, 120] : List Int) = nums8 [92, 120] from rfl, bytesOf_B, nums8_append, nums8_append]
            exact nx _ (by rw [encQ, if_neg hq, if_neg h10, if_pos (by omega)]; simp)
          · rw [if_neg (by omega), if_pos (by omega), nums8_one, nums8_append]
            exact nx _ (by rw [encQ, if_neg hq, if_neg h10, if_neg (by omega)])
    simp only [spec_Quote.l0, B_size, if_pos g1, if_pos g2, bt_B l n hlt]
    by_cases h34 : (l[n]'hlt).toNat = 34
    · rw [if_pos (by omega)]
      rcases r1 with r1 | r1
      · exact r1
      · exact absurd (.inl h34) r1
    · rw [if_neg (by omega)]
      by_cases h92 : (l[n]'hlt).toNat = 92
      · rw [show (((l[n]'hlt).toNat : Int) == 92) = true from beq_iff_eq.2 (by omega)]
        rcases r1 with r1 | r1
        · exact r1
        · exact absurd (.inr h92) r1
      · rw [show (((l[n]'hlt).toNat : Int) == 92) = false from beq_eq_false_iff_ne.2 (by omega)]
        exact r2 (by omega)
theorem spec_quote_f (l : List UInt8) (k : Nat) (hl : l.length ≤ 1073741824) (hk : 2 * l.length + 3 < k) : spec_Quote.f k (B l) = some (B (quoteL l)) := by
  unfold spec_Quote.f
  have := spec_quote l.length k l [34] 0 (by omega) hk hl (by simp)
  simp only [Int.natCast_zero] at this
  rw [show ([34] : List Int) = nums8 [34] from rfl, this]; rfl

theorem impl_quote (d : Nat) : ∀ (k : Nat) (l acc : List UInt8) (n : Nat), n + d = l.length → 2 * d + 3 < k → l.length ≤ 1073741824 → acc.length ≤ 8 + 4 * n →
    impl_Quote.l0 k (B l) (B acc) l.length n = some (B (acc ++ (l.drop n).flatMap encQ ++ [34])) := by
  induction d with
  | zero =>
    intro k l acc n hn hk hl ha
    obtain ⟨k, rfl⟩ : ∃ m, k = m + 1 := ⟨k - 1, by omega⟩
    simp only [impl_Quote.l0, B_size]
    rw [if_neg (by omega), if_pos (by omega), List.drop_of_length_le (by omega), mk_B, B_append]; simp
  | succ d ih =>
    intro k l acc n hn hk hl ha
    obtain ⟨k, rfl⟩ : ∃ m, k = m + 2 := ⟨k - 2, by omega⟩
    have hlt : n < l.length := by omega
    have nx : ∀ acc' : List UInt8, acc' = acc ++ encQ (l[n]'hlt) → impl_Quote.l0 k (B l) (B acc') l.length ((n + 1 : Nat) : Int) = some (B (acc ++ (l.drop n).flatMap encQ ++ [34])) := by
      intro acc' h
      have hlen := encQ_len (l[n]'hlt)
      rw [ih k l acc' (n + 1) (by omega) (by omega) hl (by rw [h, List.length_append]; omega), drop_at l n hlt, h, List.flatMap_cons]
      simp only [List.append_assoc]
    have g1 : (n : Int) < (l.length : Int) := by omega
    have g2 : (0 : Int) ≤ n := by omega
    have g3 : (n : Int) ≤ ((n + 1 : Nat) : Int) := by omega
    have g4 : ((n + 1 : Nat) : Int) ≤ (l.length : Int) := by omega
    have hw := wrap_succ n (show n < 9223372036854775807 by omega)
    have hh := impl_hex_f [l[n]'hlt] k (by simp) (by simp; omega)
    have hx2 : ([l[n]'hlt].flatMap hex2) = hex2 (l[n]'hlt) := by simp
    rw [hx2] at hh
    have hl2 : (hex2 (l[n]'hlt)).length = 2 := rfl
    have r1 : ((l[n]'hlt).toNat = 34 ∨ (l[n]'hlt).toNat = 92) → impl_Quote.j1 (k + 1) (B l) (B acc) n ((l[n]'hlt).toNat : Int) l.length n true = some (B (acc ++ (l.drop n).flatMap encQ ++ [34])) := by
      intro hq
      simp only [impl_Quote.j1, B_size, if_pos g2, if_pos g3, if_pos g4, hw, B_extract, Int.toNat_natCast, take_drop_one l n hlt, mk_B, B_append, List.length_cons, List.length_nil, List.length_append]
      rw [if_pos trivial, if_pos (by omega), if_pos (by omega)]
      exact nx _ (by rw [encQ, if_pos hq]; rfl)
    have r2 : ¬ ((l[n]'hlt).toNat = 34 ∨ (l[n]'hlt).toNat = 92) → impl_Quote.j1 (k + 1) (B l) (B acc) n ((l[n]'hlt).toNat : Int) l.length n false = some (B (acc ++ (l.drop n).flatMap encQ ++ [34])) := by
      intro hq
      simp only [impl_Quote.j1, B_size, if_pos g2, if_pos g3, if_pos g4, hw, B_extract, Int.toNat_natCast, take_drop_one l n hlt, hh, mk_B, B_append, List.length_cons, List.length_nil, List.length_append, Option.bind_some, hl2]
      rw [if_neg (by simp)]
      by_cases h10 : (l[n]'hlt).toNat = 10
      · rw [if_pos (by omega), if_pos (by omega)]
        exact nx _ (by rw [encQ, if_neg hq, if_pos h10])
      · rw [if_neg (by omega)]
        by_cases h32 : (l[n]'hlt).toNat < 32
        · rw [if_pos (by omega), if_pos (by omega), if_pos (by omega)]
          exact nx _ (by rw [encQ, if_neg hq, if_neg h10, if_pos (by omega)]; rfl)
        · rw [if_neg (by omega)]
          by_cases h126 : (l[n]'hlt).toNat > 126
          · rw [if_pos (by omega), if_pos (by omega), if_pos (by omega)]
            exact nx _ (by rw [encQ, if_neg hq, if_neg h10, if_pos (by omega)]; rfl)
          · rw [if_neg (by omega), if_pos (by omega)]
            exact nx _ (by rw [encQ, if_neg hq, if_neg h10, if_neg (by omega)])
    simp only [impl_Quote.l0, B_size, if_pos g1, if_pos g2, bt_B l n hlt]
    by_cases h34 : (l[n]'hlt).toNat = 34
    · rw [if_pos (by omega)]
      exact r1 (.inl h34)
    · rw [if_neg (by omega)]
      by_cases h92 : (l[n]'hlt).toNat = 92
      · rw [show (((l[n]'hlt).toNat : Int) == 92) = true from beq_iff_eq.2 (by omega)]
        exact r1 (.inr h92)
      · rw [show (((l[n]'hlt).toNat : Int) == 92) = false from beq_eq_false_iff_ne.2 (by omega)]
        exact r2 (by omega)
theorem impl_quote_f (l : List UInt8) (k : Nat) (hl : l.length ≤ 1073741824) (hk : 2 * l.length + 3 < k) : impl_Quote.f k (B l) = some (B (quoteL l)) := by
  unfold impl_Quote.f
  have := impl_quote l.length k l [34] 0 (by omega) hk hl (by simp)
  simp only [Int.natCast_zero] at this
  rw [mk_B, B_size, this]; rfl

theorem FnExactNeedText : laws_FnExactNeedText.Pure := by
  intro a b hg
  have ga : a.size ≤ 9223372036854775807 := hg.1
  have gb : b.size ≤ 9223372036854775807 := hg.2
  obtain ⟨l, rfl⟩ : ∃ l, a = B l := ⟨_, B_of a⟩
  obtain ⟨m, rfl⟩ : ∃ l, b = B l := ⟨_, B_of b⟩
  rw [B_size] at ga gb
  refine ⟨2 * (l.length + m.length) + 10, ?_⟩
  unfold laws_FnExactNeedText.f laws_szNeed.f
  simp only [B_size]
  rw [wrap_id (1048576 - (l.length : Int)) (by omega) (by omega)]
  by_cases h1 : (1048576 - (l.length : Int)) < 0
  · rw [if_pos h1]; rfl
  · rw [if_neg h1, wrap_id (1048576 - (l.length : Int) - (m.length : Int)) (by omega) (by omega)]
    by_cases h2 : (1048576 - (l.length : Int) - (m.length : Int)) < 0
    · rw [if_pos h2]; rfl
    · rw [if_neg h2]
      simp only [Option.bind_some]
      rw [if_neg h2]
      unfold laws_toNeed.f spec_NeedText.f impl_NeedText.f spec_l08Key.f impl_Need_text.f
      simp only [B_size, mk_B, B_append, Option.bind_some, List.length_append, List.length_cons, List.length_nil]
      rw [if_pos (by omega), if_pos (by omega)]
      simp only [Option.bind_some]
      rw [spec_quote_f _ _ (by simp; omega) (by simp; omega), impl_quote_f _ _ (by simp; omega) (by simp; omega)]
      simp

end Go.Proofs.Ytoihkkkdkpllnaa.Pure
