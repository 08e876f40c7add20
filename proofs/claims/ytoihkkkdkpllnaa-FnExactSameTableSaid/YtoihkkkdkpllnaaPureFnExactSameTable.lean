/- For all tables, the program's SameTable returns what the reference's SameTable returns, and leaves both tables as they were. No condition. -/
import Derived.Test.YtoihkkkdkpllnaaPFnExactSameTablex5
import Derived.Test.YtoihkkkdkpllnaaAid
namespace Go.Proofs.Ytoihkkkdkpllnaa.Pure
open Go.RowKit Go.Proofs.Ytoihkkkdkpllnaa.PFnExactSameTable Go.Proofs.YtoihkkkdkpllnaaW.PrintWords Go.Proofs.YtoihkkkdkpllnaaW.PrintLast Go.Proofs.YtoihkkkdkpllnaaW.PrintMore Go.Proofs.Ytoihkkkdkpllnaa.Aid
set_option linter.unusedSimpArgs false
set_option linter.unusedVariables false
/-! ### the laws' own helpers on lists of texts -/
theorem sz_str_l (l : List ByteArray) (hg : ∀ x ∈ l, x.size ≤ 9223372036854775807) (d : Nat) : ∀ (k n : Nat) (a : Int), n + d = l.length → d < k → 0 ≤ a → a ≤ 1048576 → l.length ≤ 1048576 →
    laws_szStringS.l0 k l a n = some (if (totS (l.drop n) : Int) ≤ a then a - totS (l.drop n) else -1) := by
  induction d with
  | zero =>
    intro k n a hn hk h0 h1 hl
    obtain ⟨k, rfl⟩ : ∃ m, k = m + 1 := ⟨k - 1, by omega⟩
    simp only [laws_szStringS.l0]
    rw [if_neg (by omega), List.drop_of_length_le (by omega), if_pos (by simp [totS]; omega)]; simp [totS]
  | succ d ih =>
    intro k n a hn hk h0 h1 hl
    obtain ⟨k, rfl⟩ : ∃ m, k = m + 1 := ⟨k - 1, by omega⟩
    have hlt : n < l.length := by omega
    have hx := hg _ (List.getElem_mem hlt)
    simp only [laws_szStringS.l0]
    rw [if_pos (by omega), if_pos (by omega), rdOf_at _ l n hlt, wrap_id (a - ((l[n]'hlt).size : Int)) (by omega) (by omega), wrap_succ n (by omega), totS_drop l n hlt]
    by_cases h : a - ((l[n]'hlt).size : Int) < 0
    · rw [if_pos h, if_neg (by omega)]
    · rw [if_neg h, ih k (n + 1) _ (by omega) (by omega) (by omega) (by omega) hl]
      congr 1
      split <;> split <;> omega
theorem sz_str (l : List ByteArray) (hl : l.length ≤ 9223372036854775807) (hg : ∀ x ∈ l, x.size ≤ 9223372036854775807) (k : Nat) (a : Int) (hk : l.length < k) (h0 : 0 ≤ a) (h1 : a ≤ 1048576) :
    laws_szStringS.f k l a = some (if ((l.length + totS l : Nat) : Int) ≤ a then a - ((l.length + totS l : Nat) : Int) else -1) := by
  unfold laws_szStringS.f
  rw [wrap_id (a - (l.length : Int)) (by omega) (by omega)]
  by_cases h : a - (l.length : Int) < 0
  · rw [if_pos h, if_neg (by omega)]
  · rw [if_neg h]
    have := sz_str_l l hg l.length k 0 (a - (l.length : Int)) (by omega) hk (by omega) (by omega) (by omega)
    simp only [Int.natCast_zero, List.drop_zero] at this
    rw [this]; congr 1
    split <;> split <;> omega
theorem to_str_l (l : List ByteArray) (d : Nat) : ∀ (k n : Nat), n + d = l.length → d < k → l.length ≤ 1048576 →
    laws_toStringS.l0 k l (l.take n ++ List.replicate d ⟨#[]⟩) n = some l := by
  induction d with
  | zero =>
    intro k n hn hk hl
    obtain ⟨k, rfl⟩ : ∃ m, k = m + 1 := ⟨k - 1, by omega⟩
    simp only [laws_toStringS.l0]
    rw [if_neg (by omega), List.take_of_length_le (by omega)]; simp
  | succ d ih =>
    intro k n hn hk hl
    obtain ⟨k, rfl⟩ : ∃ m, k = m + 1 := ⟨k - 1, by omega⟩
    have hlt : n < l.length := by omega
    have hlen : (l.take n ++ List.replicate (d + 1) (⟨#[]⟩ : ByteArray)).length = l.length := by simp; omega
    simp only [laws_toStringS.l0]
    rw [hlen, if_pos (by omega), if_pos (by omega), if_pos (by omega), rdOf_at _ l n hlt, Int.toNat_natCast, set_take l _ n d hn, wrap_succ n (by omega)]
    exact ih k (n + 1) (by omega) (by omega) hl
theorem to_str (l : List ByteArray) (k : Nat) (hk : l.length < k) (hl : l.length ≤ 1048576) : laws_toStringS.f k l = some l := by
  unfold laws_toStringS.f
  rw [if_pos (by omega), if_pos (by omega), Int.toNat_natCast]
  have := to_str_l l l.length k 0 (by omega) hk hl
  simpa using this
theorem eq_str_l (l m : List ByteArray) (he : l.length = m.length) (d : Nat) : ∀ (k n : Nat), n + d = l.length → d < k → l.length ≤ 1048576 →
    laws_eqStringS.l0 k l m n = some (decide (l.drop n = m.drop n)) := by
  induction d with
  | zero =>
    intro k n hn hk hl
    obtain ⟨k, rfl⟩ : ∃ m, k = m + 1 := ⟨k - 1, by omega⟩
    simp only [laws_eqStringS.l0]
    rw [if_neg (by omega), List.drop_of_length_le (by omega), List.drop_of_length_le (by omega)]; simp
  | succ d ih =>
    intro k n hn hk hl
    obtain ⟨k, rfl⟩ : ∃ m, k = m + 1 := ⟨k - 1, by omega⟩
    have hlt : n < l.length := by omega
    have hlt' : n < m.length := by omega
    simp only [laws_eqStringS.l0]
    rw [if_pos (by omega), if_pos (by omega), if_pos (by omega), rdOf_at _ l n hlt, rdOf_at _ m n hlt', wrap_succ n (by omega), drop_at l n hlt, drop_at m n hlt']
    by_cases h : (l[n]'hlt).toList = (m[n]'hlt').toList
    · rw [if_pos h, ih k (n + 1) (by omega) (by omega) hl, toList_inj h]
      congr 1
      generalize l.drop (n + 1) = a
      generalize m.drop (n + 1) = b
      generalize m[n]'hlt' = x
      simp
    · rw [if_neg h, decide_eq_false]
      intro hq; injection hq with h1 _; exact h (by rw [h1])
theorem eq_str (l m : List ByteArray) (k : Nat) (hk : l.length < k) (hl : l.length ≤ 1048576) : laws_eqStringS.f k l m = some (decide (l = m)) := by
  unfold laws_eqStringS.f
  by_cases h : (l.length : Int) = (m.length : Int)
  · rw [if_pos h]
    have := eq_str_l l m (by omega) l.length k 0 (by omega) hk hl
    simpa using this
  · rw [if_neg h, decide_eq_false]
    rintro rfl; exact h rfl

/-! ### the laws' own helpers on Field -/
def n_Field (x : S134) : Nat := x.f0.size + x.f1.size + (x.f2.length + totS x.f2)
def m_Field (x : S109) : Nat := x.f0.size + x.f1.size + (x.f2.length + totS x.f2)
def cv_Field (x : S134) : S109 := ⟨x.f0, x.f1, x.f2, x.f3⟩
theorem sz_Field (x : S134) (hg : good134 x) (k : Nat) (a : Int) (hk : n_Field x < k) (h0 : 0 ≤ a) (h1 : a ≤ 1048576) :
    laws_szField.f k x.f0 x.f1 x.f2 x.f3 a = some (if (n_Field x : Int) ≤ a then a - (n_Field x : Int) else -1) := by
  have hn : n_Field x = x.f0.size + x.f1.size + (x.f2.length + totS x.f2) := rfl
  unfold good134 at hg
  obtain ⟨g0, g1, g2, g3⟩ := hg
  unfold laws_szField.f
  generalize n_Field x = N at *
  have g0 : x.f0.size ≤ 9223372036854775807 := g0
  rw [wrap_id (a - (x.f0.size : Int)) (by omega) (by omega)]
  by_cases c0 : a - (x.f0.size : Int) < 0
  · rw [if_pos c0, if_neg (by omega)]
  rw [if_neg c0]
  have g1 : x.f1.size ≤ 9223372036854775807 := g1
  rw [wrap_id (a - (x.f0.size : Int) - (x.f1.size : Int)) (by omega) (by omega)]
  by_cases c1 : a - (x.f0.size : Int) - (x.f1.size : Int) < 0
  · rw [if_pos c1, if_neg (by omega)]
  rw [if_neg c1]
  rw [sz_str x.f2 g2.1 g2.2 k (a - (x.f0.size : Int) - (x.f1.size : Int)) (by omega) (by omega) (by omega)]; simp only [Option.bind_some]
  by_cases c2 : ((x.f2.length + totS x.f2 : Nat) : Int) ≤ a - (x.f0.size : Int) - (x.f1.size : Int)
  rotate_left
  · rw [if_neg c2, if_pos (by decide), if_neg (by omega)]
  rw [if_pos c2, if_neg (by omega)]
  rw [if_pos (by omega)]; congr 1; omega
theorem to_Field (x : S134) (k : Nat) (hk : n_Field x < k) (hl : n_Field x ≤ 1048576) : laws_toField.f k x.f0 x.f1 x.f2 x.f3 = some ((cv_Field x).f0, (cv_Field x).f1, (cv_Field x).f2, (cv_Field x).f3) := by
  have hn : n_Field x = x.f0.size + x.f1.size + (x.f2.length + totS x.f2) := rfl
  unfold laws_toField.f
  generalize n_Field x = N at *
  rw [to_str x.f2 k (by omega) (by omega)]; simp only [Option.bind_some]
  rfl
theorem m_cv_Field (x : S134) : m_Field (cv_Field x) = n_Field x := by
  simp only [m_Field, n_Field, cv_Field]
theorem eq_Field (x : S109) (k : Nat) (hk : m_Field x < k) (hl : m_Field x ≤ 1048576) : laws_eqField.f k x.f0 x.f1 x.f2 x.f3 x.f0 x.f1 x.f2 x.f3 = some true := by
  have hn : m_Field x = x.f0.size + x.f1.size + (x.f2.length + totS x.f2) := rfl
  unfold laws_eqField.f
  generalize m_Field x = N at *
  have := eq_str x.f2 x.f2 k (by omega) (by omega)
  simp [*]
theorem rdl_Field (l : List S134) (n : Nat) (h : n < l.length) : rd_T134 l (n : Int) = l[n]'h := by unfold rd_T134; rw [Int.toNat_natCast]; simp [List.getD, List.getElem?_eq_getElem h]
theorem rdi_Field (l : List S109) (n : Nat) (h : n < l.length) : rd_T109 l (n : Int) = l[n]'h := by unfold rd_T109; rw [Int.toNat_natCast]; simp [List.getD, List.getElem?_eq_getElem h]
theorem szS_Field_l (l : List S134) (hl : l.length ≤ 9223372036854775807) (hg : ∀ x ∈ l, good134 x) (d : Nat) : ∀ (k n : Nat) (a : Int), n + d = l.length → d + totL n_Field (l.drop n) < k → 0 ≤ a → a ≤ 1048576 →
    laws_szFieldS.l0 k l a n = some (if (totL n_Field (l.drop n) : Int) ≤ a then a - totL n_Field (l.drop n) else -1) := by
  induction d with
  | zero =>
    intro k n a hn hk h0 h1
    obtain ⟨k, rfl⟩ : ∃ m, k = m + 1 := ⟨k - 1, by omega⟩
    simp only [laws_szFieldS.l0]
    rw [if_neg (by omega), List.drop_of_length_le (by omega), if_pos (by simp [totL]; omega)]; simp [totL]
  | succ d ih =>
    intro k n a hn hk h0 h1
    obtain ⟨k, rfl⟩ : ∃ m, k = m + 1 := ⟨k - 1, by omega⟩
    have hlt : n < l.length := by omega
    have ht := totL_drop n_Field l n hlt
    simp only [laws_szFieldS.l0]
    rw [if_pos (by omega), if_pos (by omega), rdl_Field l n hlt, sz_Field (l[n]'hlt) (hg _ (List.getElem_mem hlt)) k a (by omega) h0 h1, wrap_succ n (by omega)]
    simp only [Option.bind_some]
    by_cases h : (n_Field (l[n]'hlt) : Int) ≤ a
    · rw [if_pos h, if_neg (by omega), ih k (n + 1) _ (by omega) (by omega) (by omega) (by omega)]
      congr 1
      split <;> split <;> omega
    · rw [if_neg h, if_pos (by decide), if_neg (by omega)]
theorem szS_Field (l : List S134) (hg : GoodL good134 l) (k : Nat) (a : Int) (hk : l.length + totL n_Field l < k) (h0 : 0 ≤ a) (h1 : a ≤ 1048576) :
    laws_szFieldS.f k l a = some (if ((l.length + totL n_Field l : Nat) : Int) ≤ a then a - ((l.length + totL n_Field l : Nat) : Int) else -1) := by
  have hl := hg.1
  unfold laws_szFieldS.f
  rw [wrap_id (a - (l.length : Int)) (by omega) (by omega)]
  by_cases h : a - (l.length : Int) < 0
  · rw [if_pos h, if_neg (by omega)]
  · rw [if_neg h]
    have := szS_Field_l l hg.1 hg.2 l.length k 0 (a - (l.length : Int)) (by omega) (by simpa using hk) (by omega) (by omega)
    simp only [Int.natCast_zero, List.drop_zero] at this
    rw [this]; congr 1
    split <;> split <;> omega
theorem toS_Field_l (l : List S134) (hl : l.length + totL n_Field l ≤ 1048576) (d : Nat) : ∀ (k n : Nat), n + d = l.length → d + totL n_Field (l.drop n) < k →
    laws_toFieldS.l0 k l ((l.map cv_Field).take n ++ List.replicate d z109) n = some (l.map cv_Field) := by
  induction d with
  | zero =>
    intro k n hn hk
    obtain ⟨k, rfl⟩ : ∃ m, k = m + 1 := ⟨k - 1, by omega⟩
    simp only [laws_toFieldS.l0]
    rw [if_neg (by omega), List.take_of_length_le (by rw [List.length_map]; omega)]; simp
  | succ d ih =>
    intro k n hn hk
    obtain ⟨k, rfl⟩ : ∃ m, k = m + 1 := ⟨k - 1, by omega⟩
    have hlt : n < l.length := by omega
    have ht := totL_drop n_Field l n hlt
    have hm := totL_mem n_Field l _ (List.getElem_mem hlt)
    have hlen : ((l.map cv_Field).take n ++ List.replicate (d + 1) z109).length = l.length := by simp; omega
    simp only [laws_toFieldS.l0]
    rw [hlen, if_pos (by omega), if_pos (by omega), rdl_Field l n hlt, to_Field (l[n]'hlt) k (by omega) (by omega)]
    simp only [Option.bind_some]
    rw [if_pos (by omega)]
    show laws_toFieldS.l0 k l (((l.map cv_Field).take n ++ List.replicate (d + 1) z109).set (n : Int).toNat (cv_Field (l[n]'hlt))) (wrap64 ((n : Int) + 1)) = _
    have e : cv_Field (l[n]'hlt) = (l.map cv_Field)[n]'(by rw [List.length_map]; exact hlt) := by rw [List.getElem_map]
    rw [Int.toNat_natCast, e, set_take (l.map cv_Field) _ n d (by rw [List.length_map]; exact hn), wrap_succ n (by omega)]
    exact ih k (n + 1) (by omega) (by omega)
theorem toS_Field (l : List S134) (k : Nat) (hk : l.length + totL n_Field l < k) (hl : l.length + totL n_Field l ≤ 1048576) : laws_toFieldS.f k l = some (l.map cv_Field) := by
  unfold laws_toFieldS.f
  rw [if_pos (by omega), if_pos (by omega), Int.toNat_natCast]
  have := toS_Field_l l hl l.length k 0 (by omega) (by simpa using hk)
  simpa using this
theorem totL_map_Field (l : List S134) : totL m_Field (l.map cv_Field) = totL n_Field l := by
  unfold totL; rw [List.map_map]; exact congrArg List.sum (List.map_congr_left fun x _ => m_cv_Field x)
theorem eqS_Field_l (l : List S109) (hl : l.length + totL m_Field l ≤ 1048576) (d : Nat) : ∀ (k n : Nat), n + d = l.length → d + totL m_Field (l.drop n) < k →
    laws_eqFieldS.l0 k l l n = some true := by
  induction d with
  | zero =>
    intro k n hn hk
    obtain ⟨k, rfl⟩ : ∃ m, k = m + 1 := ⟨k - 1, by omega⟩
    simp only [laws_eqFieldS.l0]
    rw [if_neg (by omega)]
  | succ d ih =>
    intro k n hn hk
    obtain ⟨k, rfl⟩ : ∃ m, k = m + 1 := ⟨k - 1, by omega⟩
    have hlt : n < l.length := by omega
    have ht := totL_drop m_Field l n hlt
    have hm := totL_mem m_Field l _ (List.getElem_mem hlt)
    simp only [laws_eqFieldS.l0]
    rw [if_pos (by omega), if_pos (by omega), if_pos (by omega), rdi_Field l n hlt, eq_Field (l[n]'hlt) k (by omega) (by omega)]
    simp only [Option.bind_some]
    rw [if_pos trivial, wrap_succ n (by omega)]
    exact ih k (n + 1) (by omega) (by omega)
theorem eqS_Field (l : List S109) (k : Nat) (hk : l.length + totL m_Field l < k) (hl : l.length + totL m_Field l ≤ 1048576) : laws_eqFieldS.f k l l = some true := by
  unfold laws_eqFieldS.f
  rw [if_pos rfl]
  have := eqS_Field_l l hl l.length k 0 (by omega) (by simpa using hk)
  simpa using this
/-! ### the laws' own helpers on Table -/
def n_Table (x : S66) : Nat := x.f0.size + (x.f1.length + totL n_Field x.f1)
theorem sz_Table (x : S66) (hg : good66 x) (k : Nat) (a : Int) (hk : n_Table x < k) (h0 : 0 ≤ a) (h1 : a ≤ 1048576) :
    laws_szTable.f k x.f0 x.f1 a = some (if (n_Table x : Int) ≤ a then a - (n_Table x : Int) else -1) := by
  have hn : n_Table x = x.f0.size + (x.f1.length + totL n_Field x.f1) := rfl
  unfold good66 at hg
  obtain ⟨g0, g1⟩ := hg
  unfold laws_szTable.f
  generalize n_Table x = N at *
  have g0 : x.f0.size ≤ 9223372036854775807 := g0
  rw [wrap_id (a - (x.f0.size : Int)) (by omega) (by omega)]
  by_cases c0 : a - (x.f0.size : Int) < 0
  · rw [if_pos c0, if_neg (by omega)]
  rw [if_neg c0]
  rw [szS_Field x.f1 g1 k (a - (x.f0.size : Int)) (by omega) (by omega) (by omega)]; simp only [Option.bind_some]
  by_cases c1 : ((x.f1.length + totL n_Field x.f1 : Nat) : Int) ≤ a - (x.f0.size : Int)
  rotate_left
  · rw [if_neg c1, if_pos (by decide), if_neg (by omega)]
  rw [if_pos c1, if_neg (by omega)]
  rw [if_pos (by omega)]; congr 1; omega
theorem to_Table (x : S66) (k : Nat) (hk : n_Table x < k) (hl : n_Table x ≤ 1048576) : laws_toTable.f k x.f0 x.f1 = some (x.f0, x.f1.map cv_Field) := by
  have hn : n_Table x = x.f0.size + (x.f1.length + totL n_Field x.f1) := rfl
  unfold laws_toTable.f
  generalize n_Table x = N at *
  rw [toS_Field x.f1 k (by omega) (by omega)]; simp only [Option.bind_some]
theorem eq_Table (y0 : ByteArray) (y1 : List S109) (k : Nat) (hk : y0.size + (y1.length + totL m_Field y1) < k) (hl : y0.size + (y1.length + totL m_Field y1) ≤ 1048576) : laws_eqTable.f k y0 y1 y0 y1 = some true := by
  unfold laws_eqTable.f
  have := eqS_Field y1 k (by omega) (by omega)
  simp [*]
theorem sp_texts_l (l m : List ByteArray) (he : l.length = m.length) (d : Nat) : ∀ (k n : Nat), n + d = l.length → d < k → l.length ≤ 1048576 →
    spec_l04SameTexts.l0 k l m n = some (decide (l.drop n = m.drop n)) := by
  induction d with
  | zero =>
    intro k n hn hk hl
    obtain ⟨k, rfl⟩ : ∃ m, k = m + 1 := ⟨k - 1, by omega⟩
    simp only [spec_l04SameTexts.l0]
    rw [if_neg (by omega), List.drop_of_length_le (by omega), List.drop_of_length_le (by omega)]; simp
  | succ d ih =>
    intro k n hn hk hl
    obtain ⟨k, rfl⟩ : ∃ m, k = m + 1 := ⟨k - 1, by omega⟩
    have hlt : n < l.length := by omega
    have hlt' : n < m.length := by omega
    simp only [spec_l04SameTexts.l0]
    rw [if_pos (by omega), if_pos (by omega), if_pos (by omega), rdOf_at _ l n hlt, rdOf_at _ m n hlt', wrap_succ n (by omega), drop_at l n hlt, drop_at m n hlt']
    by_cases h : (l[n]'hlt).toList = (m[n]'hlt').toList
    · rw [if_pos h, ih k (n + 1) (by omega) (by omega) hl, toList_inj h]
      congr 1
      generalize l.drop (n + 1) = a
      generalize m.drop (n + 1) = b
      generalize m[n]'hlt' = x
      simp
    · rw [if_neg h, decide_eq_false]
      intro hq; injection hq with h1 _; exact h (by rw [h1])
theorem sp_texts (l m : List ByteArray) (k : Nat) (hk : l.length < k) (hl : l.length ≤ 1048576) : spec_l04SameTexts.f k l m = some (decide (l = m)) := by
  unfold spec_l04SameTexts.f
  by_cases h : (l.length : Int) = (m.length : Int)
  · rw [if_pos h]
    have := sp_texts_l l m (by omega) l.length k 0 (by omega) hk hl
    simpa using this
  · rw [if_neg h, decide_eq_false]
    rintro rfl; exact h rfl

theorem ip_texts_l (l m : List ByteArray) (he : l.length = m.length) (d : Nat) : ∀ (k n : Nat), n + d = l.length → d < k → l.length ≤ 1048576 →
    slices_Equal_string_string.l0 k l m l.length n = some (decide (l.drop n = m.drop n)) := by
  induction d with
  | zero =>
    intro k n hn hk hl
    obtain ⟨k, rfl⟩ : ∃ m, k = m + 1 := ⟨k - 1, by omega⟩
    simp only [slices_Equal_string_string.l0]
    rw [if_neg (by omega), List.drop_of_length_le (by omega), List.drop_of_length_le (by omega)]; simp
  | succ d ih =>
    intro k n hn hk hl
    obtain ⟨k, rfl⟩ : ∃ m, k = m + 1 := ⟨k - 1, by omega⟩
    have hlt : n < l.length := by omega
    have hlt' : n < m.length := by omega
    simp only [slices_Equal_string_string.l0]
    rw [if_pos (by omega), if_pos (by omega), if_pos (by omega), if_pos (by omega), rdOf_at _ l n hlt, rdOf_at _ m n hlt', wrap_succ n (by omega), drop_at l n hlt, drop_at m n hlt']
    by_cases h : (l[n]'hlt).toList = (m[n]'hlt').toList
    · rw [if_pos h, ih k (n + 1) (by omega) (by omega) hl, toList_inj h]
      congr 1
      generalize l.drop (n + 1) = a
      generalize m.drop (n + 1) = b
      generalize m[n]'hlt' = x
      simp
    · rw [if_neg h, decide_eq_false]
      intro hq; injection hq with h1 _; exact h (by rw [h1])
theorem ip_texts (l m : List ByteArray) (k : Nat) (hk : l.length < k) (hl : l.length ≤ 1048576) : slices_Equal_string_string.f k l m = some (decide (l = m)) := by
  unfold slices_Equal_string_string.f
  by_cases h : (l.length : Int) = (m.length : Int)
  · rw [if_pos h]
    have := ip_texts_l l m (by omega) l.length k 0 (by omega) hk hl
    simpa using this
  · rw [if_neg h, decide_eq_false]
    rintro rfl; exact h rfl

def fB (x y : S109) : Bool := decide (x.f0.toList = y.f0.toList) && (decide (x.f1.toList = y.f1.toList) && ((x.f3 == y.f3) && decide (x.f2 = y.f2)))
def allF : List S109 → List S109 → Bool
  | x :: xs, y :: ys => fB x y && allF xs ys
  | _, _ => true
theorem sp_tab_l (L M : List S109) (a b : ByteArray) (he : L.length = M.length) (hL : L.length ≤ 1048576) (T : Nat) (hT : T ≤ 1048576) (H : ∀ x ∈ L, x.f2.length ≤ T) (d : Nat) : ∀ (k i : Nat), i + d = L.length → 2 * d + T + 2 < k →
    spec_SameTable.l0 k i a L b M = some (allF (L.drop i) (M.drop i)) := by
  induction d with
  | zero =>
    intro k i hi hk
    obtain ⟨k, rfl⟩ : ∃ m, k = m + 1 := ⟨k - 1, by omega⟩
    simp only [spec_SameTable.l0]
    rw [if_neg (by omega), List.drop_of_length_le (by omega)]; rfl
  | succ d ih =>
    intro k i hi hk
    obtain ⟨k, rfl⟩ : ∃ m, k = m + 2 := ⟨k - 2, by omega⟩
    have hlt : i < L.length := by omega
    have hlt' : i < M.length := by omega
    have hx := H _ (List.getElem_mem hlt)
    simp only [spec_SameTable.l0]
    rw [if_pos (by omega), if_pos (by omega), if_pos (by omega), rdi_Field L i hlt, rdi_Field M i hlt', drop_at L i hlt, drop_at M i hlt', allF, fB, sp_texts _ _ (k + 1) (by omega) (by omega)]
    simp only [spec_SameTable.j2, Option.bind_some]
    rw [wrap_succ i (by omega), ih k (i + 1) (by omega) (by omega)]
    generalize L[i]'hlt = x
    generalize M[i]'hlt' = y
    by_cases c0 : x.f0.toList = y.f0.toList
    · by_cases c1 : x.f1.toList = y.f1.toList
      · by_cases c3 : x.f3 = y.f3
        · by_cases c2 : x.f2 = y.f2 <;> simp [c0, c1, c2, c3]
        · simp [c0, c1, c3]
      · simp [c0, c1]
    · simp [c0]
theorem sp_tab (L M : List S109) (a b : ByteArray) (hL : L.length ≤ 1048576) (T : Nat) (hT : T ≤ 1048576) (H : ∀ x ∈ L, x.f2.length ≤ T) (k : Nat) (hk : 2 * L.length + T + 5 < k) :
    spec_SameTable.f k a L b M = some (decide (a.toList = b.toList) && (decide (L.length = M.length) && allF L M)) := by
  obtain ⟨k, rfl⟩ : ∃ m, k = m + 1 := ⟨k - 1, by omega⟩
  unfold spec_SameTable.f
  simp only [spec_SameTable.j0]
  by_cases c : a.toList = b.toList
  · by_cases q : L.length = M.length
    · have := sp_tab_l L M a b q hL T hT H L.length k 0 (by omega) (by omega)
      simp only [Int.natCast_zero, List.drop_zero] at this
      rw [if_pos c, if_neg (by simp [q]), this]; simp [c, q]
    · rw [if_pos c, if_pos (by simp; omega)]; simp [q]
  · rw [if_neg c, if_pos trivial]; simp [c]
theorem ip_field (x y : S109) (k : Nat) (hx : x.f2.length < k) (h : x.f2.length ≤ 1048576) : impl_sameField.f k x.f0 x.f1 x.f2 x.f3 y.f0 y.f1 y.f2 y.f3 = some (fB x y) := by
  unfold impl_sameField.f fB
  rw [ip_texts _ _ k hx h]; simp only [Option.bind_some]
  by_cases c0 : x.f0.toList = y.f0.toList
  · by_cases c1 : x.f1.toList = y.f1.toList
    · by_cases c3 : x.f3 = y.f3 <;> simp [c0, c1, c3]
    · simp [c0, c1]
  · simp [c0]
theorem ip_tab_l (L M : List S109) (he : L.length = M.length) (hL : L.length ≤ 1048576) (T : Nat) (hT : T ≤ 1048576) (H : ∀ x ∈ L, x.f2.length ≤ T) (d : Nat) : ∀ (k i : Nat), i + d = L.length → d + T + 2 < k →
    impl_Field_w96.l0 k M L L.length i = some (allF (L.drop i) (M.drop i)) := by
  induction d with
  | zero =>
    intro k i hi hk
    obtain ⟨k, rfl⟩ : ∃ m, k = m + 1 := ⟨k - 1, by omega⟩
    simp only [impl_Field_w96.l0]
    rw [if_neg (by omega), List.drop_of_length_le (by omega)]; rfl
  | succ d ih =>
    intro k i hi hk
    obtain ⟨k, rfl⟩ : ∃ m, k = m + 1 := ⟨k - 1, by omega⟩
    have hlt : i < L.length := by omega
    have hlt' : i < M.length := by omega
    have hx := H _ (List.getElem_mem hlt)
    simp only [impl_Field_w96.l0]
    rw [if_pos (by omega), if_pos (by omega), if_pos (by omega), if_pos (by omega), rdi_Field L i hlt, rdi_Field M i hlt', drop_at L i hlt, drop_at M i hlt', allF, ip_field _ _ k (by omega) (by omega)]
    simp only [Option.bind_some]
    rw [wrap_succ i (by omega), ih k (i + 1) (by omega) (by omega)]
    cases fB (L[i]'hlt) (M[i]'hlt') <;> simp
theorem ip_tab (L M : List S109) (a b : ByteArray) (hL : L.length ≤ 1048576) (T : Nat) (hT : T ≤ 1048576) (H : ∀ x ∈ L, x.f2.length ≤ T) (k : Nat) (hk : 2 * L.length + T + 5 < k) :
    impl_SameTable.f k a L b M = some (decide (a.toList = b.toList) && (decide (L.length = M.length) && allF L M)) := by
  unfold impl_SameTable.f impl_Field_w96.f
  by_cases c : a.toList = b.toList
  · by_cases q : L.length = M.length
    · have := ip_tab_l L M q hL T hT H L.length k 0 (by omega) (by omega)
      simp only [Int.natCast_zero, List.drop_zero] at this
      rw [if_pos c, if_pos (by omega), this]; simp [c, q]
    · rw [if_pos c, if_neg (by omega)]; simp [q]
  · rw [if_neg c]; simp [c]

theorem FnExactSameTable : laws_FnExactSameTable.Pure := by
  intro a L b M hg hg'
  obtain ⟨K, hK⟩ : ∃ K, n_Table ⟨a, L⟩ + n_Table ⟨b, M⟩ + 2 * L.length + 2000000 = K := ⟨_, rfl⟩
  refine ⟨K, ?_⟩
  unfold laws_FnExactSameTable.f
  rw [show laws_szTable.f K a L 1048576 = _ from sz_Table ⟨a, L⟩ hg K 1048576 (by omega) (by omega) (by omega)]; simp only [Option.bind_some]
  by_cases c : ((n_Table ⟨a, L⟩ : Nat) : Int) ≤ 1048576
  rotate_left
  · rw [if_neg c, if_pos (by decide)]
  rw [if_pos c, if_neg (by omega), show laws_szTable.f K b M _ = _ from sz_Table ⟨b, M⟩ hg' K _ (by omega) (by omega) (by omega)]; simp only [Option.bind_some]
  by_cases c2 : ((n_Table ⟨b, M⟩ : Nat) : Int) ≤ 1048576 - ((n_Table ⟨a, L⟩ : Nat) : Int)
  rotate_left
  · rw [if_neg c2, if_pos (by decide)]
  have h1 : n_Table ⟨a, L⟩ = a.size + (L.length + totL n_Field L) := rfl
  have h2 : n_Table ⟨b, M⟩ = b.size + (M.length + totL n_Field M) := rfl
  have l1 : (L.map cv_Field).length = L.length := List.length_map _
  have l2 : (M.map cv_Field).length = M.length := List.length_map _
  have t1 := totL_map_Field L
  have t2 := totL_map_Field M
  have hT : ∀ x ∈ L.map cv_Field, x.f2.length ≤ totL n_Field L := by
    intro x hx
    have h1 := totL_mem m_Field _ x hx
    have h2 : m_Field x = x.f0.size + x.f1.size + (x.f2.length + totS x.f2) := rfl
    omega
  rw [if_pos c2, if_neg (by omega), show laws_toTable.f K a L = _ from to_Table ⟨a, L⟩ K (by omega) (by omega)]; simp only [Option.bind_some]
  rw [show laws_toTable.f K b M = _ from to_Table ⟨b, M⟩ K (by omega) (by omega)]; simp only [Option.bind_some]
  rw [sp_tab _ _ a b (by omega) (totL n_Field L) (by omega) hT K (by omega)]; simp only [Option.bind_some]
  rw [ip_tab _ _ a b (by omega) (totL n_Field L) (by omega) hT K (by omega)]; simp only [Option.bind_some]
  rw [eq_Table a _ K (by rw [l1, t1]; omega) (by rw [l1, t1]; omega), eq_Table b _ K (by rw [l2, t2]; omega) (by rw [l2, t2]; omega)]
  simp

end Go.Proofs.Ytoihkkkdkpllnaa.Pure
