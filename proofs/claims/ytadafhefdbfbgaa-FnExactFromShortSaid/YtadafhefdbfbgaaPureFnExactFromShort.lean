/- For every graph and text, the program's FromShort returns what the reference's FromShort returns, and leaves the graph as it was. No condition. -/
import Derived.Test.YtadafhefdbfbgaaPFnExactFromShortx6
import Derived.Test.YtadafhefdbfbgaaAid
namespace Go.Proofs.Ytadafhefdbfbgaa.Pure
open Go.RowKit Go.Proofs.Ytadafhefdbfbgaa.PFnExactFromShort Go.Proofs.YtadafhefdbfbgaaW.PrintWords Go.Proofs.YtadafhefdbfbgaaW.PrintLast Go.Proofs.YtadafhefdbfbgaaW.PrintMore Go.Proofs.Ytadafhefdbfbgaa.Aid
set_option linter.unusedSimpArgs false
set_option linter.unusedVariables false
/-! ### the laws' own helpers on lists of texts -/
theorem sz_str_l (l : List ByteArray) (hg : ∀ x ∈ l, x.size ≤ 9223372036854775807) (d : Nat) : ∀ (k n : Nat) (a : Int), n + d = l.length → d < k → 0 ≤ a → a ≤ 1048576 → l.length ≤ 1048576 →
    laws_szStringS.l0 k l a n = some (if (totS (l.drop n) : Int) ≤ a then a - totS (l.drop n) else -1) := by
  induction d with
  | zero =>
    intro k n a hn hk h0 h1 hl
    obtain ⟨k, rfl⟩ : ∃ m, k = m + 1 := ⟨k - 1, by omega⟩
    simp only [laws_szStringS.l0]
    rw [if_neg (by omega), List.drop_of_length_le (by omega), if_pos (by simp [totS]; omega)]; simp [totS]
  | succ d ih =>
    intro k n a hn hk h0 h1 hl
    obtain ⟨k, rfl⟩ : ∃ m, k = m + 1 := ⟨k - 1, by omega⟩
    have hlt : n < l.length := by omega
    have hx := hg _ (List.getElem_mem hlt)
    simp only [laws_szStringS.l0]
    rw [if_pos (by omega), if_pos (by omega), rdOf_at _ l n hlt, wrap_id (a - ((l[n]'hlt).size : Int)) (by omega) (by omega), wrap_succ n (by omega), totS_drop l n hlt]
    by_cases h : a - ((l[n]'hlt).size : Int) < 0
    · rw [if_pos h, if_neg (by omega)]
    · rw [if_neg h, ih k (n + 1) _ (by omega) (by omega) (by omega) (by omega) hl]
      congr 1
      split <;> split <;> omega
theorem sz_str (l : List ByteArray) (hl : l.length ≤ 9223372036854775807) (hg : ∀ x ∈ l, x.size ≤ 9223372036854775807) (k : Nat) (a : Int) (hk : l.length < k) (h0 : 0 ≤ a) (h1 : a ≤ 1048576) :
    laws_szStringS.f k l a = some (if ((l.length + totS l : Nat) : Int) ≤ a then a - ((l.length + totS l : Nat) : Int) else -1) := by
  unfold laws_szStringS.f
  rw [wrap_id (a - (l.length : Int)) (by omega) (by omega)]
  by_cases h : a - (l.length : Int) < 0
  · rw [if_pos h, if_neg (by omega)]
  · rw [if_neg h]
    have := sz_str_l l hg l.length k 0 (a - (l.length : Int)) (by omega) hk (by omega) (by omega) (by omega)
    simp only [Int.natCast_zero, List.drop_zero] at this
    rw [this]; congr 1
    split <;> split <;> omega
theorem to_str_l (l : List ByteArray) (d : Nat) : ∀ (k n : Nat), n + d = l.length → d < k → l.length ≤ 1048576 →
    laws_toStringS.l0 k l (l.take n ++ List.replicate d ⟨#[]⟩) n = some l := by
  induction d with
  | zero =>
    intro k n hn hk hl
    obtain ⟨k, rfl⟩ : ∃ m, k = m + 1 := ⟨k - 1, by omega⟩
    simp only [laws_toStringS.l0]
    rw [if_neg (by omega), List.take_of_length_le (by omega)]; simp
  | succ d ih =>
    intro k n hn hk hl
    obtain ⟨k, rfl⟩ : ∃ m, k = m + 1 := ⟨k - 1, by omega⟩
    have hlt : n < l.length := by omega
    have hlen : (l.take n ++ List.replicate (d + 1) (⟨#[]⟩ : ByteArray)).length = l.length := by simp; omega
    simp only [laws_toStringS.l0]
    rw [hlen, if_pos (by omega), if_pos (by omega), if_pos (by omega), rdOf_at _ l n hlt, Int.toNat_natCast, set_take l _ n d hn, wrap_succ n (by omega)]
    exact ih k (n + 1) (by omega) (by omega) hl
theorem to_str (l : List ByteArray) (k : Nat) (hk : l.length < k) (hl : l.length ≤ 1048576) : laws_toStringS.f k l = some l := by
  unfold laws_toStringS.f
  rw [if_pos (by omega), if_pos (by omega), Int.toNat_natCast]
  have := to_str_l l l.length k 0 (by omega) hk hl
  simpa using this
theorem eq_str_l (l m : List ByteArray) (he : l.length = m.length) (d : Nat) : ∀ (k n : Nat), n + d = l.length → d < k → l.length ≤ 1048576 →
    laws_eqStringS.l0 k l m n = some (decide (l.drop n = m.drop n)) := by
  induction d with
  | zero =>
    intro k n hn hk hl
    obtain ⟨k, rfl⟩ : ∃ m, k = m + 1 := ⟨k - 1, by omega⟩
    simp only [laws_eqStringS.l0]
    rw [if_neg (by omega), List.drop_of_length_le (by omega), List.drop_of_length_le (by omega)]; simp
  | succ d ih =>
    intro k n hn hk hl
    obtain ⟨k, rfl⟩ : ∃ m, k = m + 1 := ⟨k - 1, by omega⟩
    have hlt : n < l.length := by omega
    have hlt' : n < m.length := by omega
    simp only [laws_eqStringS.l0]
    rw [if_pos (by omega), if_pos (by omega), if_pos (by omega), rdOf_at _ l n hlt, rdOf_at _ m n hlt', wrap_succ n (by omega), drop_at l n hlt, drop_at m n hlt']
    by_cases h : (l[n]'hlt).toList = (m[n]'hlt').toList
    · rw [if_pos h, ih k (n + 1) (by omega) (by omega) hl, toList_inj h]
      congr 1
      generalize l.drop (n + 1) = a
      generalize m.drop (n + 1) = b
      generalize m[n]'hlt' = x
      simp
    · rw [if_neg h, decide_eq_false]
      intro hq; injection hq with h1 _; exact h (by rw [h1])
theorem eq_str (l m : List ByteArray) (k : Nat) (hk : l.length < k) (hl : l.length ≤ 1048576) : laws_eqStringS.f k l m = some (decide (l = m)) := by
  unfold laws_eqStringS.f
  by_cases h : (l.length : Int) = (m.length : Int)
  · rw [if_pos h]
    have := eq_str_l l m (by omega) l.length k 0 (by omega) hk hl
    simpa using this
  · rw [if_neg h, decide_eq_false]
    rintro rfl; exact h rfl

/-! ### the laws' own helpers on Sum -/
def n_Sum (x : S87) : Nat := x.f0.size + x.f1.size
def m_Sum (x : S88) : Nat := x.f0.size + x.f1.size
def cv_Sum (x : S87) : S88 := ⟨x.f0, x.f1⟩
theorem sz_Sum (x : S87) (hg : good87 x) (a : Int) (h0 : 0 ≤ a) (h1 : a ≤ 1048576) :
    laws_szSum.f x.f0 x.f1 a = some (if (n_Sum x : Int) ≤ a then a - (n_Sum x : Int) else -1) := by
  have hn : n_Sum x = x.f0.size + x.f1.size := rfl
  unfold good87 at hg
  obtain ⟨g0, g1⟩ := hg
  unfold laws_szSum.f
  generalize n_Sum x = N at *
  have g0 : x.f0.size ≤ 9223372036854775807 := g0
  rw [wrap_id (a - (x.f0.size : Int)) (by omega) (by omega)]
  by_cases c0 : a - (x.f0.size : Int) < 0
  · rw [if_pos c0, if_neg (by omega)]
  rw [if_neg c0]
  have g1 : x.f1.size ≤ 9223372036854775807 := g1
  rw [wrap_id (a - (x.f0.size : Int) - (x.f1.size : Int)) (by omega) (by omega)]
  by_cases c1 : a - (x.f0.size : Int) - (x.f1.size : Int) < 0
  · rw [if_pos c1, if_neg (by omega)]
  rw [if_neg c1]
  rw [if_pos (by omega)]; congr 1; omega
theorem to_Sum (x : S87) : laws_toSum.f x.f0 x.f1 = some ((cv_Sum x).f0, (cv_Sum x).f1) := by
  rfl
theorem m_cv_Sum (x : S87) : m_Sum (cv_Sum x) = n_Sum x := by
  simp only [m_Sum, n_Sum, cv_Sum]
theorem eq_Sum (x : S88) : laws_eqSum.f x.f0 x.f1 x.f0 x.f1 = some true := by
  unfold laws_eqSum.f
  simp [*]
theorem rdl_Sum (l : List S87) (n : Nat) (h : n < l.length) : rd_T87 l (n : Int) = l[n]'h := by unfold rd_T87; rw [Int.toNat_natCast]; simp [List.getD, List.getElem?_eq_getElem h]
theorem rdi_Sum (l : List S88) (n : Nat) (h : n < l.length) : rd_T88 l (n : Int) = l[n]'h := by unfold rd_T88; rw [Int.toNat_natCast]; simp [List.getD, List.getElem?_eq_getElem h]
theorem szS_Sum_l (l : List S87) (hl : l.length ≤ 9223372036854775807) (hg : ∀ x ∈ l, good87 x) (d : Nat) : ∀ (k n : Nat) (a : Int), n + d = l.length → d + totL n_Sum (l.drop n) < k → 0 ≤ a → a ≤ 1048576 →
    laws_szSumS.l0 k l a n = some (if (totL n_Sum (l.drop n) : Int) ≤ a then a - totL n_Sum (l.drop n) else -1) := by
  induction d with
  | zero =>
    intro k n a hn hk h0 h1
    obtain ⟨k, rfl⟩ : ∃ m, k = m + 1 := ⟨k - 1, by omega⟩
    simp only [laws_szSumS.l0]
    rw [if_neg (by omega), List.drop_of_length_le (by omega), if_pos (by simp [totL]; omega)]; simp [totL]
  | succ d ih =>
    intro k n a hn hk h0 h1
    obtain ⟨k, rfl⟩ : ∃ m, k = m + 1 := ⟨k - 1, by omega⟩
    have hlt : n < l.length := by omega
    have ht := totL_drop n_Sum l n hlt
    simp only [laws_szSumS.l0]
    rw [if_pos (by omega), if_pos (by omega), rdl_Sum l n hlt, sz_Sum (l[n]'hlt) (hg _ (List.getElem_mem hlt)) a h0 h1, wrap_succ n (by omega)]
    simp only [Option.bind_some]
    by_cases h : (n_Sum (l[n]'hlt) : Int) ≤ a
    · rw [if_pos h, if_neg (by omega), ih k (n + 1) _ (by omega) (by omega) (by omega) (by omega)]
      congr 1
      split <;> split <;> omega
    · rw [if_neg h, if_pos (by decide), if_neg (by omega)]
theorem szS_Sum (l : List S87) (hg : GoodL good87 l) (k : Nat) (a : Int) (hk : l.length + totL n_Sum l < k) (h0 : 0 ≤ a) (h1 : a ≤ 1048576) :
    laws_szSumS.f k l a = some (if ((l.length + totL n_Sum l : Nat) : Int) ≤ a then a - ((l.length + totL n_Sum l : Nat) : Int) else -1) := by
  have hl := hg.1
  unfold laws_szSumS.f
  rw [wrap_id (a - (l.length : Int)) (by omega) (by omega)]
  by_cases h : a - (l.length : Int) < 0
  · rw [if_pos h, if_neg (by omega)]
  · rw [if_neg h]
    have := szS_Sum_l l hg.1 hg.2 l.length k 0 (a - (l.length : Int)) (by omega) (by simpa using hk) (by omega) (by omega)
    simp only [Int.natCast_zero, List.drop_zero] at this
    rw [this]; congr 1
    split <;> split <;> omega
theorem toS_Sum_l (l : List S87) (hl : l.length + totL n_Sum l ≤ 1048576) (d : Nat) : ∀ (k n : Nat), n + d = l.length → d + totL n_Sum (l.drop n) < k →
    laws_toSumS.l0 k l ((l.map cv_Sum).take n ++ List.replicate d z88) n = some (l.map cv_Sum) := by
  induction d with
  | zero =>
    intro k n hn hk
    obtain ⟨k, rfl⟩ : ∃ m, k = m + 1 := ⟨k - 1, by omega⟩
    simp only [laws_toSumS.l0]
    rw [if_neg (by omega), List.take_of_length_le (by rw [List.length_map]; omega)]; simp
  | succ d ih =>
    intro k n hn hk
    obtain ⟨k, rfl⟩ : ∃ m, k = m + 1 := ⟨k - 1, by omega⟩
    have hlt : n < l.length := by omega
    have ht := totL_drop n_Sum l n hlt
    have hm := totL_mem n_Sum l _ (List.getElem_mem hlt)
    have hlen : ((l.map cv_Sum).take n ++ List.replicate (d + 1) z88).length = l.length := by simp; omega
    simp only [laws_toSumS.l0]
    rw [hlen, if_pos (by omega), if_pos (by omega), rdl_Sum l n hlt, to_Sum (l[n]'hlt)]
    simp only [Option.bind_some]
    rw [if_pos (by omega)]
    show laws_toSumS.l0 k l (((l.map cv_Sum).take n ++ List.replicate (d + 1) z88).set (n : Int).toNat (cv_Sum (l[n]'hlt))) (wrap64 ((n : Int) + 1)) = _
    have e : cv_Sum (l[n]'hlt) = (l.map cv_Sum)[n]'(by rw [List.length_map]; exact hlt) := by rw [List.getElem_map]
    rw [Int.toNat_natCast, e, set_take (l.map cv_Sum) _ n d (by rw [List.length_map]; exact hn), wrap_succ n (by omega)]
    exact ih k (n + 1) (by omega) (by omega)
theorem toS_Sum (l : List S87) (k : Nat) (hk : l.length + totL n_Sum l < k) (hl : l.length + totL n_Sum l ≤ 1048576) : laws_toSumS.f k l = some (l.map cv_Sum) := by
  unfold laws_toSumS.f
  rw [if_pos (by omega), if_pos (by omega), Int.toNat_natCast]
  have := toS_Sum_l l hl l.length k 0 (by omega) (by simpa using hk)
  simpa using this
theorem totL_map_Sum (l : List S87) : totL m_Sum (l.map cv_Sum) = totL n_Sum l := by
  unfold totL; rw [List.map_map]; exact congrArg List.sum (List.map_congr_left fun x _ => m_cv_Sum x)
theorem eqS_Sum_l (l : List S88) (hl : l.length + totL m_Sum l ≤ 1048576) (d : Nat) : ∀ (k n : Nat), n + d = l.length → d + totL m_Sum (l.drop n) < k →
    laws_eqSumS.l0 k l l n = some true := by
  induction d with
  | zero =>
    intro k n hn hk
    obtain ⟨k, rfl⟩ : ∃ m, k = m + 1 := ⟨k - 1, by omega⟩
    simp only [laws_eqSumS.l0]
    rw [if_neg (by omega)]
  | succ d ih =>
    intro k n hn hk
    obtain ⟨k, rfl⟩ : ∃ m, k = m + 1 := ⟨k - 1, by omega⟩
    have hlt : n < l.length := by omega
    have ht := totL_drop m_Sum l n hlt
    have hm := totL_mem m_Sum l _ (List.getElem_mem hlt)
    simp only [laws_eqSumS.l0]
    rw [if_pos (by omega), if_pos (by omega), if_pos (by omega), rdi_Sum l n hlt, eq_Sum (l[n]'hlt)]
    simp only [Option.bind_some]
    rw [if_pos trivial, wrap_succ n (by omega)]
    exact ih k (n + 1) (by omega) (by omega)
theorem eqS_Sum (l : List S88) (k : Nat) (hk : l.length + totL m_Sum l < k) (hl : l.length + totL m_Sum l ≤ 1048576) : laws_eqSumS.f k l l = some true := by
  unfold laws_eqSumS.f
  rw [if_pos rfl]
  have := eqS_Sum_l l hl l.length k 0 (by omega) (by simpa using hk)
  simpa using this
/-! ### the laws' own helpers on Pack -/
def n_Pack (x : S157) : Nat := x.f0.size + x.f1.size + x.f2.size + (x.f3.length + totL n_Sum x.f3) + (x.f5.length + totS x.f5)
def m_Pack (x : S124) : Nat := x.f0.size + x.f1.size + x.f2.size + (x.f3.length + totL m_Sum x.f3) + (x.f5.length + totS x.f5)
def cv_Pack (x : S157) : S124 := ⟨x.f0, x.f1, x.f2, x.f3.map cv_Sum, x.f4, x.f5⟩
theorem sz_Pack (x : S157) (hg : good157 x) (k : Nat) (a : Int) (hk : n_Pack x < k) (h0 : 0 ≤ a) (h1 : a ≤ 1048576) :
    laws_szPack.f k x.f0 x.f1 x.f2 x.f3 x.f4 x.f5 a = some (if (n_Pack x : Int) ≤ a then a - (n_Pack x : Int) else -1) := by
  have hn : n_Pack x = x.f0.size + x.f1.size + x.f2.size + (x.f3.length + totL n_Sum x.f3) + (x.f5.length + totS x.f5) := rfl
  unfold good157 at hg
  obtain ⟨g0, g1, g2, g3, g4, g5⟩ := hg
  unfold laws_szPack.f
  generalize n_Pack x = N at *
  have g0 : x.f0.size ≤ 9223372036854775807 := g0
  rw [wrap_id (a - (x.f0.size : Int)) (by omega) (by omega)]
  by_cases c0 : a - (x.f0.size : Int) < 0
  · rw [if_pos c0, if_neg (by omega)]
  rw [if_neg c0]
  have g1 : x.f1.size ≤ 9223372036854775807 := g1
  rw [wrap_id (a - (x.f0.size : Int) - (x.f1.size : Int)) (by omega) (by omega)]
  by_cases c1 : a - (x.f0.size : Int) - (x.f1.size : Int) < 0
  · rw [if_pos c1, if_neg (by omega)]
  rw [if_neg c1]
  have g2 : x.f2.size ≤ 9223372036854775807 := g2
  rw [wrap_id (a - (x.f0.size : Int) - (x.f1.size : Int) - (x.f2.size : Int)) (by omega) (by omega)]
  by_cases c2 : a - (x.f0.size : Int) - (x.f1.size : Int) - (x.f2.size : Int) < 0
  · rw [if_pos c2, if_neg (by omega)]
  rw [if_neg c2]
  rw [szS_Sum x.f3 g3 k (a - (x.f0.size : Int) - (x.f1.size : Int) - (x.f2.size : Int)) (by omega) (by omega) (by omega)]; simp only [Option.bind_some]
  by_cases c3 : ((x.f3.length + totL n_Sum x.f3 : Nat) : Int) ≤ a - (x.f0.size : Int) - (x.f1.size : Int) - (x.f2.size : Int)
  rotate_left
  · rw [if_neg c3, if_pos (by decide), if_neg (by omega)]
  rw [if_pos c3, if_neg (by omega)]
  rw [sz_str x.f5 g5.1 g5.2 k (a - (x.f0.size : Int) - (x.f1.size : Int) - (x.f2.size : Int) - ((x.f3.length + totL n_Sum x.f3 : Nat) : Int)) (by omega) (by omega) (by omega)]; simp only [Option.bind_some]
  by_cases c5 : ((x.f5.length + totS x.f5 : Nat) : Int) ≤ a - (x.f0.size : Int) - (x.f1.size : Int) - (x.f2.size : Int) - ((x.f3.length + totL n_Sum x.f3 : Nat) : Int)
  rotate_left
  · rw [if_neg c5, if_pos (by decide), if_neg (by omega)]
  rw [if_pos c5, if_neg (by omega)]
  rw [if_pos (by omega)]; congr 1; omega
theorem to_Pack (x : S157) (k : Nat) (hk : n_Pack x < k) (hl : n_Pack x ≤ 1048576) : laws_toPack.f k x.f0 x.f1 x.f2 x.f3 x.f4 x.f5 = some ((cv_Pack x).f0, (cv_Pack x).f1, (cv_Pack x).f2, (cv_Pack x).f3, (cv_Pack x).f4, (cv_Pack x).f5) := by
  have hn : n_Pack x = x.f0.size + x.f1.size + x.f2.size + (x.f3.length + totL n_Sum x.f3) + (x.f5.length + totS x.f5) := rfl
  unfold laws_toPack.f
  generalize n_Pack x = N at *
  rw [toS_Sum x.f3 k (by omega) (by omega)]; simp only [Option.bind_some]
  rw [to_str x.f5 k (by omega) (by omega)]; simp only [Option.bind_some]
  rfl
theorem m_cv_Pack (x : S157) : m_Pack (cv_Pack x) = n_Pack x := by
  simp only [m_Pack, n_Pack, cv_Pack, List.length_map, totL_map_Sum]
theorem eq_Pack (x : S124) (k : Nat) (hk : m_Pack x < k) (hl : m_Pack x ≤ 1048576) : laws_eqPack.f k x.f0 x.f1 x.f2 x.f3 x.f4 x.f5 x.f0 x.f1 x.f2 x.f3 x.f4 x.f5 = some true := by
  have hn : m_Pack x = x.f0.size + x.f1.size + x.f2.size + (x.f3.length + totL m_Sum x.f3) + (x.f5.length + totS x.f5) := rfl
  unfold laws_eqPack.f
  generalize m_Pack x = N at *
  have := eqS_Sum x.f3 k (by omega) (by omega)
  have := eq_str x.f5 x.f5 k (by omega) (by omega)
  simp [*]
theorem rdl_Pack (l : List S157) (n : Nat) (h : n < l.length) : rd_T157 l (n : Int) = l[n]'h := by unfold rd_T157; rw [Int.toNat_natCast]; simp [List.getD, List.getElem?_eq_getElem h]
theorem rdi_Pack (l : List S124) (n : Nat) (h : n < l.length) : rd_T124 l (n : Int) = l[n]'h := by unfold rd_T124; rw [Int.toNat_natCast]; simp [List.getD, List.getElem?_eq_getElem h]
theorem szS_Pack_l (l : List S157) (hl : l.length ≤ 9223372036854775807) (hg : ∀ x ∈ l, good157 x) (d : Nat) : ∀ (k n : Nat) (a : Int), n + d = l.length → d + totL n_Pack (l.drop n) < k → 0 ≤ a → a ≤ 1048576 →
    laws_szPackS.l0 k l a n = some (if (totL n_Pack (l.drop n) : Int) ≤ a then a - totL n_Pack (l.drop n) else -1) := by
  induction d with
  | zero =>
    intro k n a hn hk h0 h1
    obtain ⟨k, rfl⟩ : ∃ m, k = m + 1 := ⟨k - 1, by omega⟩
    simp only [laws_szPackS.l0]
    rw [if_neg (by omega), List.drop_of_length_le (by omega), if_pos (by simp [totL]; omega)]; simp [totL]
  | succ d ih =>
    intro k n a hn hk h0 h1
    obtain ⟨k, rfl⟩ : ∃ m, k = m + 1 := ⟨k - 1, by omega⟩
    have hlt : n < l.length := by omega
    have ht := totL_drop n_Pack l n hlt
    simp only [laws_szPackS.l0]
    rw [if_pos (by omega), if_pos (by omega), rdl_Pack l n hlt, sz_Pack (l[n]'hlt) (hg _ (List.getElem_mem hlt)) k a (by omega) h0 h1, wrap_succ n (by omega)]
    simp only [Option.bind_some]
    by_cases h : (n_Pack (l[n]'hlt) : Int) ≤ a
    · rw [if_pos h, if_neg (by omega), ih k (n + 1) _ (by omega) (by omega) (by omega) (by omega)]
      congr 1
      split <;> split <;> omega
    · rw [if_neg h, if_pos (by decide), if_neg (by omega)]
theorem szS_Pack (l : List S157) (hg : GoodL good157 l) (k : Nat) (a : Int) (hk : l.length + totL n_Pack l < k) (h0 : 0 ≤ a) (h1 : a ≤ 1048576) :
    laws_szPackS.f k l a = some (if ((l.length + totL n_Pack l : Nat) : Int) ≤ a then a - ((l.length + totL n_Pack l : Nat) : Int) else -1) := by
  have hl := hg.1
  unfold laws_szPackS.f
  rw [wrap_id (a - (l.length : Int)) (by omega) (by omega)]
  by_cases h : a - (l.length : Int) < 0
  · rw [if_pos h, if_neg (by omega)]
  · rw [if_neg h]
    have := szS_Pack_l l hg.1 hg.2 l.length k 0 (a - (l.length : Int)) (by omega) (by simpa using hk) (by omega) (by omega)
    simp only [Int.natCast_zero, List.drop_zero] at this
    rw [this]; congr 1
    split <;> split <;> omega
theorem toS_Pack_l (l : List S157) (hl : l.length + totL n_Pack l ≤ 1048576) (d : Nat) : ∀ (k n : Nat), n + d = l.length → d + totL n_Pack (l.drop n) < k →
    laws_toPackS.l0 k l ((l.map cv_Pack).take n ++ List.replicate d z124) n = some (l.map cv_Pack) := by
  induction d with
  | zero =>
    intro k n hn hk
    obtain ⟨k, rfl⟩ : ∃ m, k = m + 1 := ⟨k - 1, by omega⟩
    simp only [laws_toPackS.l0]
    rw [if_neg (by omega), List.take_of_length_le (by rw [List.length_map]; omega)]; simp
  | succ d ih =>
    intro k n hn hk
    obtain ⟨k, rfl⟩ : ∃ m, k = m + 1 := ⟨k - 1, by omega⟩
    have hlt : n < l.length := by omega
    have ht := totL_drop n_Pack l n hlt
    have hm := totL_mem n_Pack l _ (List.getElem_mem hlt)
    have hlen : ((l.map cv_Pack).take n ++ List.replicate (d + 1) z124).length = l.length := by simp; omega
    simp only [laws_toPackS.l0]
    rw [hlen, if_pos (by omega), if_pos (by omega), rdl_Pack l n hlt, to_Pack (l[n]'hlt) k (by omega) (by omega)]
    simp only [Option.bind_some]
    rw [if_pos (by omega)]
    show laws_toPackS.l0 k l (((l.map cv_Pack).take n ++ List.replicate (d + 1) z124).set (n : Int).toNat (cv_Pack (l[n]'hlt))) (wrap64 ((n : Int) + 1)) = _
    have e : cv_Pack (l[n]'hlt) = (l.map cv_Pack)[n]'(by rw [List.length_map]; exact hlt) := by rw [List.getElem_map]
    rw [Int.toNat_natCast, e, set_take (l.map cv_Pack) _ n d (by rw [List.length_map]; exact hn), wrap_succ n (by omega)]
    exact ih k (n + 1) (by omega) (by omega)
theorem toS_Pack (l : List S157) (k : Nat) (hk : l.length + totL n_Pack l < k) (hl : l.length + totL n_Pack l ≤ 1048576) : laws_toPackS.f k l = some (l.map cv_Pack) := by
  unfold laws_toPackS.f
  rw [if_pos (by omega), if_pos (by omega), Int.toNat_natCast]
  have := toS_Pack_l l hl l.length k 0 (by omega) (by simpa using hk)
  simpa using this
theorem totL_map_Pack (l : List S157) : totL m_Pack (l.map cv_Pack) = totL n_Pack l := by
  unfold totL; rw [List.map_map]; exact congrArg List.sum (List.map_congr_left fun x _ => m_cv_Pack x)
theorem eqS_Pack_l (l : List S124) (hl : l.length + totL m_Pack l ≤ 1048576) (d : Nat) : ∀ (k n : Nat), n + d = l.length → d + totL m_Pack (l.drop n) < k →
    laws_eqPackS.l0 k l l n = some true := by
  induction d with
  | zero =>
    intro k n hn hk
    obtain ⟨k, rfl⟩ : ∃ m, k = m + 1 := ⟨k - 1, by omega⟩
    simp only [laws_eqPackS.l0]
    rw [if_neg (by omega)]
  | succ d ih =>
    intro k n hn hk
    obtain ⟨k, rfl⟩ : ∃ m, k = m + 1 := ⟨k - 1, by omega⟩
    have hlt : n < l.length := by omega
    have ht := totL_drop m_Pack l n hlt
    have hm := totL_mem m_Pack l _ (List.getElem_mem hlt)
    simp only [laws_eqPackS.l0]
    rw [if_pos (by omega), if_pos (by omega), if_pos (by omega), rdi_Pack l n hlt, eq_Pack (l[n]'hlt) k (by omega) (by omega)]
    simp only [Option.bind_some]
    rw [if_pos trivial, wrap_succ n (by omega)]
    exact ih k (n + 1) (by omega) (by omega)
theorem eqS_Pack (l : List S124) (k : Nat) (hk : l.length + totL m_Pack l < k) (hl : l.length + totL m_Pack l ≤ 1048576) : laws_eqPackS.f k l l = some true := by
  unfold laws_eqPackS.f
  rw [if_pos rfl]
  have := eqS_Pack_l l hl l.length k 0 (by omega) (by simpa using hk)
  simpa using this
/-! ### the laws' own helpers on Graph -/
def n_Graph (x : S72) : Nat := (x.f0.length + totS x.f0) + (x.f1.length + totL n_Pack x.f1)
theorem sz_Graph (x : S72) (hg : good72 x) (k : Nat) (a : Int) (hk : n_Graph x < k) (h0 : 0 ≤ a) (h1 : a ≤ 1048576) :
    laws_szGraph.f k x.f0 x.f1 a = some (if (n_Graph x : Int) ≤ a then a - (n_Graph x : Int) else -1) := by
  have hn : n_Graph x = (x.f0.length + totS x.f0) + (x.f1.length + totL n_Pack x.f1) := rfl
  unfold good72 at hg
  obtain ⟨g0, g1⟩ := hg
  unfold laws_szGraph.f
  generalize n_Graph x = N at *
  rw [sz_str x.f0 g0.1 g0.2 k (a) (by omega) (by omega) (by omega)]; simp only [Option.bind_some]
  by_cases c0 : ((x.f0.length + totS x.f0 : Nat) : Int) ≤ a
  rotate_left
  · rw [if_neg c0, if_pos (by decide), if_neg (by omega)]
  rw [if_pos c0, if_neg (by omega)]
  rw [szS_Pack x.f1 g1 k (a - ((x.f0.length + totS x.f0 : Nat) : Int)) (by omega) (by omega) (by omega)]; simp only [Option.bind_some]
  by_cases c1 : ((x.f1.length + totL n_Pack x.f1 : Nat) : Int) ≤ a - ((x.f0.length + totS x.f0 : Nat) : Int)
  rotate_left
  · rw [if_neg c1, if_pos (by decide), if_neg (by omega)]
  rw [if_pos c1, if_neg (by omega)]
  rw [if_pos (by omega)]; congr 1; omega
theorem to_Graph (x : S72) (k : Nat) (hk : n_Graph x < k) (hl : n_Graph x ≤ 1048576) : laws_toGraph.f k x.f0 x.f1 = some (x.f0, x.f1.map cv_Pack) := by
  have hn : n_Graph x = (x.f0.length + totS x.f0) + (x.f1.length + totL n_Pack x.f1) := rfl
  unfold laws_toGraph.f
  generalize n_Graph x = N at *
  rw [to_str x.f0 k (by omega) (by omega)]; simp only [Option.bind_some]
  rw [toS_Pack x.f1 k (by omega) (by omega)]; simp only [Option.bind_some]
theorem eq_Graph (y0 : List ByteArray) (y1 : List S124) (k : Nat) (hk : (y0.length + totS y0) + (y1.length + totL m_Pack y1) < k) (hl : (y0.length + totS y0) + (y1.length + totL m_Pack y1) ≤ 1048576) : laws_eqGraph.f k y0 y1 y0 y1 = some true := by
  unfold laws_eqGraph.f
  have := eq_str y0 y0 k (by omega) (by omega)
  have := eqS_Pack y1 k (by omega) (by omega)
  simp [*]
/-! ### keys and short names -/
theorem B_data_of2 (s : ByteArray) : B s.data.toList = s := (B_of s).symm
def lastIx (l : List UInt8) (c : UInt8) : Nat → Option Nat
  | 0 => none
  | n + 1 => if l[n]? = some c then some n else lastIx l c n
theorem lastIx_lt (l : List UInt8) (c : UInt8) (n : Nat) : ∀ i, lastIx l c n = some i → i < n ∧ i < l.length := by
  induction n with
  | zero => intro i h; cases h
  | succ n ih =>
    intro i h
    unfold lastIx at h
    split at h
    · rename_i hq
      cases h
      exact ⟨by omega, (List.getElem?_eq_some_iff.1 hq).1⟩
    · have := ih i h; omega
def splitR (l : List UInt8) : Option Nat → ByteArray × ByteArray
  | none => (⟨#[]⟩, ⟨#[]⟩)
  | some i => (B (l.take i), B (l.drop (i + 1)))
def splitK (s : ByteArray) : ByteArray × ByteArray := splitR s.data.toList (lastIx s.data.toList 64 s.data.toList.length)
theorem splitK_size (s : ByteArray) : (splitK s).1.size + (splitK s).2.size ≤ s.size := by
  unfold splitK
  cases h : lastIx s.data.toList 64 s.data.toList.length with
  | none => exact Nat.zero_le _
  | some i =>
    have := lastIx_lt _ _ _ i h
    simp only [splitR, B_size, List.length_take, List.length_drop]
    rw [data_len] at this ⊢; omega
def shortN (ps : List S124) (pr : ByteArray × ByteArray) : ByteArray := if ps.countP (fun p => decide (p.f0.toList = pr.1.toList)) = 1 then pr.1 else (pr.1 ++ (⟨#[32]⟩ : ByteArray)) ++ pr.2
def keyOf (p : S124) : ByteArray := (p.f0 ++ (⟨#[64]⟩ : ByteArray)) ++ p.f1
theorem keyOf_size (p : S124) : (keyOf p).size = p.f0.size + 1 + p.f1.size := by unfold keyOf; rw [ByteArray.size_append, ByteArray.size_append]; rfl
def fromSh (ps : List S124) (s : ByteArray) : List S124 → ByteArray
  | [] => ⟨#[]⟩
  | p :: r => if (shortN ps (splitK (keyOf p))).toList = s.toList then keyOf p else fromSh ps s r
theorem bt_at64 (l : List UInt8) (n : Nat) (h : n < l.length) : (bt (B l) (n : Int) = 64) ↔ l[n]? = some 64 := by
  rw [bt_B l n h, List.getElem?_eq_getElem h]
  constructor
  · intro g; congr 1; apply UInt8.toNat_inj.1; show _ = 64; omega
  · intro g; injection g with g; rw [g]; rfl
theorem wrap_pred (n : Nat) (h : n < 9223372036854775807) : wrap64 (((n + 1 : Nat) : Int) - 1) = (n : Int) := by rw [wrap_id _ (by omega) (by omega)]; omega

theorem sp_split_l (l : List UInt8) (hl : l.length ≤ 140737488355328) (n : Nat) : ∀ (hn : n ≤ l.length) (k : Nat), n < k → spec_SplitKey.l0 k (B l) (wrap64 ((n : Int) - 1)) = some (splitR l (lastIx l 64 n)) := by
  induction n with
  | zero =>
    intro hn k hk
    obtain ⟨k, rfl⟩ : ∃ m, k = m + 1 := ⟨k - 1, by omega⟩
    simp only [spec_SplitKey.l0]
    rw [wrap_id _ (by omega) (by omega), if_neg (by omega)]; rfl
  | succ n ih =>
    intro hn k hk
    obtain ⟨k, rfl⟩ : ∃ m, k = m + 1 := ⟨k - 1, by omega⟩
    simp only [spec_SplitKey.l0]
    rw [wrap_pred n (by omega), B_size, if_pos (by omega), if_pos (by omega), if_pos (by omega), wrap_succ n (by omega)]
    by_cases h : l[n]? = some 64
    · rw [if_pos ((bt_at64 l n (by omega)).2 h), if_pos (by omega), if_pos (by omega), if_pos (by omega), Int.toNat_natCast, Int.toNat_natCast, B_extract, B_extract, lastIx, if_pos h, splitR]
      simp [List.take_of_length_le]
    · rw [if_neg (fun g => h ((bt_at64 l n (by omega)).1 g)), ih (by omega) k (by omega), lastIx, if_neg h]
theorem sp_split (s : ByteArray) (hs : s.size ≤ 140737488355328) (k : Nat) (hk : s.size < k) : spec_SplitKey.f k s = some (splitK s) := by
  have h := sp_split_l s.data.toList (by rw [data_len]; omega) s.data.toList.length (Nat.le_refl _) k (by rw [data_len]; omega)
  rw [B_data_of2] at h
  unfold spec_SplitKey.f splitK
  rw [← h, data_len]
theorem sp_short_l (ps : List S124) (a b : ByteArray) (tp : List ByteArray) (hab : a.size + b.size ≤ 140737488355328) (hp : ps.length ≤ 140737488355328) (d : Nat) : ∀ (k n c : Nat), n + d = ps.length → d < k → c ≤ n →
    spec_ShortName.l0 k a b c n tp ps = some (if c + (ps.drop n).countP (fun p => decide (p.f0.toList = a.toList)) = 1 then a else (a ++ (⟨#[32]⟩ : ByteArray)) ++ b) := by
  induction d with
  | zero =>
    intro k n c hn hk hc
    obtain ⟨k, rfl⟩ : ∃ m, k = m + 1 := ⟨k - 1, by omega⟩
    simp only [spec_ShortName.l0]
    rw [if_neg (by omega), List.drop_of_length_le (by omega), List.countP_nil]
    by_cases h : c = 1
    · rw [if_pos (by omega), if_pos (by omega)]
    · rw [if_neg (by omega), if_pos (by omega), if_pos (by rw [ByteArray.size_append]; show _ + 1 + _ ≤ _; omega), if_neg (by omega)]
  | succ d ih =>
    intro k n c hn hk hc
    obtain ⟨k, rfl⟩ : ∃ m, k = m + 1 := ⟨k - 1, by omega⟩
    have hlt : n < ps.length := by omega
    simp only [spec_ShortName.l0]
    rw [if_pos (by omega), if_pos (by omega), rdi_Pack ps n hlt, wrap_succ n (by omega), wrap_succ c (by omega), drop_at ps n hlt, List.countP_cons]
    by_cases h : (ps[n]'hlt).f0.toList = a.toList
    · have e : (if decide ((ps[n]'hlt).f0.toList = a.toList) = true then 1 else 0) = 1 := by simp [h]
      rw [if_pos h, ih k (n + 1) (c + 1) (by omega) (by omega) (by omega), e, Nat.add_assoc c, Nat.add_comm 1]
    · have e : (if decide ((ps[n]'hlt).f0.toList = a.toList) = true then 1 else 0) = 0 := by simp [h]
      rw [if_neg h, ih k (n + 1) c (by omega) (by omega) (by omega), e]; rfl
theorem sp_short (ps : List S124) (tp : List ByteArray) (s : ByteArray) (hs : s.size ≤ 140737488355328) (hp : ps.length ≤ 140737488355328) (k : Nat) (hk : s.size + ps.length < k) : spec_ShortName.f k tp ps s = some (shortN ps (splitK s)) := by
  unfold spec_ShortName.f
  have hz := splitK_size s
  rw [sp_split s hs k (by omega)]; simp only [Option.bind_some]
  have := sp_short_l ps (splitK s).1 (splitK s).2 tp (by omega) hp ps.length k 0 0 (by omega) (by omega) (by omega)
  simp only [Int.natCast_zero, List.drop_zero, Nat.zero_add] at this
  rw [this]; rfl

def ixI : Option Nat → Int
  | none => -1
  | some i => i
theorem ip_last_l (l : List UInt8) (hl : l.length ≤ 140737488355328) (n : Nat) : ∀ (hn : n ≤ l.length) (k : Nat), n < k → bytealg_LastIndexByteString.l0 k (B l) 64 (wrap64 ((n : Int) - 1)) = some (ixI (lastIx l 64 n)) := by
  induction n with
  | zero =>
    intro hn k hk
    obtain ⟨k, rfl⟩ : ∃ m, k = m + 1 := ⟨k - 1, by omega⟩
    simp only [bytealg_LastIndexByteString.l0]
    rw [wrap_id _ (by omega) (by omega), if_neg (by omega)]; rfl
  | succ n ih =>
    intro hn k hk
    obtain ⟨k, rfl⟩ : ∃ m, k = m + 1 := ⟨k - 1, by omega⟩
    simp only [bytealg_LastIndexByteString.l0]
    rw [wrap_pred n (by omega), B_size, if_pos (by omega), if_pos (by omega), if_pos (by omega)]
    by_cases h : l[n]? = some 64
    · rw [if_pos ((bt_at64 l n (by omega)).2 h), lastIx, if_pos h]; rfl
    · rw [if_neg (fun g => h ((bt_at64 l n (by omega)).1 g)), ih (by omega) k (by omega), lastIx, if_neg h]
theorem ip_split (s : ByteArray) (hs : s.size ≤ 140737488355328) (k : Nat) (hk : s.size < k) : impl_SplitKey.f k s = some (splitK s) := by
  have h := ip_last_l s.data.toList (by rw [data_len]; omega) s.data.toList.length (Nat.le_refl _) k (by rw [data_len]; omega)
  rw [B_data_of2] at h
  unfold impl_SplitKey.f strings_LastIndex.f bytealg_LastIndexByteString.f splitK
  have e1 : ((⟨#[64]⟩ : ByteArray).size : Int) = 1 := rfl
  have e2 : bt (⟨#[64]⟩ : ByteArray) 0 = 64 := rfl
  rw [e1, e2, if_neg (by decide), if_pos rfl, if_pos (by decide)]
  rw [data_len] at h ⊢
  rw [h]; simp only [Option.bind_some]
  cases hq : lastIx s.data.toList 64 s.size with
  | none => rw [if_pos (by decide)]; rfl
  | some i =>
    have hi := lastIx_lt _ _ _ i hq
    rw [data_len] at hi
    rw [show ixI (some i) = (i : Int) from rfl, if_neg (by omega), if_pos (by omega), if_pos (by omega), wrap_succ i (by omega), if_pos (by omega), if_pos (by omega), Int.toNat_natCast, Int.toNat_natCast]
    conv => lhs; rw [← B_data_of2 s]
    rw [B_extract, B_extract, splitR, B_size]
    simp [List.take_of_length_le]
theorem ip_short_l (ps : List S124) (a b : ByteArray) (hab : a.size + b.size ≤ 140737488355328) (hp : ps.length ≤ 140737488355328) (d : Nat) : ∀ (k n c : Nat), n + d = ps.length → d < k → c ≤ n →
    impl_ShortName.l0 k a b c ps ps.length n = some (if c + (ps.drop n).countP (fun p => decide (p.f0.toList = a.toList)) = 1 then a else (a ++ (⟨#[32]⟩ : ByteArray)) ++ b) := by
  induction d with
  | zero =>
    intro k n c hn hk hc
    obtain ⟨k, rfl⟩ : ∃ m, k = m + 1 := ⟨k - 1, by omega⟩
    simp only [impl_ShortName.l0]
    rw [if_neg (by omega), List.drop_of_length_le (by omega), List.countP_nil]
    by_cases h : c = 1
    · rw [if_pos (by omega), if_pos (by omega)]
    · rw [if_neg (by omega), if_pos (by omega), if_pos (by rw [ByteArray.size_append]; show _ + 1 + _ ≤ _; omega), if_neg (by omega)]
  | succ d ih =>
    intro k n c hn hk hc
    obtain ⟨k, rfl⟩ : ∃ m, k = m + 1 := ⟨k - 1, by omega⟩
    have hlt : n < ps.length := by omega
    simp only [impl_ShortName.l0]
    rw [if_pos (by omega), if_pos (by omega), if_pos (by omega), rdi_Pack ps n hlt, wrap_succ n (by omega), wrap_succ c (by omega), drop_at ps n hlt, List.countP_cons]
    by_cases h : (ps[n]'hlt).f0.toList = a.toList
    · have e : (if decide ((ps[n]'hlt).f0.toList = a.toList) = true then 1 else 0) = 1 := by simp [h]
      rw [if_pos h, ih k (n + 1) (c + 1) (by omega) (by omega) (by omega), e, Nat.add_assoc c, Nat.add_comm 1]
    · have e : (if decide ((ps[n]'hlt).f0.toList = a.toList) = true then 1 else 0) = 0 := by simp [h]
      rw [if_neg h, ih k (n + 1) c (by omega) (by omega) (by omega), e]; rfl
theorem ip_short (ps : List S124) (tp : List ByteArray) (s : ByteArray) (hs : s.size ≤ 140737488355328) (hp : ps.length ≤ 140737488355328) (k : Nat) (hk : s.size + ps.length < k) : impl_ShortName.f k tp ps s = some (shortN ps (splitK s)) := by
  unfold impl_ShortName.f
  have hz := splitK_size s
  rw [ip_split s hs k (by omega)]; simp only [Option.bind_some]
  have := ip_short_l ps (splitK s).1 (splitK s).2 (by omega) hp ps.length k 0 0 (by omega) (by omega) (by omega)
  simp only [Int.natCast_zero, List.drop_zero, Nat.zero_add] at this
  rw [this]; rfl

theorem sp_key (p : S124) (h0 : p.f0.size ≤ 1048576) (h1 : p.f1.size ≤ 1048576) : spec_KeyOf.f p.f0 p.f1 p.f2 p.f3 p.f4 p.f5 = some (keyOf p) := by
  unfold spec_KeyOf.f
  rw [if_pos (by omega), if_pos (by rw [ByteArray.size_append]; show _ + 1 + _ ≤ _; omega)]; rfl
theorem sp_fromsh (ps : List S124) (tp : List ByteArray) (s : ByteArray) (hp : ps.length ≤ 1048576) (hx : ∀ p ∈ ps, p.f0.size ≤ 1048576 ∧ p.f1.size ≤ 1048576) (d : Nat) : ∀ (k n : Nat), n + d = ps.length → d + 4000000 + ps.length < k →
    spec_FromShort.l0 k s n tp ps = some (fromSh ps s (ps.drop n)) := by
  induction d with
  | zero =>
    intro k n hn hk
    obtain ⟨k, rfl⟩ : ∃ m, k = m + 1 := ⟨k - 1, by omega⟩
    simp only [spec_FromShort.l0]
    rw [if_neg (by omega), List.drop_of_length_le (by omega)]; rfl
  | succ d ih =>
    intro k n hn hk
    obtain ⟨k, rfl⟩ : ∃ m, k = m + 1 := ⟨k - 1, by omega⟩
    have hlt : n < ps.length := by omega
    have hq := hx _ (List.getElem_mem hlt)
    have hz := keyOf_size (ps[n]'hlt)
    simp only [spec_FromShort.l0]
    rw [if_pos (by omega), if_pos (by omega), rdi_Pack ps n hlt, sp_key _ hq.1 hq.2]; simp only [Option.bind_some]
    rw [sp_short ps tp _ (by omega) (by omega) k (by omega), wrap_succ n (by omega), drop_at ps n hlt]; simp only [Option.bind_some]
    rw [fromSh]
    by_cases h : (shortN ps (splitK (keyOf (ps[n]'hlt)))).toList = s.toList
    · rw [if_pos h, if_pos h]
    · rw [if_neg h, if_neg h, ih k (n + 1) (by omega) (by omega)]

theorem ip_key (p : S124) (h0 : p.f0.size ≤ 1048576) (h1 : p.f1.size ≤ 1048576) : impl_KeyOf.f p.f0 p.f1 p.f2 p.f3 p.f4 p.f5 = some (keyOf p) := by
  unfold impl_KeyOf.f
  rw [if_pos (by omega), if_pos (by rw [ByteArray.size_append]; show _ + 1 + _ ≤ _; omega)]; rfl
theorem ip_fromsh (ps : List S124) (tp : List ByteArray) (s : ByteArray) (hp : ps.length ≤ 1048576) (hx : ∀ p ∈ ps, p.f0.size ≤ 1048576 ∧ p.f1.size ≤ 1048576) (d : Nat) : ∀ (k n : Nat), n + d = ps.length → d + 4000000 + ps.length < k →
    impl_FromShort.l0 k s ps ps.length n tp ps = some (fromSh ps s (ps.drop n)) := by
  induction d with
  | zero =>
    intro k n hn hk
    obtain ⟨k, rfl⟩ : ∃ m, k = m + 1 := ⟨k - 1, by omega⟩
    simp only [impl_FromShort.l0]
    rw [if_neg (by omega), List.drop_of_length_le (by omega)]; rfl
  | succ d ih =>
    intro k n hn hk
    obtain ⟨k, rfl⟩ : ∃ m, k = m + 1 := ⟨k - 1, by omega⟩
    have hlt : n < ps.length := by omega
    have hq := hx _ (List.getElem_mem hlt)
    have hz := keyOf_size (ps[n]'hlt)
    simp only [impl_FromShort.l0]
    rw [if_pos (by omega), if_pos (by omega), if_pos (by omega), rdi_Pack ps n hlt, ip_key _ hq.1 hq.2]; simp only [Option.bind_some]
    rw [ip_short ps tp _ (by omega) (by omega) k (by omega), wrap_succ n (by omega), drop_at ps n hlt]; simp only [Option.bind_some]
    rw [fromSh]
    by_cases h : (shortN ps (splitK (keyOf (ps[n]'hlt)))).toList = s.toList
    · rw [if_pos h, if_pos h]
    · rw [if_neg h, if_neg h, ih k (n + 1) (by omega) (by omega)]

theorem FnExactFromShort : laws_FnExactFromShort.Pure := by
  intro tp ps s hg _
  obtain ⟨K, hK⟩ : ∃ K, n_Graph ⟨tp, ps⟩ + 7000000 = K := ⟨_, rfl⟩
  refine ⟨K, ?_⟩
  unfold laws_FnExactFromShort.f
  by_cases hs : (s.size : Int) > 1048576
  · rw [if_pos hs]
  rw [if_neg hs, show laws_szGraph.f _ tp ps 1048576 = _ from sz_Graph ⟨tp, ps⟩ hg _ 1048576 (by omega) (by omega) (by omega)]; simp only [Option.bind_some]
  by_cases c : ((n_Graph ⟨tp, ps⟩ : Nat) : Int) ≤ 1048576
  rotate_left
  · rw [if_neg c, if_pos (by decide)]
  rw [if_pos c, if_neg (by omega), show laws_toGraph.f _ tp ps = _ from to_Graph ⟨tp, ps⟩ _ (by omega) (by omega)]; simp only [Option.bind_some]
  have hn : n_Graph ⟨tp, ps⟩ = (tp.length + totS tp) + (ps.length + totL n_Pack ps) := rfl
  have hl : (ps.map cv_Pack).length = ps.length := List.length_map _
  have ht := totL_map_Pack ps
  have hx : ∀ p ∈ ps.map cv_Pack, p.f0.size ≤ 1048576 ∧ p.f1.size ≤ 1048576 := by
    intro p hp
    have h1 := totL_mem m_Pack _ p hp
    have h2 : m_Pack p = p.f0.size + p.f1.size + p.f2.size + (p.f3.length + totL m_Sum p.f3) + (p.f5.length + totS p.f5) := rfl
    omega
  have g1 := sp_fromsh (ps.map cv_Pack) tp s (by omega) hx _ K 0 (Nat.zero_add _) (by omega)
  have g2 := ip_fromsh (ps.map cv_Pack) tp s (by omega) hx _ K 0 (Nat.zero_add _) (by omega)
  simp only [Int.natCast_zero, List.drop_zero] at g1 g2
  rw [show spec_FromShort.f _ tp (ps.map cv_Pack) s = _ from g1]; simp only [Option.bind_some]
  rw [show impl_FromShort.f _ tp (ps.map cv_Pack) s = _ from g2]; simp only [Option.bind_some]
  rw [if_pos trivial, eq_Graph _ _ _ (by rw [hl, ht]; omega) (by rw [hl, ht]; omega)]
  simp

end Go.Proofs.Ytadafhefdbfbgaa.Pure
