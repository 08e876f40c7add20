/- For every list of entries and need, the program's Resolve returns what the reference's Resolve returns, and leaves the list as it was. No condition. -/
import Derived.Test.YtoihkkkdkpllnaaPFnExactResolvex6
import Derived.Test.YtoihkkkdkpllnaaAid
namespace Go.Proofs.Ytoihkkkdkpllnaa.Pure
open Go.RowKit Go.Proofs.Ytoihkkkdkpllnaa.PFnExactResolve Go.Proofs.YtoihkkkdkpllnaaW.PrintWords Go.Proofs.YtoihkkkdkpllnaaW.PrintLast Go.Proofs.YtoihkkkdkpllnaaW.PrintMore Go.Proofs.Ytoihkkkdkpllnaa.Aid
set_option linter.unusedSimpArgs false
set_option linter.unusedVariables false
/-! ### the laws' own helpers on Need -/
def n_Need (x : S28) : Nat := x.f0.size + x.f1.size
def m_Need (x : S31) : Nat := x.f0.size + x.f1.size
def cv_Need (x : S28) : S31 := ⟨x.f0, x.f1⟩
theorem sz_Need (x : S28) (hg : good28 x) (a : Int) (h0 : 0 ≤ a) (h1 : a ≤ 1048576) :
    laws_szNeed.f x.f0 x.f1 a = some (if (n_Need x : Int) ≤ a then a - (n_Need x : Int) else -1) := by
  have hn : n_Need x = x.f0.size + x.f1.size := rfl
  unfold good28 at hg
  obtain ⟨g0, g1⟩ := hg
  unfold laws_szNeed.f
  generalize n_Need x = N at *
  have g0 : x.f0.size ≤ 9223372036854775807 := g0
  rw [wrap_id (a - (x.f0.size : Int)) (by omega) (by omega)]
  by_cases c0 : a - (x.f0.size : Int) < 0
  · rw [if_pos c0, if_neg (by omega)]
  rw [if_neg c0]
  have g1 : x.f1.size ≤ 9223372036854775807 := g1
  rw [wrap_id (a - (x.f0.size : Int) - (x.f1.size : Int)) (by omega) (by omega)]
  by_cases c1 : a - (x.f0.size : Int) - (x.f1.size : Int) < 0
  · rw [if_pos c1, if_neg (by omega)]
  rw [if_neg c1]
  rw [if_pos (by omega)]; congr 1; omega
theorem to_Need (x : S28) : laws_toNeed.f x.f0 x.f1 = some ((cv_Need x).f0, (cv_Need x).f1) := by
  rfl
theorem m_cv_Need (x : S28) : m_Need (cv_Need x) = n_Need x := by
  simp only [m_Need, n_Need, cv_Need]
theorem eq_Need (x : S31) : laws_eqNeed.f x.f0 x.f1 x.f0 x.f1 = some true := by
  unfold laws_eqNeed.f
  simp [*]
theorem rdl_Need (l : List S28) (n : Nat) (h : n < l.length) : rd_T28 l (n : Int) = l[n]'h := by unfold rd_T28; rw [Int.toNat_natCast]; simp [List.getD, List.getElem?_eq_getElem h]
theorem rdi_Need (l : List S31) (n : Nat) (h : n < l.length) : rd_T31 l (n : Int) = l[n]'h := by unfold rd_T31; rw [Int.toNat_natCast]; simp [List.getD, List.getElem?_eq_getElem h]
theorem szS_Need_l (l : List S28) (hl : l.length ≤ 9223372036854775807) (hg : ∀ x ∈ l, good28 x) (d : Nat) : ∀ (k n : Nat) (a : Int), n + d = l.length → d + totL n_Need (l.drop n) < k → 0 ≤ a → a ≤ 1048576 →
    laws_szNeedS.l0 k l a n = some (if (totL n_Need (l.drop n) : Int) ≤ a then a - totL n_Need (l.drop n) else -1) := by
  induction d with
  | zero =>
    intro k n a hn hk h0 h1
    obtain ⟨k, rfl⟩ : ∃ m, k = m + 1 := ⟨k - 1, by omega⟩
    simp only [laws_szNeedS.l0]
    rw [if_neg (by omega), List.drop_of_length_le (by omega), if_pos (by simp [totL]; omega)]; simp [totL]
  | succ d ih =>
    intro k n a hn hk h0 h1
    obtain ⟨k, rfl⟩ : ∃ m, k = m + 1 := ⟨k - 1, by omega⟩
    have hlt : n < l.length := by omega
    have ht := totL_drop n_Need l n hlt
    simp only [laws_szNeedS.l0]
    rw [if_pos (by omega), if_pos (by omega), rdl_Need l n hlt, sz_Need (l[n]'hlt) (hg _ (List.getElem_mem hlt)) a h0 h1, wrap_succ n (by omega)]
    simp only [Option.bind_some]
    by_cases h : (n_Need (l[n]'hlt) : Int) ≤ a
    · rw [if_pos h, if_neg (by omega), ih k (n + 1) _ (by omega) (by omega) (by omega) (by omega)]
      congr 1
      split <;> split <;> omega
    · rw [if_neg h, if_pos (by decide), if_neg (by omega)]
theorem szS_Need (l : List S28) (hg : GoodL good28 l) (k : Nat) (a : Int) (hk : l.length + totL n_Need l < k) (h0 : 0 ≤ a) (h1 : a ≤ 1048576) :
    laws_szNeedS.f k l a = some (if ((l.length + totL n_Need l : Nat) : Int) ≤ a then a - ((l.length + totL n_Need l : Nat) : Int) else -1) := by
  have hl := hg.1
  unfold laws_szNeedS.f
  rw [wrap_id (a - (l.length : Int)) (by omega) (by omega)]
  by_cases h : a - (l.length : Int) < 0
  · rw [if_pos h, if_neg (by omega)]
  · rw [if_neg h]
    have := szS_Need_l l hg.1 hg.2 l.length k 0 (a - (l.length : Int)) (by omega) (by simpa using hk) (by omega) (by omega)
    simp only [Int.natCast_zero, List.drop_zero] at this
    rw [this]; congr 1
    split <;> split <;> omega
theorem toS_Need_l (l : List S28) (hl : l.length + totL n_Need l ≤ 1048576) (d : Nat) : ∀ (k n : Nat), n + d = l.length → d + totL n_Need (l.drop n) < k →
    laws_toNeedS.l0 k l ((l.map cv_Need).take n ++ List.replicate d z31) n = some (l.map cv_Need) := by
  induction d with
  | zero =>
    intro k n hn hk
    obtain ⟨k, rfl⟩ : ∃ m, k = m + 1 := ⟨k - 1, by omega⟩
    simp only [laws_toNeedS.l0]
    rw [if_neg (by omega), List.take_of_length_le (by rw [List.length_map]; omega)]; simp
  | succ d ih =>
    intro k n hn hk
    obtain ⟨k, rfl⟩ : ∃ m, k = m + 1 := ⟨k - 1, by omega⟩
    have hlt : n < l.length := by omega
    have ht := totL_drop n_Need l n hlt
    have hm := totL_mem n_Need l _ (List.getElem_mem hlt)
    have hlen : ((l.map cv_Need).take n ++ List.replicate (d + 1) z31).length = l.length := by simp; omega
    simp only [laws_toNeedS.l0]
    rw [hlen, if_pos (by omega), if_pos (by omega), rdl_Need l n hlt, to_Need (l[n]'hlt)]
    simp only [Option.bind_some]
    rw [if_pos (by omega)]
    show laws_toNeedS.l0 k l (((l.map cv_Need).take n ++ List.replicate (d + 1) z31).set (n : Int).toNat (cv_Need (l[n]'hlt))) (wrap64 ((n : Int) + 1)) = _
    have e : cv_Need (l[n]'hlt) = (l.map cv_Need)[n]'(by rw [List.length_map]; exact hlt) := by rw [List.getElem_map]
    rw [Int.toNat_natCast, e, set_take (l.map cv_Need) _ n d (by rw [List.length_map]; exact hn), wrap_succ n (by omega)]
    exact ih k (n + 1) (by omega) (by omega)
theorem toS_Need (l : List S28) (k : Nat) (hk : l.length + totL n_Need l < k) (hl : l.length + totL n_Need l ≤ 1048576) : laws_toNeedS.f k l = some (l.map cv_Need) := by
  unfold laws_toNeedS.f
  rw [if_pos (by omega), if_pos (by omega), Int.toNat_natCast]
  have := toS_Need_l l hl l.length k 0 (by omega) (by simpa using hk)
  simpa using this
theorem totL_map_Need (l : List S28) : totL m_Need (l.map cv_Need) = totL n_Need l := by
  unfold totL; rw [List.map_map]; exact congrArg List.sum (List.map_congr_left fun x _ => m_cv_Need x)
theorem eqS_Need_l (l : List S31) (hl : l.length + totL m_Need l ≤ 1048576) (d : Nat) : ∀ (k n : Nat), n + d = l.length → d + totL m_Need (l.drop n) < k →
    laws_eqNeedS.l0 k l l n = some true := by
  induction d with
  | zero =>
    intro k n hn hk
    obtain ⟨k, rfl⟩ : ∃ m, k = m + 1 := ⟨k - 1, by omega⟩
    simp only [laws_eqNeedS.l0]
    rw [if_neg (by omega)]
  | succ d ih =>
    intro k n hn hk
    obtain ⟨k, rfl⟩ : ∃ m, k = m + 1 := ⟨k - 1, by omega⟩
    have hlt : n < l.length := by omega
    have ht := totL_drop m_Need l n hlt
    have hm := totL_mem m_Need l _ (List.getElem_mem hlt)
    simp only [laws_eqNeedS.l0]
    rw [if_pos (by omega), if_pos (by omega), if_pos (by omega), rdi_Need l n hlt, eq_Need (l[n]'hlt)]
    simp only [Option.bind_some]
    rw [if_pos trivial, wrap_succ n (by omega)]
    exact ih k (n + 1) (by omega) (by omega)
theorem eqS_Need (l : List S31) (k : Nat) (hk : l.length + totL m_Need l < k) (hl : l.length + totL m_Need l ≤ 1048576) : laws_eqNeedS.f k l l = some true := by
  unfold laws_eqNeedS.f
  rw [if_pos rfl]
  have := eqS_Need_l l hl l.length k 0 (by omega) (by simpa using hk)
  simpa using this
/-! ### the laws' own helpers on Entry -/
def n_Entry (x : S98) : Nat := (x.f0.length + totL n_Need x.f0) + x.f1.size + x.f2.size + x.f3.size + (x.f4.length + totL n_Need x.f4)
def m_Entry (x : S101) : Nat := (x.f0.length + totL m_Need x.f0) + x.f1.size + x.f2.size + x.f3.size + (x.f4.length + totL m_Need x.f4)
def cv_Entry (x : S98) : S101 := ⟨x.f0.map cv_Need, x.f1, x.f2, x.f3, x.f4.map cv_Need⟩
theorem sz_Entry (x : S98) (hg : good98 x) (k : Nat) (a : Int) (hk : n_Entry x < k) (h0 : 0 ≤ a) (h1 : a ≤ 1048576) :
    laws_szEntry.f k x.f0 x.f1 x.f2 x.f3 x.f4 a = some (if (n_Entry x : Int) ≤ a then a - (n_Entry x : Int) else -1) := by
  have hn : n_Entry x = (x.f0.length + totL n_Need x.f0) + x.f1.size + x.f2.size + x.f3.size + (x.f4.length + totL n_Need x.f4) := rfl
  unfold good98 at hg
  obtain ⟨g0, g1, g2, g3, g4⟩ := hg
  unfold laws_szEntry.f
  generalize n_Entry x = N at *
  rw [szS_Need x.f0 g0 k (a) (by omega) (by omega) (by omega)]; simp only [Option.bind_some]
  by_cases c0 : ((x.f0.length + totL n_Need x.f0 : Nat) : Int) ≤ a
  rotate_left
  · rw [if_neg c0, if_pos (by decide), if_neg (by omega)]
  rw [if_pos c0, if_neg (by omega)]
  have g1 : x.f1.size ≤ 9223372036854775807 := g1
  rw [wrap_id (a - ((x.f0.length + totL n_Need x.f0 : Nat) : Int) - (x.f1.size : Int)) (by omega) (by omega)]
  by_cases c1 : a - ((x.f0.length + totL n_Need x.f0 : Nat) : Int) - (x.f1.size : Int) < 0
  · rw [if_pos c1, if_neg (by omega)]
  rw [if_neg c1]
  have g2 : x.f2.size ≤ 9223372036854775807 := g2
  rw [wrap_id (a - ((x.f0.length + totL n_Need x.f0 : Nat) : Int) - (x.f1.size : Int) - (x.f2.size : Int)) (by omega) (by omega)]
  by_cases c2 : a - ((x.f0.length + totL n_Need x.f0 : Nat) : Int) - (x.f1.size : Int) - (x.f2.size : Int) < 0
  · rw [if_pos c2, if_neg (by omega)]
  rw [if_neg c2]
  have g3 : x.f3.size ≤ 9223372036854775807 := g3
  rw [wrap_id (a - ((x.f0.length + totL n_Need x.f0 : Nat) : Int) - (x.f1.size : Int) - (x.f2.size : Int) - (x.f3.size : Int)) (by omega) (by omega)]
  by_cases c3 : a - ((x.f0.length + totL n_Need x.f0 : Nat) : Int) - (x.f1.size : Int) - (x.f2.size : Int) - (x.f3.size : Int) < 0
  · rw [if_pos c3, if_neg (by omega)]
  rw [if_neg c3]
  rw [szS_Need x.f4 g4 k (a - ((x.f0.length + totL n_Need x.f0 : Nat) : Int) - (x.f1.size : Int) - (x.f2.size : Int) - (x.f3.size : Int)) (by omega) (by omega) (by omega)]; simp only [Option.bind_some]
  by_cases c4 : ((x.f4.length + totL n_Need x.f4 : Nat) : Int) ≤ a - ((x.f0.length + totL n_Need x.f0 : Nat) : Int) - (x.f1.size : Int) - (x.f2.size : Int) - (x.f3.size : Int)
  rotate_left
  · rw [if_neg c4, if_pos (by decide), if_neg (by omega)]
  rw [if_pos c4, if_neg (by omega)]
  rw [if_pos (by omega)]; congr 1; omega
theorem to_Entry (x : S98) (k : Nat) (hk : n_Entry x < k) (hl : n_Entry x ≤ 1048576) : laws_toEntry.f k x.f0 x.f1 x.f2 x.f3 x.f4 = some ((cv_Entry x).f0, (cv_Entry x).f1, (cv_Entry x).f2, (cv_Entry x).f3, (cv_Entry x).f4) := by
  have hn : n_Entry x = (x.f0.length + totL n_Need x.f0) + x.f1.size + x.f2.size + x.f3.size + (x.f4.length + totL n_Need x.f4) := rfl
  unfold laws_toEntry.f
  generalize n_Entry x = N at *
  rw [toS_Need x.f0 k (by omega) (by omega)]; simp only [Option.bind_some]
  rw [toS_Need x.f4 k (by omega) (by omega)]; simp only [Option.bind_some]
  rfl
theorem m_cv_Entry (x : S98) : m_Entry (cv_Entry x) = n_Entry x := by
  simp only [m_Entry, n_Entry, cv_Entry, List.length_map, totL_map_Need]
theorem eq_Entry (x : S101) (k : Nat) (hk : m_Entry x < k) (hl : m_Entry x ≤ 1048576) : laws_eqEntry.f k x.f0 x.f1 x.f2 x.f3 x.f4 x.f0 x.f1 x.f2 x.f3 x.f4 = some true := by
  have hn : m_Entry x = (x.f0.length + totL m_Need x.f0) + x.f1.size + x.f2.size + x.f3.size + (x.f4.length + totL m_Need x.f4) := rfl
  unfold laws_eqEntry.f
  generalize m_Entry x = N at *
  have := eqS_Need x.f0 k (by omega) (by omega)
  have := eqS_Need x.f4 k (by omega) (by omega)
  simp [*]
theorem rdl_Entry (l : List S98) (n : Nat) (h : n < l.length) : rd_T98 l (n : Int) = l[n]'h := by unfold rd_T98; rw [Int.toNat_natCast]; simp [List.getD, List.getElem?_eq_getElem h]
theorem rdi_Entry (l : List S101) (n : Nat) (h : n < l.length) : rd_T101 l (n : Int) = l[n]'h := by unfold rd_T101; rw [Int.toNat_natCast]; simp [List.getD, List.getElem?_eq_getElem h]
theorem szS_Entry_l (l : List S98) (hl : l.length ≤ 9223372036854775807) (hg : ∀ x ∈ l, good98 x) (d : Nat) : ∀ (k n : Nat) (a : Int), n + d = l.length → d + totL n_Entry (l.drop n) < k → 0 ≤ a → a ≤ 1048576 →
    laws_szEntryS.l0 k l a n = some (if (totL n_Entry (l.drop n) : Int) ≤ a then a - totL n_Entry (l.drop n) else -1) := by
  induction d with
  | zero =>
    intro k n a hn hk h0 h1
    obtain ⟨k, rfl⟩ : ∃ m, k = m + 1 := ⟨k - 1, by omega⟩
    simp only [laws_szEntryS.l0]
    rw [if_neg (by omega), List.drop_of_length_le (by omega), if_pos (by simp [totL]; omega)]; simp [totL]
  | succ d ih =>
    intro k n a hn hk h0 h1
    obtain ⟨k, rfl⟩ : ∃ m, k = m + 1 := ⟨k - 1, by omega⟩
    have hlt : n < l.length := by omega
    have ht := totL_drop n_Entry l n hlt
    simp only [laws_szEntryS.l0]
    rw [if_pos (by omega), if_pos (by omega), rdl_Entry l n hlt, sz_Entry (l[n]'hlt) (hg _ (List.getElem_mem hlt)) k a (by omega) h0 h1, wrap_succ n (by omega)]
    simp only [Option.bind_some]
    by_cases h : (n_Entry (l[n]'hlt) : Int) ≤ a
    · rw [if_pos h, if_neg (by omega), ih k (n + 1) _ (by omega) (by omega) (by omega) (by omega)]
      congr 1
      split <;> split <;> omega
    · rw [if_neg h, if_pos (by decide), if_neg (by omega)]
theorem szS_Entry (l : List S98) (hg : GoodL good98 l) (k : Nat) (a : Int) (hk : l.length + totL n_Entry l < k) (h0 : 0 ≤ a) (h1 : a ≤ 1048576) :
    laws_szEntryS.f k l a = some (if ((l.length + totL n_Entry l : Nat) : Int) ≤ a then a - ((l.length + totL n_Entry l : Nat) : Int) else -1) := by
  have hl := hg.1
  unfold laws_szEntryS.f
  rw [wrap_id (a - (l.length : Int)) (by omega) (by omega)]
  by_cases h : a - (l.length : Int) < 0
  · rw [if_pos h, if_neg (by omega)]
  · rw [if_neg h]
    have := szS_Entry_l l hg.1 hg.2 l.length k 0 (a - (l.length : Int)) (by omega) (by simpa using hk) (by omega) (by omega)
    simp only [Int.natCast_zero, List.drop_zero] at this
    rw [this]; congr 1
    split <;> split <;> omega
theorem toS_Entry_l (l : List S98) (hl : l.length + totL n_Entry l ≤ 1048576) (d : Nat) : ∀ (k n : Nat), n + d = l.length → d + totL n_Entry (l.drop n) < k →
    laws_toEntryS.l0 k l ((l.map cv_Entry).take n ++ List.replicate d z101) n = some (l.map cv_Entry) := by
  induction d with
  | zero =>
    intro k n hn hk
    obtain ⟨k, rfl⟩ : ∃ m, k = m + 1 := ⟨k - 1, by omega⟩
    simp only [laws_toEntryS.l0]
    rw [if_neg (by omega), List.take_of_length_le (by rw [List.length_map]; omega)]; simp
  | succ d ih =>
    intro k n hn hk
    obtain ⟨k, rfl⟩ : ∃ m, k = m + 1 := ⟨k - 1, by omega⟩
    have hlt : n < l.length := by omega
    have ht := totL_drop n_Entry l n hlt
    have hm := totL_mem n_Entry l _ (List.getElem_mem hlt)
    have hlen : ((l.map cv_Entry).take n ++ List.replicate (d + 1) z101).length = l.length := by simp; omega
    simp only [laws_toEntryS.l0]
    rw [hlen, if_pos (by omega), if_pos (by omega), rdl_Entry l n hlt, to_Entry (l[n]'hlt) k (by omega) (by omega)]
    simp only [Option.bind_some]
    rw [if_pos (by omega)]
    show laws_toEntryS.l0 k l (((l.map cv_Entry).take n ++ List.replicate (d + 1) z101).set (n : Int).toNat (cv_Entry (l[n]'hlt))) (wrap64 ((n : Int) + 1)) = _
    have e : cv_Entry (l[n]'hlt) = (l.map cv_Entry)[n]'(by rw [List.length_map]; exact hlt) := by rw [List.getElem_map]
    rw [Int.toNat_natCast, e, set_take (l.map cv_Entry) _ n d (by rw [List.length_map]; exact hn), wrap_succ n (by omega)]
    exact ih k (n + 1) (by omega) (by omega)
theorem toS_Entry (l : List S98) (k : Nat) (hk : l.length + totL n_Entry l < k) (hl : l.length + totL n_Entry l ≤ 1048576) : laws_toEntryS.f k l = some (l.map cv_Entry) := by
  unfold laws_toEntryS.f
  rw [if_pos (by omega), if_pos (by omega), Int.toNat_natCast]
  have := toS_Entry_l l hl l.length k 0 (by omega) (by simpa using hk)
  simpa using this
theorem totL_map_Entry (l : List S98) : totL m_Entry (l.map cv_Entry) = totL n_Entry l := by
  unfold totL; rw [List.map_map]; exact congrArg List.sum (List.map_congr_left fun x _ => m_cv_Entry x)
theorem eqS_Entry_l (l : List S101) (hl : l.length + totL m_Entry l ≤ 1048576) (d : Nat) : ∀ (k n : Nat), n + d = l.length → d + totL m_Entry (l.drop n) < k →
    laws_eqEntryS.l0 k l l n = some true := by
  induction d with
  | zero =>
    intro k n hn hk
    obtain ⟨k, rfl⟩ : ∃ m, k = m + 1 := ⟨k - 1, by omega⟩
    simp only [laws_eqEntryS.l0]
    rw [if_neg (by omega)]
  | succ d ih =>
    intro k n hn hk
    obtain ⟨k, rfl⟩ : ∃ m, k = m + 1 := ⟨k - 1, by omega⟩
    have hlt : n < l.length := by omega
    have ht := totL_drop m_Entry l n hlt
    have hm := totL_mem m_Entry l _ (List.getElem_mem hlt)
    simp only [laws_eqEntryS.l0]
    rw [if_pos (by omega), if_pos (by omega), if_pos (by omega), rdi_Entry l n hlt, eq_Entry (l[n]'hlt) k (by omega) (by omega)]
    simp only [Option.bind_some]
    rw [if_pos trivial, wrap_succ n (by omega)]
    exact ih k (n + 1) (by omega) (by omega)
theorem eqS_Entry (l : List S101) (k : Nat) (hk : l.length + totL m_Entry l < k) (hl : l.length + totL m_Entry l ≤ 1048576) : laws_eqEntryS.f k l l = some true := by
  unfold laws_eqEntryS.f
  rw [if_pos rfl]
  have := eqS_Entry_l l hl l.length k 0 (by omega) (by simpa using hk)
  simpa using this
def rs_Entry := fun x : S101 => x.f0.length + 2
theorem spec_res (xs : List S101) (a b : ByteArray) (h63 : xs.length ≤ 9223372036854775806) (hx : ∀ x ∈ xs, x.f0.length ≤ 9223372036854775806) : ∀ k : Nat,
    (∀ n : Nat, n ≤ xs.length → totL rs_Entry (xs.drop n) < k → spec_Resolve.l0 k xs n a b = some (idxI (((xs.drop n).findIdx? (entN a b)).map (· + n)))) ∧
    (∀ (n j : Nat) (hn : n < xs.length), j ≤ (xs[n]'hn).f0.length → totL rs_Entry (xs.drop (n + 1)) + 1 + ((xs[n]'hn).f0.length - j) < k →
      spec_Resolve.l1 k xs n j a b = if hasN ((xs[n]'hn).f0.drop j) a b = true then some (n : Int) else some (idxI (((xs.drop (n + 1)).findIdx? (entN a b)).map (· + (n + 1))))) := by
  intro k
  induction k with
  | zero => exact ⟨fun n _ h => absurd h (by omega), fun n j _ _ h => absurd h (by omega)⟩
  | succ k ih =>
    refine ⟨fun n hn hk => ?_, fun n j hn hj hk => ?_⟩
    · simp only [spec_Resolve.l0]
      by_cases h : n < xs.length
      · have ht := totL_drop rs_Entry xs n h
        have hr : rs_Entry (xs[n]'h) = (xs[n]'h).f0.length + 2 := rfl
        rw [if_pos (by omega)]
        have := ih.2 n 0 h (by omega) (by omega)
        simp only [Int.natCast_zero, List.drop_zero] at this
        rw [this, drop_at xs n h, List.findIdx?_cons]
        by_cases hp : hasN (xs[n]'h).f0 a b = true
        · rw [if_pos hp, show entN a b (xs[n]'h) = true from hp]; simp [idxI]
        · rw [if_neg hp, show entN a b (xs[n]'h) = false from Bool.eq_false_iff.2 hp]
          simp only [cond_false, if_neg (by decide : ¬ false = true), Option.map_map]
          congr 2
          cases (xs.drop (n + 1)).findIdx? (entN a b) <;> simp; omega
      · rw [if_neg (by omega), List.drop_of_length_le (by omega)]; rfl
    · simp only [spec_Resolve.l1]
      have hm := hx _ (List.getElem_mem hn)
      rw [if_pos (by omega), if_pos (by omega), rdi_Entry xs n hn]
      by_cases hq : j < (xs[n]'hn).f0.length
      · rw [if_pos (by omega), if_pos (by omega), rdi_Need _ j hq, wrap_succ j (by omega), ih.2 n (j + 1) hn (by omega) (by omega), drop_at _ j hq]
        simp only [hasN, List.any_cons, Bool.or_eq_true]
        have e : (((xs[n]'hn).f0[j]'hq).f0.toList == a.toList && (((xs[n]'hn).f0[j]'hq).f1.toList == b.toList)) = (a.toList == ((xs[n]'hn).f0[j]'hq).f0.toList && (b.toList == ((xs[n]'hn).f0[j]'hq).f1.toList)) := by
          rw [Bool.beq_comm (a := a.toList), Bool.beq_comm (a := b.toList)]
        rw [e]
        by_cases hh : (a.toList == ((xs[n]'hn).f0[j]'hq).f0.toList && (b.toList == ((xs[n]'hn).f0[j]'hq).f1.toList)) = true
        · rw [if_pos hh, if_pos (Or.inl hh)]
        · rw [if_neg hh]
          simp only [hh, Bool.false_eq_true, false_or]; congr
      · rw [if_neg (by omega), wrap_succ n (by omega), ih.1 (n + 1) (by omega) (by omega), show (xs[n]'hn).f0.drop j = [] from List.drop_of_length_le (by omega), if_neg (by simp [hasN])]
theorem FnExactResolve : laws_FnExactResolve.Pure := by
  intro l a b hl hg
  refine ⟨totL rs_Entry (l.map cv_Entry) + (l.length + totL n_Entry l) + 5, ?_⟩
  unfold laws_FnExactResolve.f
  rw [szS_Entry l hl _ 1048576 (by omega) (by omega) (by omega)]; simp only [Option.bind_some]
  by_cases c : ((l.length + totL n_Entry l : Nat) : Int) ≤ 1048576
  rotate_left
  · rw [if_neg c, if_pos (by decide)]
  rw [if_pos c, if_neg (by omega), show laws_szNeed.f a b _ = _ from sz_Need ⟨a, b⟩ hg _ (by omega) (by omega)]; simp only [Option.bind_some]
  by_cases c2 : ((n_Need ⟨a, b⟩ : Nat) : Int) ≤ 1048576 - ((l.length + totL n_Entry l : Nat) : Int)
  rotate_left
  · rw [if_neg c2, if_pos (by decide)]
  · rw [if_pos c2, if_neg (by omega)]
    have hx : ∀ x ∈ l.map cv_Entry, x.f0.length ≤ 9223372036854775806 := by
      intro x hx
      have h1 := totL_mem m_Entry _ x hx
      rw [totL_map_Entry] at h1
      have : m_Entry x = x.f0.length + totL m_Need x.f0 + x.f1.size + x.f2.size + x.f3.size + (x.f4.length + totL m_Need x.f4) := rfl
      omega
    have h1 := (spec_res (l.map cv_Entry) a b (by rw [List.length_map]; omega) hx (totL rs_Entry (l.map cv_Entry) + (l.length + totL n_Entry l) + 5)).1 0 (by omega) (by rw [List.drop_zero]; omega)
    simp only [Int.natCast_zero, List.drop_zero] at h1
    rw [toS_Entry l _ (by omega) (by omega), show laws_toNeed.f a b = _ from to_Need ⟨a, b⟩]; simp only [Option.bind_some]
    rw [show spec_Resolve.f _ (l.map cv_Entry) (cv_Need ⟨a, b⟩).f0 (cv_Need ⟨a, b⟩).f1 = _ from h1, show impl_Resolve.f (l.map cv_Entry) (cv_Need ⟨a, b⟩).f0 (cv_Need ⟨a, b⟩).f1 = some (idxI ((l.map cv_Entry).findIdx? (entN a b))) from rfl]; simp only [Option.bind_some]
    rw [eqS_Entry _ _ (by rw [List.length_map, totL_map_Entry]; omega) (by rw [List.length_map, totL_map_Entry]; omega)]
    simp

end Go.Proofs.Ytoihkkkdkpllnaa.Pure
