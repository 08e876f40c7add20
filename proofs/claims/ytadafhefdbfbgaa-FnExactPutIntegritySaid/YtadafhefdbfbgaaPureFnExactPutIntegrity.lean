/- For every list of sums, the program's PutIntegrity returns what the reference's PutIntegrity returns, and leaves the list as it was. No condition. -/
import Derived.Test.YtadafhefdbfbgaaPFnExactPutIntegrityx5
import Derived.Test.YtadafhefdbfbgaaAid
namespace Go.Proofs.Ytadafhefdbfbgaa.Pure
open Go.RowKit Go.Proofs.Ytadafhefdbfbgaa.PFnExactPutIntegrity Go.Proofs.YtadafhefdbfbgaaW.PrintWords Go.Proofs.YtadafhefdbfbgaaW.PrintLast Go.Proofs.YtadafhefdbfbgaaW.PrintMore Go.Proofs.Ytadafhefdbfbgaa.Aid
set_option linter.unusedSimpArgs false
set_option linter.unusedVariables false
/-! ### the laws' own helpers on Sum -/
def n_Sum (x : S87) : Nat := x.f0.size + x.f1.size
def m_Sum (x : S88) : Nat := x.f0.size + x.f1.size
def cv_Sum (x : S87) : S88 := ⟨x.f0, x.f1⟩
theorem sz_Sum (x : S87) (hg : good87 x) (a : Int) (h0 : 0 ≤ a) (h1 : a ≤ 1048576) :
    laws_szSum.f x.f0 x.f1 a = some (if (n_Sum x : Int) ≤ a then a - (n_Sum x : Int) else -1) := by
  have hn : n_Sum x = x.f0.size + x.f1.size := rfl
  unfold good87 at hg
  obtain ⟨g0, g1⟩ := hg
  unfold laws_szSum.f
  generalize n_Sum x = N at *
  have g0 : x.f0.size ≤ 9223372036854775807 := g0
  rw [wrap_id (a - (x.f0.size : Int)) (by omega) (by omega)]
  by_cases c0 : a - (x.f0.size : Int) < 0
  · rw [if_pos c0, if_neg (by omega)]
  rw [if_neg c0]
  have g1 : x.f1.size ≤ 9223372036854775807 := g1
  rw [wrap_id (a - (x.f0.size : Int) - (x.f1.size : Int)) (by omega) (by omega)]
  by_cases c1 : a - (x.f0.size : Int) - (x.f1.size : Int) < 0
  · rw [if_pos c1, if_neg (by omega)]
  rw [if_neg c1]
  rw [if_pos (by omega)]; congr 1; omega
theorem to_Sum (x : S87) : laws_toSum.f x.f0 x.f1 = some ((cv_Sum x).f0, (cv_Sum x).f1) := by
  rfl
theorem m_cv_Sum (x : S87) : m_Sum (cv_Sum x) = n_Sum x := by
  simp only [m_Sum, n_Sum, cv_Sum]
theorem eq_Sum (x : S88) : laws_eqSum.f x.f0 x.f1 x.f0 x.f1 = some true := by
  unfold laws_eqSum.f
  simp [*]
theorem rdl_Sum (l : List S87) (n : Nat) (h : n < l.length) : rd_T87 l (n : Int) = l[n]'h := by unfold rd_T87; rw [Int.toNat_natCast]; simp [List.getD, List.getElem?_eq_getElem h]
theorem rdi_Sum (l : List S88) (n : Nat) (h : n < l.length) : rd_T88 l (n : Int) = l[n]'h := by unfold rd_T88; rw [Int.toNat_natCast]; simp [List.getD, List.getElem?_eq_getElem h]
theorem szS_Sum_l (l : List S87) (hl : l.length ≤ 9223372036854775807) (hg : ∀ x ∈ l, good87 x) (d : Nat) : ∀ (k n : Nat) (a : Int), n + d = l.length → d + totL n_Sum (l.drop n) < k → 0 ≤ a → a ≤ 1048576 →
    laws_szSumS.l0 k l a n = some (if (totL n_Sum (l.drop n) : Int) ≤ a then a - totL n_Sum (l.drop n) else -1) := by
  induction d with
  | zero =>
    intro k n a hn hk h0 h1
    obtain ⟨k, rfl⟩ : ∃ m, k = m + 1 := ⟨k - 1, by omega⟩
    simp only [laws_szSumS.l0]
    rw [if_neg (by omega), List.drop_of_length_le (by omega), if_pos (by simp [totL]; omega)]; simp [totL]
  | succ d ih =>
    intro k n a hn hk h0 h1
    obtain ⟨k, rfl⟩ : ∃ m, k = m + 1 := ⟨k - 1, by omega⟩
    have hlt : n < l.length := by omega
    have ht := totL_drop n_Sum l n hlt
    simp only [laws_szSumS.l0]
    rw [if_pos (by omega), if_pos (by omega), rdl_Sum l n hlt, sz_Sum (l[n]'hlt) (hg _ (List.getElem_mem hlt)) a h0 h1, wrap_succ n (by omega)]
    simp only [Option.bind_some]
    by_cases h : (n_Sum (l[n]'hlt) : Int) ≤ a
    · rw [if_pos h, if_neg (by omega), ih k (n + 1) _ (by omega) (by omega) (by omega) (by omega)]
      congr 1
      split <;> split <;> omega
    · rw [if_neg h, if_pos (by decide), if_neg (by omega)]
theorem szS_Sum (l : List S87) (hg : GoodL good87 l) (k : Nat) (a : Int) (hk : l.length + totL n_Sum l < k) (h0 : 0 ≤ a) (h1 : a ≤ 1048576) :
    laws_szSumS.f k l a = some (if ((l.length + totL n_Sum l : Nat) : Int) ≤ a then a - ((l.length + totL n_Sum l : Nat) : Int) else -1) := by
  have hl := hg.1
  unfold laws_szSumS.f
  rw [wrap_id (a - (l.length : Int)) (by omega) (by omega)]
  by_cases h : a - (l.length : Int) < 0
  · rw [if_pos h, if_neg (by omega)]
  · rw [if_neg h]
    have := szS_Sum_l l hg.1 hg.2 l.length k 0 (a - (l.length : Int)) (by omega) (by simpa using hk) (by omega) (by omega)
    simp only [Int.natCast_zero, List.drop_zero] at this
    rw [this]; congr 1
    split <;> split <;> omega
theorem toS_Sum_l (l : List S87) (hl : l.length + totL n_Sum l ≤ 1048576) (d : Nat) : ∀ (k n : Nat), n + d = l.length → d + totL n_Sum (l.drop n) < k →
    laws_toSumS.l0 k l ((l.map cv_Sum).take n ++ List.replicate d z88) n = some (l.map cv_Sum) := by
  induction d with
  | zero =>
    intro k n hn hk
    obtain ⟨k, rfl⟩ : ∃ m, k = m + 1 := ⟨k - 1, by omega⟩
    simp only [laws_toSumS.l0]
    rw [if_neg (by omega), List.take_of_length_le (by rw [List.length_map]; omega)]; simp
  | succ d ih =>
    intro k n hn hk
    obtain ⟨k, rfl⟩ : ∃ m, k = m + 1 := ⟨k - 1, by omega⟩
    have hlt : n < l.length := by omega
    have ht := totL_drop n_Sum l n hlt
    have hm := totL_mem n_Sum l _ (List.getElem_mem hlt)
    have hlen : ((l.map cv_Sum).take n ++ List.replicate (d + 1) z88).length = l.length := by simp; omega
    simp only [laws_toSumS.l0]
    rw [hlen, if_pos (by omega), if_pos (by omega), rdl_Sum l n hlt, to_Sum (l[n]'hlt)]
    simp only [Option.bind_some]
    rw [if_pos (by omega)]
    show laws_toSumS.l0 k l (((l.map cv_Sum).take n ++ List.replicate (d + 1) z88).set (n : Int).toNat (cv_Sum (l[n]'hlt))) (wrap64 ((n : Int) + 1)) = _
    have e : cv_Sum (l[n]'hlt) = (l.map cv_Sum)[n]'(by rw [List.length_map]; exact hlt) := by rw [List.getElem_map]
    rw [Int.toNat_natCast, e, set_take (l.map cv_Sum) _ n d (by rw [List.length_map]; exact hn), wrap_succ n (by omega)]
    exact ih k (n + 1) (by omega) (by omega)
theorem toS_Sum (l : List S87) (k : Nat) (hk : l.length + totL n_Sum l < k) (hl : l.length + totL n_Sum l ≤ 1048576) : laws_toSumS.f k l = some (l.map cv_Sum) := by
  unfold laws_toSumS.f
  rw [if_pos (by omega), if_pos (by omega), Int.toNat_natCast]
  have := toS_Sum_l l hl l.length k 0 (by omega) (by simpa using hk)
  simpa using this
theorem totL_map_Sum (l : List S87) : totL m_Sum (l.map cv_Sum) = totL n_Sum l := by
  unfold totL; rw [List.map_map]; exact congrArg List.sum (List.map_congr_left fun x _ => m_cv_Sum x)
theorem eqS_Sum_l (l : List S88) (hl : l.length + totL m_Sum l ≤ 1048576) (d : Nat) : ∀ (k n : Nat), n + d = l.length → d + totL m_Sum (l.drop n) < k →
    laws_eqSumS.l0 k l l n = some true := by
  induction d with
  | zero =>
    intro k n hn hk
    obtain ⟨k, rfl⟩ : ∃ m, k = m + 1 := ⟨k - 1, by omega⟩
    simp only [laws_eqSumS.l0]
    rw [if_neg (by omega)]
  | succ d ih =>
    intro k n hn hk
    obtain ⟨k, rfl⟩ : ∃ m, k = m + 1 := ⟨k - 1, by omega⟩
    have hlt : n < l.length := by omega
    have ht := totL_drop m_Sum l n hlt
    have hm := totL_mem m_Sum l _ (List.getElem_mem hlt)
    simp only [laws_eqSumS.l0]
    rw [if_pos (by omega), if_pos (by omega), if_pos (by omega), rdi_Sum l n hlt, eq_Sum (l[n]'hlt)]
    simp only [Option.bind_some]
    rw [if_pos trivial, wrap_succ n (by omega)]
    exact ih k (n + 1) (by omega) (by omega)
theorem eqS_Sum (l : List S88) (k : Nat) (hk : l.length + totL m_Sum l < k) (hl : l.length + totL m_Sum l ≤ 1048576) : laws_eqSumS.f k l l = some true := by
  unfold laws_eqSumS.f
  rw [if_pos rfl]
  have := eqS_Sum_l l hl l.length k 0 (by omega) (by simpa using hk)
  simpa using this
/-! ### rounds enough -/
def Gets {α : Type} (F : Nat → Option α) (v : α) : Prop := ∃ k0 : Nat, ∀ k, k0 ≤ k → F k = some v
theorem Gets.const {α : Type} {F : Nat → Option α} {v : α} (h : ∀ k, F k = some v) : Gets F v := ⟨0, fun k _ => h k⟩
theorem Gets.congr {α : Type} {F G : Nat → Option α} {v : α} (h : ∀ k, F k = G k) (g : Gets G v) : Gets F v := by
  obtain ⟨k0, g⟩ := g; exact ⟨k0, fun k hk => (h k).trans (g k hk)⟩
theorem Gets.step {α : Type} {F G : Nat → Option α} {v : α} (h : ∀ k, F (k + 1) = G k) (g : Gets G v) : Gets F v := by
  obtain ⟨k0, g⟩ := g
  refine ⟨k0 + 1, fun k hk => ?_⟩
  obtain ⟨m, rfl⟩ : ∃ m, k = m + 1 := ⟨k - 1, by omega⟩
  rw [h m]; exact g m (by omega)
theorem Gets.step1 {α : Type} {F : Nat → Option α} {v : α} (h : ∀ k, F (k + 1) = some v) : Gets F v := Gets.step h (Gets.const (F := fun _ => some v) fun _ => rfl)
theorem Gets.bind {α β : Type} {A : Nat → Option β} {G : Nat → β → Option α} {b : β} {v : α} (a : Gets A b) (g : Gets (fun k => G k b) v) : Gets (fun k => (A k).bind (G k)) v := by
  obtain ⟨k1, a⟩ := a; obtain ⟨k2, g⟩ := g
  exact ⟨max k1 k2, fun k hk => by simp only [a k (by omega), Option.bind_some]; exact g k (by omega)⟩
theorem Gets.of {α : Type} {F : Nat → Option α} {v : α} (n : Nat) (h : ∀ k, n < k → F k = some v) : Gets F v := ⟨n + 1, fun k hk => h k (by omega)⟩
theorem Gets.some {α : Type} {F : Nat → Option α} {v : α} (g : Gets F v) : ∃ k, F k = some v := by obtain ⟨k, g⟩ := g; exact ⟨k, g k (Nat.le_refl _)⟩

/-! ### groups of three bytes as four signs -/
theorem wraps_i64 (n : Int) (h₀ : 0 ≤ n) (h₁ : n < 2 ^ 63) : IntKind.i64.wrap n = n := by rw [IntKind.wrap_i64]; omega
theorem and63 (x : Int) (h₀ : 0 ≤ x) (h₁ : x < 9223372036854775808) : Go.bits .and .i64 x 63 = x % 64 := bits_mask .i64 63 (by decide) wraps_i64 6 (by decide) x h₀ (by simpa using h₁)
theorem or8 (x y : Int) (h₀ : 0 ≤ x) (h₁ : x < 1073741824) (h2 : 0 ≤ y) (h3 : y < 256) : Go.bits .or .i64 (x * 256) y = x * 256 + y :=
  bits_join .i64 63 (by decide) wraps_i64 8 (x * 256) y (by omega) (by show x * 256 % 256 = 0; omega) (by show x * 256 < 9223372036854775808; omega) h2 (by show y < 256; omega) (by show y < 9223372036854775808; omega)
def tab64 : ByteArray := ⟨#[65, 66, 67, 68, 69, 70, 71, 72, 73, 74, 75, 76, 77, 78, 79, 80, 81, 82, 83, 84, 85, 86, 87, 88, 89, 90, 97, 98, 99, 100, 101, 102, 103, 104, 105, 106, 107, 108, 109, 110, 111, 112, 113, 114, 115, 116, 117, 118, 119, 120, 121, 122, 48, 49, 50, 51, 52, 53, 54, 55, 56, 57, 43, 47]⟩
theorem tab64_size : tab64.size = 64 := rfl
def dg64 (n : Int) (m j : Nat) : Int := if j ≤ m then bt tab64 (n / 2 ^ (18 - 6 * j) % 64) else 61
def grp64 (n : Int) (m : Nat) : List Int := [dg64 n m 0, dg64 n m 1, dg64 n m 2, dg64 n m 3]
def by64 (l : List UInt8) (i : Nat) : Int := if h : i < l.length then ((l[i]'h).toNat : Int) else 0
theorem by64_lt (l : List UInt8) (i : Nat) : 0 ≤ by64 l i ∧ by64 l i < 256 := by
  unfold by64; split
  · have := u8_lt (l[i]'(by assumption)); omega
  · omega
def num64 (l : List UInt8) : Int := (by64 l 0 * 256 + by64 l 1) * 256 + by64 l 2
theorem num64_lt (l : List UInt8) : 0 ≤ num64 l ∧ num64 l < 16777216 := by
  have h0 := by64_lt l 0; have h1 := by64_lt l 1; have h2 := by64_lt l 2
  unfold num64; omega
def b64 (l : List UInt8) : List Int := if l.length = 0 then [] else grp64 (num64 l) (min 3 l.length) ++ b64 (l.drop 3)
termination_by l.length
decreasing_by simp; omega
theorem b64_nil : b64 [] = [] := by rw [b64]; rfl
theorem b64_step (l : List UInt8) (h : 0 < l.length) : b64 l = grp64 (num64 l) (min 3 l.length) ++ b64 (l.drop 3) := by
  rw [b64, if_neg (by omega)]
theorem b64_len (l : List UInt8) : (b64 l).length ≤ 4 * l.length := by
  induction h : l.length using Nat.strongRecOn generalizing l with
  | _ n ih =>
    by_cases h0 : l.length = 0
    · rw [b64, if_pos h0]; simp
    · rw [b64_step l (by omega), List.length_append]
      have := ih (l.drop 3).length (by simp; omega) (l.drop 3) rfl
      simp [grp64] at this ⊢; omega
theorem w64_6 (j : Nat) (h : j < 4) : wrap64 (18 - wrap64 (6 * (j : Int))) = ((18 - 6 * j : Nat) : Int) := by
  rw [wrap_id (6 * (j : Int)) (by omega) (by omega), wrap_id _ (by omega) (by omega)]; omega
theorem shr_small' (n : Int) (c : Nat) (h : c ≤ 64) : shr .i64 n (c : Int) = n / 2 ^ c := by
  unfold shr; rw [Int.toNat_natCast]; show n / 2 ^ min c 64 = n / 2 ^ c; rw [Nat.min_eq_left h]
theorem div_lt (n : Int) (c : Nat) (h0 : 0 ≤ n) (h1 : n < 16777216) : 0 ≤ n / 2 ^ c ∧ n / 2 ^ c < 16777216 := by
  have hp : (0 : Int) < 2 ^ c := Int.pow_pos (by decide)
  refine ⟨Int.ediv_nonneg h0 (by omega), ?_⟩
  exact Int.lt_of_le_of_lt (Int.ediv_le_self _ h0) h1
theorem bt_by64 (l : List UInt8) (n : Nat) (h : n < l.length) : bt (B l) (n : Int) = by64 l n := by rw [bt_B l n h, by64, dif_pos h]
theorem by64_drop (l : List UInt8) (i j : Nat) : by64 (l.drop i) j = by64 l (i + j) := by
  unfold by64
  by_cases h : i + j < l.length
  · rw [dif_pos (by simp; omega), dif_pos h, List.getElem_drop]
  · rw [dif_neg (by simp; omega), dif_neg h]
theorem by64_take (s : List UInt8) (t : Nat) (h : t < 3) : by64 (s.take 3) t = by64 s t := by
  unfold by64
  by_cases g : t < s.length
  · rw [dif_pos (by simp; omega), dif_pos g, List.getElem_take]
  · rw [dif_neg (by simp; omega), dif_neg g]
theorem part64 (l : List UInt8) (i : Nat) (h : i < l.length) : (B l).extract i (min (i + 3) l.length) = B ((l.drop i).take 3) := by
  rw [B_extract, List.drop_take]; congr 1
  by_cases g : i + 3 ≤ l.length
  · rw [Nat.min_eq_left g]; congr 1; omega
  · rw [Nat.min_eq_right (by omega), List.take_of_length_le (by simp), List.take_of_length_le (by simp; omega)]

theorem sp64_l2 (l : List UInt8) (x5 n : Int) (m : Nat) (h0 : 0 ≤ n) (h1 : n < 16777216) (out : List Int) (j : Nat) (hj : j < 4) (ho : out.length < 140737488355328) (k : Nat) :
    spec_PutBase64.l2 (k + 1) (B l) out tab64 x5 n m j = spec_PutBase64.l2 k (B l) (out ++ [dg64 n m j]) tab64 x5 n m ((j + 1 : Nat) : Int) := by
  simp only [spec_PutBase64.l2]
  rw [if_pos (by omega), w64_6 j hj, shr_small' n _ (by omega), wrap_succ j (by omega), dg64]
  have hd := div_lt n (18 - 6 * j) h0 h1
  by_cases h : j ≤ m
  · rw [if_neg (by omega), if_pos h, if_pos (by omega), and63 _ hd.1 (by omega), if_pos (by omega), if_pos (by rw [tab64_size]; omega), if_pos ho]
  · rw [if_pos (by omega), if_neg h, if_pos ho]
theorem sp64_l2_all (l : List UInt8) (x5 n : Int) (m : Nat) (h0 : 0 ≤ n) (h1 : n < 16777216) (out : List Int) (ho : out.length + 4 < 140737488355328) (k : Nat) :
    spec_PutBase64.l2 (k + 5) (B l) out tab64 x5 n m 0 = spec_PutBase64.l0 k (B l) (out ++ grp64 n m) tab64 (wrap64 (x5 + 3)) := by
  have e := sp64_l2 l x5 n m h0 h1 out 0 (by decide) (by omega) (k + 4)
  rw [Int.natCast_zero] at e
  rw [e, sp64_l2 l x5 n m h0 h1 _ 1 (by decide) (by simp; omega) (k + 3), sp64_l2 l x5 n m h0 h1 _ 2 (by decide) (by simp; omega) (k + 2), sp64_l2 l x5 n m h0 h1 _ 3 (by decide) (by simp; omega) (k + 1)]
  simp only [spec_PutBase64.l2]
  rw [if_neg (by decide)]
  simp [grp64]
theorem sp64_l1 (l : List UInt8) (i t : Nat) (ht : t < 3) (n : Int) (m : Nat) (h0 : 0 ≤ n) (h1 : n < 65536) (hl : l.length ≤ 4611686018427387904) (hi : i < l.length) (out : List Int) (hm : m ≤ 3) (k : Nat) :
    spec_PutBase64.l1 (k + 1) (B l) out tab64 i n m ((i + t : Nat) : Int) = spec_PutBase64.l1 k (B l) out tab64 i (n * 256 + by64 l (i + t)) ((if i + t < l.length then m + 1 else m : Nat) : Int) ((i + (t + 1) : Nat) : Int) := by
  simp only [spec_PutBase64.l1]
  have hb := by64_lt l (i + t)
  rw [wrap_id ((i : Int) + 3) (by omega) (by omega), if_pos (by omega), B_size, wrap_succ (i + t) (by omega), wrap_id (n * 256) (by omega) (by omega)]
  by_cases h : i + t < l.length
  · rw [if_pos (by omega), if_pos (by omega), if_pos h, bt_by64 l _ h, wrap_id (by64 l (i + t)) (by omega) (by omega), wrap_id _ (by omega) (by omega), wrap_succ m (by omega)]; rfl
  · rw [if_neg (by omega), if_neg h]
    have : by64 l (i + t) = 0 := by rw [by64, dif_neg h]
    rw [this, Int.add_zero]; rfl
theorem sp64_l0 (l : List UInt8) (hl : l.length ≤ 1048576) (d : Nat) : ∀ (i : Nat) (out : List Int), l.length - i = d → i ≤ 1048580 → out.length + 4 * d ≤ 8388608 →
    Gets (fun k => spec_PutBase64.l0 k (B l) out tab64 i) (strOfNums (out ++ b64 (l.drop i))) := by
  induction d using Nat.strongRecOn with
  | _ d ih =>
    intro i out hd hi ho
    by_cases h : i < l.length
    · have hb0 := by64_lt l i; have hb1 := by64_lt l (i + 1); have hb2 := by64_lt l (i + 2)
      have e : ∀ k, spec_PutBase64.l0 (k + 10) (B l) out tab64 i = spec_PutBase64.l0 k (B l) (out ++ grp64 (num64 (l.drop i)) (min 3 (l.drop i).length)) tab64 ((i + 3 : Nat) : Int) := by
        intro k
        have e1 := sp64_l1 l i 0 (by decide) 0 0 (by decide) (by decide) (by omega) h out (by decide) (k + 8)
        have e2 := sp64_l1 l i 1 (by decide) (by64 l i) 1 hb0.1 (by omega) (by omega) h out (by decide) (k + 7)
        have e3 := sp64_l1 l i 2 (by decide) (by64 l i * 256 + by64 l (i + 1)) (if i + 1 < l.length then 2 else 1) (by omega) (by omega) (by omega) h out (by split <;> decide) (k + 6)
        simp only [Nat.add_zero, Int.zero_mul, Int.zero_add, if_pos h, Nat.zero_add, Int.natCast_zero] at e1
        simp only [spec_PutBase64.l0]
        rw [if_pos (by rw [B_size]; omega), e1, e2]
        simp only [show 1 + 1 = 2 from rfl]
        rw [e3]
        simp only [spec_PutBase64.l1]
        rw [wrap_id ((i : Int) + 3) (by omega) (by omega), if_neg (by omega)]
        have en : (by64 l i * 256 + by64 l (i + 1)) * 256 + by64 l (i + 2) = num64 (l.drop i) := by simp [num64, by64_drop]
        have em : (if i + 2 < l.length then (if i + 1 < l.length then 2 else 1) + 1 else (if i + 1 < l.length then 2 else 1)) = min 3 (l.drop i).length := by
          rw [List.length_drop]; split <;> split <;> omega
        rw [en, em, sp64_l2_all l i _ _ (num64_lt _).1 (num64_lt _).2 out (by omega), wrap_id ((i : Int) + 3) (by omega) (by omega)]; rfl
      have := ih (l.length - (i + 3)) (by omega) (i + 3) (out ++ grp64 (num64 (l.drop i)) (min 3 (l.drop i).length)) rfl (by omega) (by simp [grp64]; omega)
      rw [List.append_assoc, ← List.drop_drop, ← b64_step (l.drop i) (by rw [List.length_drop]; omega)] at this
      obtain ⟨k0, g⟩ := this
      refine ⟨k0 + 10, fun k hk => ?_⟩
      obtain ⟨q, rfl⟩ : ∃ q, k = q + 10 := ⟨k - 10, by omega⟩
      show spec_PutBase64.l0 (q + 10) (B l) out tab64 i = _
      rw [e q]; exact g q (by omega)
    · refine Gets.step1 fun k => ?_
      simp only [spec_PutBase64.l0]
      rw [if_neg (by rw [B_size]; omega), List.drop_of_length_le (by omega), b64_nil, List.append_nil]
theorem sp64 (s : ByteArray) (h : s.size ≤ 1048576) : Gets (fun k => spec_PutBase64.f k s) (strOfNums (b64 s.data.toList)) := by
  rw [B_of s]
  have := sp64_l0 s.data.toList (by rw [data_len]; omega) _ 0 [] rfl (by decide) (by simp [data_len]; omega)
  simp only [Int.natCast_zero, List.drop_zero, List.nil_append] at this
  rw [B_data]
  exact Gets.congr (fun k => rfl) this

theorem ip64_l2 (l p : List UInt8) (hp : p.length ≤ 3) (x4 n : Int) (h0 : 0 ≤ n) (h1 : n < 16777216) (out : List Int) (j : Nat) (hj : j < 4) (ho : out.length < 140737488355328) (k : Nat) :
    impl_PutBase64.l2 (k + 1) (B l) out x4 (B p) n j = impl_PutBase64.l2 k (B l) (out ++ [dg64 n p.length j]) x4 (B p) n ((j + 1 : Nat) : Int) := by
  simp only [impl_PutBase64.l2]
  rw [if_pos (by omega), w64_6 j hj, shr_small' n _ (by omega), wrap_succ j (by omega), dg64, B_size]
  have hd := div_lt n (18 - 6 * j) h0 h1
  by_cases h : j ≤ p.length
  · rw [if_pos (by omega), if_pos h, if_pos (by omega), and63 _ hd.1 (by omega), if_pos (by omega), if_pos (by omega), if_pos ho]; rfl
  · rw [if_neg (by omega), if_neg h, if_pos ho]
theorem ip64_l2_all (l p : List UInt8) (hp : p.length ≤ 3) (x4 n : Int) (h0 : 0 ≤ n) (h1 : n < 16777216) (out : List Int) (ho : out.length + 4 < 140737488355328) (k : Nat) :
    impl_PutBase64.l2 (k + 5) (B l) out x4 (B p) n 0 = impl_PutBase64.l0 k (B l) (out ++ grp64 n p.length) (wrap64 (x4 + 3)) := by
  have e := ip64_l2 l p hp x4 n h0 h1 out 0 (by decide) (by omega) (k + 4)
  rw [Int.natCast_zero] at e
  rw [e, ip64_l2 l p hp x4 n h0 h1 _ 1 (by decide) (by simp; omega) (k + 3), ip64_l2 l p hp x4 n h0 h1 _ 2 (by decide) (by simp; omega) (k + 2), ip64_l2 l p hp x4 n h0 h1 _ 3 (by decide) (by simp; omega) (k + 1)]
  simp only [impl_PutBase64.l2]
  rw [if_neg (by decide)]
  simp [grp64]
theorem ip64_l1 (l p : List UInt8) (x4 : Int) (t : Nat) (ht : t < 3) (n : Int) (h0 : 0 ≤ n) (h1 : n < 65536) (out : List Int) (k : Nat) :
    impl_PutBase64.l1 (k + 1) (B l) out x4 (B p) n t = impl_PutBase64.l1 k (B l) out x4 (B p) (n * 256 + by64 p t) ((t + 1 : Nat) : Int) := by
  simp only [impl_PutBase64.l1]
  have hb := by64_lt p t
  rw [if_pos (by omega), B_size, wrap_succ t (by omega), wrap_id (n * 256) (by omega) (by omega)]
  by_cases h : t < p.length
  · rw [if_pos (by omega), if_pos (by omega), bt_by64 p _ h, wrap_id (by64 p t) (by omega) (by omega), or8 n _ h0 (by omega) hb.1 hb.2]
  · rw [if_neg (by omega)]
    have : by64 p t = 0 := by rw [by64, dif_neg h]
    rw [this, Int.add_zero]
theorem ip64_l0 (l : List UInt8) (hl : l.length ≤ 1048576) (d : Nat) : ∀ (i : Nat) (out : List Int), l.length - i = d → i ≤ 1048580 → out.length + 4 * d ≤ 8388608 →
    Gets (fun k => impl_PutBase64.l0 k (B l) out i) (strOfNums (out ++ b64 (l.drop i))) := by
  induction d using Nat.strongRecOn with
  | _ d ih =>
    intro i out hd hi ho
    by_cases h : i < l.length
    · have e : ∀ k, impl_PutBase64.l0 (k + 10) (B l) out i = impl_PutBase64.l0 k (B l) (out ++ grp64 (num64 (l.drop i)) (min 3 (l.drop i).length)) ((i + 3 : Nat) : Int) := by
        intro k
        have em : mn (wrap64 ((i : Int) + 3)) (l.length : Int) = ((min (i + 3) l.length : Nat) : Int) := by
          rw [wrap_id ((i : Int) + 3) (by omega) (by omega)]; unfold mn; split <;> omega
        simp only [impl_PutBase64.l0]
        rw [B_size, em, if_pos (by omega), if_pos (by omega), if_pos (by omega), if_pos (by omega), Int.toNat_natCast, Int.toNat_natCast, part64 l i h]
        have hb0 := by64_lt ((l.drop i).take 3) 0; have hb1 := by64_lt ((l.drop i).take 3) 1; have hb2 := by64_lt ((l.drop i).take 3) 2
        have e1 := ip64_l1 l ((l.drop i).take 3) i 0 (by decide) 0 (by decide) (by decide) out (k + 8)
        rw [Int.natCast_zero, Int.zero_mul, Int.zero_add] at e1
        rw [e1, ip64_l1 l ((l.drop i).take 3) i 1 (by decide) _ hb0.1 (by omega) out (k + 7), ip64_l1 l ((l.drop i).take 3) i 2 (by decide) _ (by omega) (by omega) out (k + 6)]
        simp only [impl_PutBase64.l1]
        rw [if_neg (by omega)]
        have en : (by64 ((l.drop i).take 3) 0 * 256 + by64 ((l.drop i).take 3) 1) * 256 + by64 ((l.drop i).take 3) 2 = num64 (l.drop i) := by
          rw [by64_take _ _ (by decide), by64_take _ _ (by decide), by64_take _ _ (by decide)]; rfl
        have ep : ((l.drop i).take 3).length = min 3 (l.drop i).length := List.length_take
        rw [en, ip64_l2_all l _ (by rw [ep]; omega) i _ (num64_lt _).1 (num64_lt _).2 out (by omega), wrap_id ((i : Int) + 3) (by omega) (by omega), ep]; rfl
      have := ih (l.length - (i + 3)) (by omega) (i + 3) (out ++ grp64 (num64 (l.drop i)) (min 3 (l.drop i).length)) rfl (by omega) (by simp [grp64]; omega)
      rw [List.append_assoc, ← List.drop_drop, ← b64_step (l.drop i) (by rw [List.length_drop]; omega)] at this
      obtain ⟨k0, g⟩ := this
      refine ⟨k0 + 10, fun k hk => ?_⟩
      obtain ⟨q, rfl⟩ : ∃ q, k = q + 10 := ⟨k - 10, by omega⟩
      show impl_PutBase64.l0 (q + 10) (B l) out i = _
      rw [e q]; exact g q (by omega)
    · refine Gets.step1 fun k => ?_
      simp only [impl_PutBase64.l0]
      rw [if_neg (by rw [B_size]; omega), List.drop_of_length_le (by omega), b64_nil, List.append_nil]
theorem ip64 (s : ByteArray) (h : s.size ≤ 1048576) : Gets (fun k => impl_PutBase64.f k s) (strOfNums (b64 s.data.toList)) := by
  rw [B_of s]
  have := ip64_l0 s.data.toList (by rw [data_len]; omega) _ 0 [] rfl (by decide) (by simp [data_len]; omega)
  simp only [Int.natCast_zero, List.drop_zero, List.nil_append] at this
  rw [B_data]
  exact Gets.congr (fun k => rfl) this

/-! ### sums as text -/
def sha1L : List UInt8 := [115, 104, 97, 49]
def sha256L : List UInt8 := [115, 104, 97, 50, 53, 54]
def sha512L : List UInt8 := [115, 104, 97, 53, 49, 50]
def okB (a : ByteArray) : Bool := decide (a.toList = sha1L) || (decide (a.toList = sha256L) || decide (a.toList = sha512L))
def b64B (l : List UInt8) : List UInt8 := (b64 l).map fun n => UInt8.ofNat n.toNat
theorem b64B_len (l : List UInt8) : (b64B l).length ≤ 4 * l.length := by unfold b64B; rw [List.length_map]; exact b64_len l
theorem str_b64 (l : List UInt8) : strOfNums (b64 l) = B (b64B l) := strOfNums_B _
def itemL (x : S88) : List UInt8 := x.f0.data.toList ++ (45 :: b64B x.f1.data.toList)
def okS (x : S88) : Bool := okB x.f0
def itemsL (l : List S88) : List (List UInt8) := (l.filter okS).map itemL
def wS (x : S88) : Nat := x.f0.size + 4 * x.f1.size + 2
theorem itemL_len (x : S88) : (itemL x).length + 1 ≤ wS x := by
  have := b64B_len x.f1.data.toList
  unfold itemL wS; rw [List.length_append, List.length_cons, data_len]; rw [data_len] at this; omega
theorem B_data_of (s : ByteArray) : B s.data.toList = s := (B_of s).symm
theorem item_B (o : List UInt8) (x : S88) : B o ++ x.f0 ++ (⟨#[45]⟩ : ByteArray) ++ B (b64B x.f1.data.toList) = B (o ++ itemL x) := by
  conv => lhs; rw [← B_data_of x.f0]
  rw [show (⟨#[45]⟩ : ByteArray) = B [45] from rfl, B_append, B_append, B_append]; congr 1; simp [itemL]
theorem item_B0 (x : S88) : x.f0 ++ (⟨#[45]⟩ : ByteArray) ++ B (b64B x.f1.data.toList) = B (itemL x) := by
  conv => lhs; rw [← B_data_of x.f0]
  rw [show (⟨#[45]⟩ : ByteArray) = B [45] from rfl, B_append, B_append]; congr 1; simp [itemL]
theorem itemsL_drop (l : List S88) (n : Nat) (h : n < l.length) : itemsL (l.drop n) = if okS (l[n]'h) then itemL (l[n]'h) :: itemsL (l.drop (n + 1)) else itemsL (l.drop (n + 1)) := by
  rw [drop_at l n h]; unfold itemsL; rw [List.filter_cons]; split <;> simp
theorem lens_items (l : List S88) : Lib.lens (itemsL l) + (itemsL l).length ≤ totL wS l := by
  induction l with
  | nil => simp [itemsL, Lib.lens, totL]
  | cons x l ih =>
    have h := itemsL_drop (x :: l) 0 (by simp)
    simp only [List.drop_zero, List.getElem_cons_zero, Nat.zero_add, List.drop_one, List.tail_cons] at h
    have hw := itemL_len x
    have ht : totL wS (x :: l) = wS x + totL wS l := by simp [totL]
    rw [h, ht]
    split
    · simp only [Lib.lens, List.map_cons, List.sum_cons, List.length_cons] at ih ⊢; omega
    · omega
theorem join_len (xs : List (List UInt8)) : (Lib.join xs [32]).length ≤ Lib.lens xs + xs.length := by
  cases xs with
  | nil => simp [Lib.join_nil, Lib.lens]
  | cons x r => rw [Lib.join_cons, List.length_append, Lib.joinTail_length]; simp [Lib.lens]; omega
def resS (o : List UInt8) (its : List (List UInt8)) : List UInt8 := if o = [] then Lib.join its [32] else o ++ Lib.joinTail [32] its
theorem resS_skip (o : List UInt8) : resS o [] = o := by
  unfold resS; split
  · rename_i h; rw [h]; rfl
  · simp [Lib.joinTail]
theorem resS_first (x : List UInt8) (h : x ≠ []) (its : List (List UInt8)) : resS x its = resS [] (x :: its) := by
  unfold resS; rw [if_neg h, if_pos rfl, Lib.join_cons]
theorem resS_more (o x : List UInt8) (h : o ≠ []) (its : List (List UInt8)) : resS (o ++ [32] ++ x) its = resS o (x :: its) := by
  unfold resS; rw [if_neg (by simp [h]), if_neg h]; simp [Lib.joinTail]
theorem itemL_ne (x : S88) : itemL x ≠ [] := by unfold itemL; simp

theorem sp_long (a : ByteArray) (k : Nat) : spec_l04Long.f (k + 1) a = some (if a.toList = sha1L then 20 else if a.toList = sha256L then 32 else if a.toList = [104, 49] then 32 else if a.toList = sha512L then 64 else -1) := by
  unfold spec_l04Long.f
  show (if a.toList = sha1L then _ else _) = _
  by_cases h1 : a.toList = sha1L
  · rw [if_pos h1, if_pos h1]
  · rw [if_neg h1, if_neg h1]
    show (if a.toList = sha256L then _ else _) = _
    by_cases h2 : a.toList = sha256L
    · rw [if_pos h2, if_pos h2]
      simp only [spec_l04Long.j0]
      rw [if_pos (by rw [h2]; rfl)]
    · rw [if_neg h2, if_neg h2]
      simp only [spec_l04Long.j0]
      by_cases h3 : a.toList = [104, 49]
      · rw [if_pos (by rw [h3]; rfl), if_pos h3]
      · rw [if_neg (by simpa using h3), if_neg h3]
        show (if a.toList = sha512L then _ else _) = _
        split <;> rfl
theorem sp_int_step (xs : List S88) (out : ByteArray) (n : Nat) (h : n < xs.length) (k : Nat) :
    spec_PutIntegrity.l0 (k + 2) xs out n = spec_PutIntegrity.j1 (k + 1) xs out n (!okS (xs[n]'h)) := by
  simp only [spec_PutIntegrity.l0]
  rw [if_pos (by omega), if_pos (by omega), rdi_Sum xs n h]
  generalize xs[n]'h = x
  by_cases h3 : x.f0.toList = [104, 49]
  · rw [if_pos h3]
    have : okS x = false := by unfold okS okB; rw [h3]; decide
    rw [this]; rfl
  · rw [if_neg h3, sp_long]
    simp only [Option.bind_some]
    congr 1
    unfold okS okB
    by_cases h1 : x.f0.toList = sha1L
    · simp [h1, sha1L]
    · by_cases h2 : x.f0.toList = sha256L
      · simp [h2, sha1L, sha256L]
      · by_cases h4 : x.f0.toList = sha512L
        · simp [h4, sha1L, sha256L, sha512L]
        · simp [h1, h2, h3, h4]
theorem sp_integ (xs : List S88) (hx : ∀ x ∈ xs, x.f1.size ≤ 1048576) (hl : xs.length ≤ 1048576) (d : Nat) : ∀ (n : Nat) (o : List UInt8), n + d = xs.length → o.length + totL wS (xs.drop n) ≤ 100000000 →
    Gets (fun k => spec_PutIntegrity.l0 k xs (B o) n) (B (resS o (itemsL (xs.drop n)))) := by
  induction d with
  | zero =>
    intro n o hn ho
    refine Gets.step1 fun k => ?_
    simp only [spec_PutIntegrity.l0]
    rw [if_neg (by omega), List.drop_of_length_le (by omega), show itemsL [] = [] from rfl, resS_skip]
  | succ d ih =>
    intro n o hn ho
    have h : n < xs.length := by omega
    have ht := totL_drop wS xs n h
    have hw := itemL_len (xs[n]'h)
    have e1 := fun k => sp_int_step xs (B o) n h k
    rw [itemsL_drop xs n h]
    by_cases hok : okS (xs[n]'h) = true
    · rw [if_pos hok]
      obtain ⟨k1, h1⟩ := sp64 (xs[n]'h).f1 (hx _ (List.getElem_mem h))
      by_cases he : o = []
      · subst he
        obtain ⟨k2, h2⟩ := ih (n + 1) (itemL (xs[n]'h)) (by omega) (by omega)
        refine ⟨k1 + k2 + 2, fun k hk => ?_⟩
        obtain ⟨q, rfl⟩ : ∃ q, k = q + 2 := ⟨k - 2, by omega⟩
        show spec_PutIntegrity.l0 (q + 2) xs (B []) n = _
        rw [e1 q, hok]
        simp only [spec_PutIntegrity.j1]
        have hs : (itemL (xs[n]'h)).length = (xs[n]'h).f0.size + (b64B (xs[n]'h).f1.data.toList).length + 1 := by unfold itemL; rw [List.length_append, List.length_cons, data_len]; omega
        have e2 : spec_PutBase64.f q (xs[n]'h).f1 = some (B (b64B (xs[n]'h).f1.data.toList)) := by rw [← str_b64]; exact h1 q (by omega)
        rw [if_neg (by decide), if_pos (by rw [B_toList]), if_pos (by omega), if_pos (by omega), rdi_Sum xs n h, if_pos (by rw [B_size]; simp; omega), if_pos (by rw [ByteArray.size_append, B_size]; simp; omega), e2]
        simp only [Option.bind_some]
        rw [if_pos (by rw [ByteArray.size_append, ByteArray.size_append, B_size, B_size]; show 0 + _ + 1 + _ ≤ _; omega), item_B, List.nil_append, wrap_succ n (by omega), ← resS_first _ (itemL_ne _)]
        exact h2 q (by omega)
      · obtain ⟨k2, h2⟩ := ih (n + 1) (o ++ [32] ++ itemL (xs[n]'h)) (by omega) (by simp; omega)
        refine ⟨k1 + k2 + 2, fun k hk => ?_⟩
        obtain ⟨q, rfl⟩ : ∃ q, k = q + 2 := ⟨k - 2, by omega⟩
        show spec_PutIntegrity.l0 (q + 2) xs (B o) n = _
        rw [e1 q, hok]
        simp only [spec_PutIntegrity.j1]
        have hs : (itemL (xs[n]'h)).length = (xs[n]'h).f0.size + (b64B (xs[n]'h).f1.data.toList).length + 1 := by unfold itemL; rw [List.length_append, List.length_cons, data_len]; omega
        have e2 : spec_PutBase64.f q (xs[n]'h).f1 = some (B (b64B (xs[n]'h).f1.data.toList)) := by rw [← str_b64]; exact h1 q (by omega)
        have e3 : B o ++ (⟨#[32]⟩ : ByteArray) = B (o ++ [32]) := B_append o [32]
        rw [if_neg (by decide), if_neg (by rw [B_toList]; exact he), e3, if_pos (by rw [B_size]; omega), if_pos (by omega), if_pos (by omega), rdi_Sum xs n h, if_pos (by rw [B_size]; simp; omega), if_pos (by rw [ByteArray.size_append, B_size]; simp; omega), e2]
        simp only [Option.bind_some]
        rw [if_pos (by rw [ByteArray.size_append, ByteArray.size_append, B_size, B_size, List.length_append]; show _ + 1 + _ + 1 + _ ≤ _; omega), item_B, wrap_succ n (by omega), ← resS_more _ _ he]
        exact h2 q (by omega)
    · rw [if_neg hok]
      obtain ⟨k2, h2⟩ := ih (n + 1) o (by omega) (by omega)
      refine ⟨k2 + 2, fun k hk => ?_⟩
      obtain ⟨q, rfl⟩ : ∃ q, k = q + 2 := ⟨k - 2, by omega⟩
      show spec_PutIntegrity.l0 (q + 2) xs (B o) n = _
      rw [e1 q, Bool.eq_false_iff.2 hok]
      simp only [spec_PutIntegrity.j1]
      rw [if_pos (by decide), wrap_succ n (by omega)]
      exact h2 q (by omega)

theorem strBs (its : List (List UInt8)) : ((its.map B).map (·.data.toList)) = its := by
  rw [List.map_map]; conv => rhs; rw [← List.map_id its]
  apply List.map_congr_left; intro x _; exact B_data x
theorem ip_integ (xs : List S88) (hx : ∀ x ∈ xs, x.f1.size ≤ 1048576) (hl : xs.length ≤ 1048576) (d : Nat) : ∀ (n : Nat) (its : List (List UInt8)), n + d = xs.length → Lib.lens its + its.length + totL wS (xs.drop n) ≤ 100000000 →
    Gets (fun k => impl_PutIntegrity.l0 k (its.map B) xs xs.length n) (B (Lib.join (its ++ itemsL (xs.drop n)) [32])) := by
  induction d with
  | zero =>
    intro n its hn ho
    refine Gets.step1 fun k => ?_
    simp only [impl_PutIntegrity.l0]
    rw [if_neg (by omega), List.drop_of_length_le (by omega), show itemsL [] = [] from rfl, List.append_nil]
    unfold strings_Join.f
    have := join_len its
    rw [strBs, if_pos (by refine ⟨?_, by simp; omega⟩; show (Lib.join its [32]).length ≤ _; omega)]
    rfl
  | succ d ih =>
    intro n its hn ho
    have h : n < xs.length := by omega
    have ht := totL_drop wS xs n h
    have hw := itemL_len (xs[n]'h)
    rw [itemsL_drop xs n h]
    have hs : (itemL (xs[n]'h)).length = (xs[n]'h).f0.size + (b64B (xs[n]'h).f1.data.toList).length + 1 := by unfold itemL; rw [List.length_append, List.length_cons, data_len]; omega
    by_cases hok : okS (xs[n]'h) = true
    · rw [if_pos hok]
      obtain ⟨k1, h1⟩ := ip64 (xs[n]'h).f1 (hx _ (List.getElem_mem h))
      obtain ⟨k2, h2⟩ := ih (n + 1) (its ++ [itemL (xs[n]'h)]) (by omega) (by simp [Lib.lens] at ho ⊢; omega)
      refine ⟨k1 + k2 + 1, fun k hk => ?_⟩
      obtain ⟨q, rfl⟩ : ∃ q, k = q + 1 := ⟨k - 1, by omega⟩
      have e2 : impl_PutBase64.f q (xs[n]'h).f1 = some (B (b64B (xs[n]'h).f1.data.toList)) := by rw [← str_b64]; exact h1 q (by omega)
      have hg := h2 q (by omega)
      simp only [List.map_append, List.map_cons, List.map_nil, List.append_assoc, List.cons_append, List.nil_append] at hg
      have c1 : (xs[n]'h).f0.size + 1 ≤ 9223372036854775807 := by omega
      have c2 : ((xs[n]'h).f0 ++ (⟨#[45]⟩ : ByteArray)).size + (B (b64B (xs[n]'h).f1.data.toList)).size ≤ 9223372036854775807 := by rw [ByteArray.size_append, B_size]; show _ + 1 + _ ≤ _; omega
      have c3 : (its.map B).length < 8796093022208 := by rw [List.length_map]; omega
      simp only [impl_PutIntegrity.l0]
      rw [if_pos (by omega), if_pos (by omega), if_pos (by omega), rdi_Sum xs n h, wrap_succ n (by omega), e2]
      simp only [Option.bind_some]
      rw [if_pos c1, if_pos c2, if_pos c3, item_B0, hg]
      unfold okS okB at hok
      simp only [Bool.or_eq_true, decide_eq_true_eq] at hok
      rcases hok with hok | hok | hok
      · rw [if_pos (show _ = ([115, 104, 97, 49] : List UInt8) from hok)]
      · rw [hok]; simp [sha256L]
      · rw [hok]; simp [sha512L]
    · rw [if_neg hok]
      obtain ⟨k2, h2⟩ := ih (n + 1) its (by omega) (by omega)
      refine ⟨k2 + 1, fun k hk => ?_⟩
      obtain ⟨q, rfl⟩ : ∃ q, k = q + 1 := ⟨k - 1, by omega⟩
      have hg := h2 q (by omega)
      unfold okS okB at hok
      simp only [Bool.or_eq_true, decide_eq_true_eq, not_or] at hok
      simp only [impl_PutIntegrity.l0]
      rw [if_pos (by omega), if_pos (by omega), if_pos (by omega), rdi_Sum xs n h, wrap_succ n (by omega)]
      rw [if_neg (show ¬ _ = ([115, 104, 97, 49] : List UInt8) from hok.1), if_neg (show ¬ _ = ([115, 104, 97, 50, 53, 54] : List UInt8) from hok.2.1), if_neg (show ¬ _ = ([115, 104, 97, 53, 49, 50] : List UInt8) from hok.2.2)]
      exact hg

theorem FnExactPutIntegrity : laws_FnExactPutIntegrity.Pure := by
  intro l hl
  by_cases c : ((l.length + totL n_Sum l : Nat) : Int) ≤ 1048576
  rotate_left
  · refine ⟨l.length + totL n_Sum l + 1, ?_⟩
    unfold laws_FnExactPutIntegrity.f
    rw [szS_Sum l hl _ 1048576 (by omega) (by omega) (by omega)]; simp only [Option.bind_some]
    rw [if_neg c, if_pos (by decide)]
  have hx : ∀ x ∈ l.map cv_Sum, x.f1.size ≤ 1048576 := by
    intro x hx
    have h1 := totL_mem m_Sum _ x hx
    rw [totL_map_Sum] at h1
    have : m_Sum x = x.f0.size + x.f1.size := rfl
    omega
  have hw : totL wS (l.map cv_Sum) ≤ 4 * totL n_Sum l + 2 * l.length := by
    clear hx c hl
    induction l with
    | nil => simp [totL]
    | cons x l ih =>
      have h1 : totL wS (List.map cv_Sum (x :: l)) = wS (cv_Sum x) + totL wS (List.map cv_Sum l) := by simp [totL]
      have h2 : totL n_Sum (x :: l) = n_Sum x + totL n_Sum l := by simp [totL]
      have h3 : wS (cv_Sum x) = x.f0.size + 4 * x.f1.size + 2 := rfl
      have h4 : n_Sum x = x.f0.size + x.f1.size := rfl
      rw [h1, h2, List.length_cons]; omega
  obtain ⟨k1, h1⟩ := sp_integ (l.map cv_Sum) hx (by rw [List.length_map]; omega) (l.map cv_Sum).length 0 [] (by omega) (by rw [List.drop_zero]; simp; omega)
  obtain ⟨k2, h2⟩ := ip_integ (l.map cv_Sum) hx (by rw [List.length_map]; omega) (l.map cv_Sum).length 0 [] (by omega) (by rw [List.drop_zero]; simp [Lib.lens]; omega)
  refine ⟨k1 + k2 + (l.length + totL n_Sum l) + 1, ?_⟩
  unfold laws_FnExactPutIntegrity.f
  rw [szS_Sum l hl _ 1048576 (by omega) (by omega) (by omega)]; simp only [Option.bind_some]
  rw [if_pos c, if_neg (by omega), toS_Sum l _ (by omega) (by omega)]; simp only [Option.bind_some]
  have g1 := h1 (k1 + k2 + (l.length + totL n_Sum l) + 1) (by omega)
  have g2 := h2 (k1 + k2 + (l.length + totL n_Sum l) + 1) (by omega)
  simp only [Int.natCast_zero, List.drop_zero, List.nil_append, List.map_nil] at g1 g2
  rw [show spec_PutIntegrity.f _ (l.map cv_Sum) = _ from g1, show impl_PutIntegrity.f _ (l.map cv_Sum) = _ from g2]; simp only [Option.bind_some]
  rw [eqS_Sum _ _ (by rw [List.length_map, totL_map_Sum]; omega) (by rw [List.length_map, totL_map_Sum]; omega)]
  simp [resS]

end Go.Proofs.Ytadafhefdbfbgaa.Pure
