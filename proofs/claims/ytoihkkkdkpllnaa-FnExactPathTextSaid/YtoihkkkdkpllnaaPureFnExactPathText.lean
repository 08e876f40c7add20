/- For every path the program's PathText returns what the reference's PathText returns, and the path is as it was. No condition. -/
import Derived.Test.YtoihkkkdkpllnaaPFnExactPathTextx1
import Derived.Test.YtoihkkkdkpllnaaAid
namespace Go.Proofs.Ytoihkkkdkpllnaa.Pure
open Go.RowKit Go.Proofs.Ytoihkkkdkpllnaa.PFnExactPathText Go.Proofs.YtoihkkkdkpllnaaW.PrintWords Go.Proofs.YtoihkkkdkpllnaaW.PrintLast Go.Proofs.Ytoihkkkdkpllnaa.Aid
set_option linter.unusedSimpArgs false
set_option linter.unusedVariables false
/-! ### the laws' own helpers on lists of texts -/
theorem sz_str_l (l : List ByteArray) (hg : ∀ x ∈ l, x.size ≤ 9223372036854775807) (d : Nat) : ∀ (k n : Nat) (a : Int), n + d = l.length → d < k → 0 ≤ a → a ≤ 1048576 → l.length ≤ 1048576 →
    laws_szStringS.l0 k l a n = some (if (totS (l.drop n) : Int) ≤ a then a - totS (l.drop n) else -1) := by
  induction d with
  | zero =>
    intro k n a hn hk h0 h1 hl
    obtain ⟨k, rfl⟩ : ∃ m, k = m + 1 := ⟨k - 1, by omega⟩
    simp only [laws_szStringS.l0]
    rw [if_neg (by omega), List.drop_of_length_le (by omega), if_pos (by simp [totS]; omega)]; simp [totS]
  | succ d ih =>
    intro k n a hn hk h0 h1 hl
    obtain ⟨k, rfl⟩ : ∃ m, k = m + 1 := ⟨k - 1, by omega⟩
    have hlt : n < l.length := by omega
    have hx := hg _ (List.getElem_mem hlt)
    simp only [laws_szStringS.l0]
    rw [if_pos (by omega), if_pos (by omega), rdOf_at _ l n hlt, wrap_id (a - ((l[n]'hlt).size : Int)) (by omega) (by omega), wrap_succ n (by omega), totS_drop l n hlt]
    by_cases h : a - ((l[n]'hlt).size : Int) < 0
    · rw [if_pos h, if_neg (by omega)]
    · rw [if_neg h, ih k (n + 1) _ (by omega) (by omega) (by omega) (by omega) hl]
      congr 1
      split <;> split <;> omega
theorem sz_str (l : List ByteArray) (hl : l.length ≤ 9223372036854775807) (hg : ∀ x ∈ l, x.size ≤ 9223372036854775807) (k : Nat) (a : Int) (hk : l.length < k) (h0 : 0 ≤ a) (h1 : a ≤ 1048576) :
    laws_szStringS.f k l a = some (if ((l.length + totS l : Nat) : Int) ≤ a then a - ((l.length + totS l : Nat) : Int) else -1) := by
  unfold laws_szStringS.f
  rw [wrap_id (a - (l.length : Int)) (by omega) (by omega)]
  by_cases h : a - (l.length : Int) < 0
  · rw [if_pos h, if_neg (by omega)]
  · rw [if_neg h]
    have := sz_str_l l hg l.length k 0 (a - (l.length : Int)) (by omega) hk (by omega) (by omega) (by omega)
    simp only [Int.natCast_zero, List.drop_zero] at this
    rw [this]; congr 1
    split <;> split <;> omega
theorem to_str_l (l : List ByteArray) (d : Nat) : ∀ (k n : Nat), n + d = l.length → d < k → l.length ≤ 1048576 →
    laws_toStringS.l0 k l (l.take n ++ List.replicate d ⟨#[]⟩) n = some l := by
  induction d with
  | zero =>
    intro k n hn hk hl
    obtain ⟨k, rfl⟩ : ∃ m, k = m + 1 := ⟨k - 1, by omega⟩
    simp only [laws_toStringS.l0]
    rw [if_neg (by omega), List.take_of_length_le (by omega)]; simp
  | succ d ih =>
    intro k n hn hk hl
    obtain ⟨k, rfl⟩ : ∃ m, k = m + 1 := ⟨k - 1, by omega⟩
    have hlt : n < l.length := by omega
    have hlen : (l.take n ++ List.replicate (d + 1) (⟨#[]⟩ : ByteArray)).length = l.length := by simp; omega
    simp only [laws_toStringS.l0]
    rw [hlen, if_pos (by omega), if_pos (by omega), if_pos (by omega), rdOf_at _ l n hlt, Int.toNat_natCast, set_take l _ n d hn, wrap_succ n (by omega)]
    exact ih k (n + 1) (by omega) (by omega) hl
theorem to_str (l : List ByteArray) (k : Nat) (hk : l.length < k) (hl : l.length ≤ 1048576) : laws_toStringS.f k l = some l := by
  unfold laws_toStringS.f
  rw [if_pos (by omega), if_pos (by omega), Int.toNat_natCast]
  have := to_str_l l l.length k 0 (by omega) hk hl
  simpa using this
theorem eq_str_l (l m : List ByteArray) (he : l.length = m.length) (d : Nat) : ∀ (k n : Nat), n + d = l.length → d < k → l.length ≤ 1048576 →
    laws_eqStringS.l0 k l m n = some (decide (l.drop n = m.drop n)) := by
  induction d with
  | zero =>
    intro k n hn hk hl
    obtain ⟨k, rfl⟩ : ∃ m, k = m + 1 := ⟨k - 1, by omega⟩
    simp only [laws_eqStringS.l0]
    rw [if_neg (by omega), List.drop_of_length_le (by omega), List.drop_of_length_le (by omega)]; simp
  | succ d ih =>
    intro k n hn hk hl
    obtain ⟨k, rfl⟩ : ∃ m, k = m + 1 := ⟨k - 1, by omega⟩
    have hlt : n < l.length := by omega
    have hlt' : n < m.length := by omega
    simp only [laws_eqStringS.l0]
    rw [if_pos (by omega), if_pos (by omega), if_pos (by omega), rdOf_at _ l n hlt, rdOf_at _ m n hlt', wrap_succ n (by omega), drop_at l n hlt, drop_at m n hlt']
    by_cases h : (l[n]'hlt).toList = (m[n]'hlt').toList
    · rw [if_pos h, ih k (n + 1) (by omega) (by omega) hl, toList_inj h]
      congr 1
      generalize l.drop (n + 1) = a
      generalize m.drop (n + 1) = b
      generalize m[n]'hlt' = x
      simp
    · rw [if_neg h, decide_eq_false]
      intro hq; injection hq with h1 _; exact h (by rw [h1])
theorem eq_str (l m : List ByteArray) (k : Nat) (hk : l.length < k) (hl : l.length ≤ 1048576) : laws_eqStringS.f k l m = some (decide (l = m)) := by
  unfold laws_eqStringS.f
  by_cases h : (l.length : Int) = (m.length : Int)
  · rw [if_pos h]
    have := eq_str_l l m (by omega) l.length k 0 (by omega) hk hl
    simpa using this
  · rw [if_neg h, decide_eq_false]
    rintro rfl; exact h rfl

def mods : List UInt8 := [110, 111, 100, 101, 95, 109, 111, 100, 117, 108, 101, 115, 47]
def pm (x : ByteArray) : List UInt8 := mods ++ x.data.toList
theorem tail_len (l : List ByteArray) : (Lib.joinTail [47] (l.map pm)).length = 14 * l.length + totS l := by
  induction l with
  | nil => simp [Lib.joinTail, totS]
  | cons x l ih =>
    simp only [Lib.joinTail, List.map_cons, List.flatten_cons, List.length_append] at ih ⊢
    rw [ih]; simp only [pm, mods, totS, List.map_cons, List.sum_cons, List.length_append, List.length_cons, List.length_nil, data_len]; omega
theorem spec_path (l : List ByteArray) (d : Nat) : ∀ (k n : Nat) (acc : List UInt8), n + d = l.length → d < k → 0 < n → l.length ≤ 1048576 → acc.length + 14 * d + totS (l.drop n) ≤ 1073741824 →
    spec_PathText.l0 k l (B acc) n = some (B (acc ++ Lib.joinTail [47] ((l.drop n).map pm))) := by
  induction d with
  | zero =>
    intro k n acc hn hk hp hl ha
    obtain ⟨k, rfl⟩ : ∃ m, k = m + 1 := ⟨k - 1, by omega⟩
    simp only [spec_PathText.l0]
    rw [if_neg (by omega), List.drop_of_length_le (by omega)]; simp [Lib.joinTail]
  | succ d ih =>
    intro k n acc hn hk hp hl ha
    obtain ⟨k, rfl⟩ : ∃ m, k = m + 1 := ⟨k - 1, by omega⟩
    have hlt : n < l.length := by omega
    rw [totS_drop l n hlt] at ha
    have hs : (l[n]'hlt).data.toList.length = (l[n]'hlt).size := data_len _
    simp only [spec_PathText.l0]
    rw [if_pos (by omega), if_pos (by omega), rdOf_at _ l n hlt, B_of (l[n]'hlt)]
    simp only [mk_B, B_append, B_size, List.length_append, List.length_cons, List.length_nil]
    rw [if_pos (by omega), if_pos (by omega), if_pos (by omega), if_pos (by omega), wrap_succ n (by omega), ih k (n + 1) _ (by omega) (by omega) (by omega) hl (by simp [data_len]; omega), drop_at l n hlt]
    generalize l.drop (n + 1) = rest
    generalize l[n]'hlt = x
    simp [Lib.joinTail, pm, mods, B_data]
theorem spec_path_f (l : List ByteArray) (k : Nat) (hk : l.length < k) (hl : l.length ≤ 1048576) (hs : totS l ≤ 1048576) :
    spec_PathText.f k l = some (B (Lib.join (l.map pm) [47])) := by
  unfold spec_PathText.f
  obtain ⟨k, rfl⟩ : ∃ m, k = m + 1 := ⟨k - 1, by omega⟩
  cases l with
  | nil => simp [spec_PathText.l0, Lib.join_nil, B]
  | cons x l =>
    simp only [List.length_cons] at hk hl
    have hx : x.size + totS l ≤ 1048576 := by simpa [totS] using hs
    have hs : x.data.toList.length = x.size := data_len _
    simp only [spec_PathText.l0, List.length_cons]
    rw [if_pos (by omega), if_neg (by omega), show (0 : Int) = ((0 : Nat) : Int) from rfl, rdOf_at _ (x :: l) 0 (by simp), List.getElem_cons_zero, B_of x]
    simp only [mk_B, B_append, B_size, List.length_append, List.length_cons, List.length_nil]
    rw [if_pos (by omega), if_pos (by omega), if_pos (by omega), wrap_succ 0 (by omega), spec_path (B x.data.toList :: l) l.length k 1 _ (by simp; omega) (by omega) (by omega) (by simp; omega) (by simp; omega)]
    simp [Lib.join_cons, pm, mods, B_data]
def modB (x : ByteArray) : ByteArray := (⟨#[110, 111, 100, 101, 95, 109, 111, 100, 117, 108, 101, 115, 47]⟩ : ByteArray) ++ x
theorem modB_data (x : ByteArray) : (modB x).data.toList = pm x := by rw [B_of x]; simp [modB, mk_B, B_append, B_data, pm, mods]
theorem impl_path (l : List ByteArray) (hl : l.length ≤ 1048576) (hs : totS l ≤ 1048576) (d : Nat) : ∀ (k n : Nat), n + d = l.length → d < k →
    impl_PathText.l0 k ((l.take n).map modB) l l.length n = some (B (Lib.join (l.map pm) [47])) := by
  induction d with
  | zero =>
    intro k n hn hk
    obtain ⟨k, rfl⟩ : ∃ m, k = m + 1 := ⟨k - 1, by omega⟩
    have hm : (l.map modB).map (·.data.toList) = l.map pm := by simp [modB_data]
    have hj : (Lib.join (l.map pm) [47]).length ≤ 140737488355328 := by
      cases l with
      | nil => simp [Lib.join_nil]
      | cons x l =>
        have := tail_len l
        have hx : x.size + totS l ≤ 1048576 := by simpa [totS] using hs
        have h2 : x.data.toList.length = x.size := data_len _
        simp only [List.length_cons] at hl
        rw [List.map_cons, Lib.join_cons, List.length_append, this]
        simp [pm, mods]; omega
    simp only [impl_PathText.l0]
    rw [if_neg (by omega), List.take_of_length_le (by omega)]
    unfold strings_Join.f
    rw [hm, show ((⟨#[47]⟩ : ByteArray)).data.toList = [47] from rfl, if_pos ⟨hj, by simp; omega⟩]; rfl
  | succ d ih =>
    intro k n hn hk
    obtain ⟨k, rfl⟩ : ∃ m, k = m + 1 := ⟨k - 1, by omega⟩
    have hlt : n < l.length := by omega
    have hx := totS_mem l _ (List.getElem_mem hlt)
    simp only [impl_PathText.l0]
    rw [if_pos (by omega), if_pos (by omega), if_pos (by omega), rdOf_at _ l n hlt, if_pos (by omega), if_pos (by simp; omega), wrap_succ n (by omega)]
    have h1 : (l.take n).map modB ++ [(⟨#[110, 111, 100, 101, 95, 109, 111, 100, 117, 108, 101, 115, 47]⟩ : ByteArray) ++ l[n]'hlt] = (l.take (n + 1)).map modB := by
      rw [List.take_succ_eq_append_getElem hlt, List.map_append]; rfl
    rw [h1]
    exact ih k (n + 1) (by omega) (by omega)
theorem FnExactPathText : laws_FnExactPathText.Pure := by
  intro l hg
  refine ⟨l.length + 2, ?_⟩
  unfold laws_FnExactPathText.f
  rw [sz_str l hg.1 hg.2 _ _ (by omega) (by omega) (by omega)]
  simp only [Option.bind_some]
  by_cases h : ((l.length + totS l : Nat) : Int) ≤ 1048576
  · rw [if_pos h, if_neg (by omega), to_str l _ (by omega) (by omega)]
    simp only [Option.bind_some]
    have hi := impl_path l (by omega) (by omega) l.length (l.length + 2) 0 (by omega) (by omega)
    simp only [Int.natCast_zero, List.take_zero, List.map_nil] at hi
    rw [spec_path_f l _ (by omega) (by omega) (by omega)]
    unfold impl_PathText.f
    rw [hi]
    simp only [Option.bind_some]
    rw [if_pos trivial, eq_str l l _ (by omega) (by omega)]
    simp
  · rw [if_neg h]; rfl

end Go.Proofs.Ytoihkkkdkpllnaa.Pure
