/- Plain lemmas on texts as lists of bytes, and on rounds. -/
import Derived.Test.YtoihkkkdkpllnaaWWords
import Derived.Laws.Strings
import Derived.Laws.BitsLemmas
import Derived.Lib.Join
namespace Go.Proofs.Ytoihkkkdkpllnaa.Aid
open Go.RowKit Go.Proofs.YtoihkkkdkpllnaaW.PrintWords

/-- A text out of its bytes. -/
def B (l : List UInt8) : ByteArray := ⟨l.toArray⟩
theorem B_data (l : List UInt8) : (B l).data.toList = l := by simp [B]
theorem B_toList (l : List UInt8) : (B l).toList = l := by rw [ByteArray.toList_eq, B_data]
theorem B_of (s : ByteArray) : s = B s.data.toList := by cases s; simp [B]
theorem mk_B (l : List UInt8) : (⟨l.toArray⟩ : ByteArray) = B l := rfl
theorem B_size (l : List UInt8) : (B l).size = l.length := by simp [B, ByteArray.size]
theorem B_append (a b : List UInt8) : B a ++ B b = B (a ++ b) := by
  apply ByteArray.ext; rw [ByteArray.data_append]; simp [B]
theorem B_inj {a b : List UInt8} (h : B a = B b) : a = b := by have := congrArg (·.data.toList) h; simpa [B] using this
theorem B_extract (l : List UInt8) (i j : Nat) : (B l).extract i j = B ((l.take j).drop i) := by
  apply ByteArray.ext; rw [ByteArray.data_extract]; simp [B, List.extract_eq_take_drop, List.drop_take]
theorem strOfNums_B (xs : List Int) : strOfNums xs = B (xs.map fun n => UInt8.ofNat n.toNat) := rfl
theorem bt_B (l : List UInt8) (n : Nat) (h : n < l.length) : bt (B l) (n : Int) = ((l[n]'h).toNat : Int) := by
  unfold bt; rw [dif_pos (by rw [B_size]; simpa using h)]; rfl
theorem bt_lit (l : List UInt8) (n : Nat) (h : n < l.length) (i : Int) (hi : i = n) : bt (B l) i = ((l[n]'h).toNat : Int) := by subst hi; exact bt_B l n h
theorem drop_at {α : Type} (l : List α) (n : Nat) (h : n < l.length) : l.drop n = l[n]'h :: l.drop (n + 1) := List.drop_eq_getElem_cons h
theorem take_drop_one {α : Type} (l : List α) (n : Nat) (h : n < l.length) : (l.take (n + 1)).drop n = [l[n]'h] := by
  rw [List.drop_take, Nat.add_sub_cancel_left, List.drop_eq_getElem_cons h]; rfl
theorem wrap_nat (n : Nat) (h : n < 9223372036854775808) : wrap64 (n : Int) = n := by unfold wrap64; omega
theorem wrap_id (n : Int) (h0 : -9223372036854775808 ≤ n) (h : n < 9223372036854775808) : wrap64 n = n := by unfold wrap64; omega
theorem wrap_succ (n : Nat) (h : n < 9223372036854775807) : wrap64 ((n : Int) + 1) = ((n + 1 : Nat) : Int) := by unfold wrap64; omega
theorem wrap_01 : wrap64 (0 + 1) = 1 := wrap_id _ (by decide) (by decide)
theorem wrap_02 : wrap64 (0 + 2) = 2 := wrap_id _ (by decide) (by decide)
theorem wrap_23 : wrap64 (2 + 1) = 3 := wrap_id _ (by decide) (by decide)
theorem wrap_add (n m : Nat) (h : n + m < 9223372036854775808) : wrap64 ((n : Int) + (m : Int)) = ((n + m : Nat) : Int) := by unfold wrap64; omega
theorem take_drop_two {α : Type} (l : List α) (n : Nat) (h : n + 1 < l.length) : (l.take (n + 2)).drop n = [l[n]'(by omega), l[n + 1]'h] := by
  rw [List.drop_take, Nat.add_sub_cancel_left, List.drop_eq_getElem_cons (by omega), List.drop_eq_getElem_cons h]; rfl
theorem u8_lt (c : UInt8) : c.toNat < 256 := c.toNat_lt

theorem data_len (x : ByteArray) : x.data.toList.length = x.size := by rw [Array.length_toList]; rfl
theorem rdOf_at {α : Type} (d : α) (xs : List α) (n : Nat) (h : n < xs.length) : rdOf d xs (n : Int) = xs[n]'h := by
  unfold rdOf; rw [Int.toNat_natCast]; simp [List.getD, List.getElem?_eq_getElem h]
theorem set_take {α : Type} (l : List α) (e : α) (n d : Nat) (h : n + (d + 1) = l.length) : (l.take n ++ List.replicate (d + 1) e).set n (l[n]'(by omega)) = l.take (n + 1) ++ List.replicate d e := by
  have hl : (l.take n).length = n := by simp; omega
  rw [List.set_append_right _ _ (by omega), hl, Nat.sub_self, List.replicate_succ, List.set_cons_zero, List.take_succ_eq_append_getElem (by omega), List.append_assoc]; rfl
def totS (l : List ByteArray) : Nat := (l.map (·.size)).sum
theorem totS_drop (l : List ByteArray) (n : Nat) (h : n < l.length) : totS (l.drop n) = (l[n]'h).size + totS (l.drop (n + 1)) := by
  rw [drop_at l n h]; unfold totS; rw [List.map_cons, List.sum_cons]
theorem totS_mem (l : List ByteArray) (x : ByteArray) (h : x ∈ l) : x.size ≤ totS l := by
  induction l with
  | nil => cases h
  | cons y l ih =>
    rcases List.mem_cons.1 h with rfl | h
    · simp [totS]
    · have := ih h; simp [totS] at this ⊢; omega
def totL {α : Type} (f : α → Nat) (l : List α) : Nat := (l.map f).sum
theorem totL_drop {α : Type} (f : α → Nat) (l : List α) (n : Nat) (h : n < l.length) : totL f (l.drop n) = f (l[n]'h) + totL f (l.drop (n + 1)) := by
  rw [drop_at l n h]; unfold totL; rw [List.map_cons, List.sum_cons]
theorem totL_mem {α : Type} (f : α → Nat) (l : List α) (x : α) (h : x ∈ l) : f x ≤ totL f l := by
  induction l with
  | nil => cases h
  | cons y l ih =>
    rcases List.mem_cons.1 h with rfl | h
    · simp [totL]
    · have := ih h; simp [totL] at this ⊢; omega
theorem toList_inj {a b : ByteArray} (h : a.toList = b.toList) : a = b := by
  rw [B_of a, B_of b]; rw [ByteArray.toList_eq, ByteArray.toList_eq] at h; rw [h]
/-! ### hexadecimal digits -/
def hexd (n : Nat) : UInt8 := if n < 10 then UInt8.ofNat (48 + n) else UInt8.ofNat (87 + n)
def hex2 (c : UInt8) : List UInt8 := [hexd (c.toNat / 16), hexd (c.toNat % 16)]
theorem bt_hex (n : Nat) (h : n < 16) (i : Int) (hi : i = n) : bt (⟨#[48, 49, 50, 51, 52, 53, 54, 55, 56, 57, 97, 98, 99, 100, 101, 102]⟩ : ByteArray) i = ((hexd n).toNat : Int) := by
  subst hi
  have : ∀ m : Fin 16, bt (⟨#[48, 49, 50, 51, 52, 53, 54, 55, 56, 57, 97, 98, 99, 100, 101, 102]⟩ : ByteArray) ((m.1 : Nat) : Int) = ((hexd m.1).toNat : Int) := by decide
  exact this ⟨n, h⟩
theorem u8_of_nat (c : UInt8) : UInt8.ofNat ((c.toNat : Int)).toNat = c := by simp
theorem map_u8 (l : List UInt8) : (l.map fun c => (c.toNat : Int)).map (fun n => UInt8.ofNat n.toNat) = l := by
  induction l with
  | nil => rfl
  | cons c l ih => rw [List.map_cons, List.map_cons, ih]; simp
/-! ### bytes as numbers -/
def nums8 (l : List UInt8) : List Int := l.map fun c => (c.toNat : Int)
theorem nums8_length (l : List UInt8) : (nums8 l).length = l.length := by simp [nums8]
theorem nums8_append (a b : List UInt8) : nums8 a ++ nums8 b = nums8 (a ++ b) := by simp [nums8]
theorem nums8_one (c : UInt8) : [(c.toNat : Int)] = nums8 [c] := rfl
theorem nums8_two (a b : UInt8) : [(a.toNat : Int), (b.toNat : Int)] = nums8 [a, b] := rfl
theorem strOfNums8 (l : List UInt8) : strOfNums (nums8 l) = B l := by rw [strOfNums_B]; unfold nums8; rw [map_u8]
theorem bytesOf_B (l : List UInt8) : bytesOf (B l) = nums8 l := by simp [bytesOf, nums8, B]
/-! ### quoting -/
def encQ (c : UInt8) : List UInt8 := if c.toNat = 34 ∨ c.toNat = 92 then [92, c] else if c.toNat = 10 then [92, 110] else if c.toNat < 32 ∨ 126 < c.toNat then 92 :: 120 :: hex2 c else [c]
theorem encQ_len (c : UInt8) : (encQ c).length ≤ 4 := by unfold encQ; (repeat' split) <;> simp [hex2]
theorem flat_len (f : UInt8 → List UInt8) (m : Nat) (h : ∀ c, (f c).length ≤ m) (l : List UInt8) : (l.flatMap f).length ≤ m * l.length := by
  induction l with
  | nil => simp
  | cons c l ih => have := h c; rw [List.flatMap_cons, List.length_append, List.length_cons, Nat.mul_add]; omega
def quoteL (l : List UInt8) : List UInt8 := 34 :: (l.flatMap encQ ++ [34])
end Go.Proofs.Ytoihkkkdkpllnaa.Aid
