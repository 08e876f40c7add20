/- Base64, read: plain laws. -/
import Derived.Test.YtgegcfhifojjiaaDoorB6
import Derived.Test.YtgegcfhifojjiaaDoorGr
namespace Go.Proofs.YtgegcfhifojjiaaDoor.Vm
open Go Go.RowKit
set_option linter.unusedVariables false
set_option linter.unusedSimpArgs false
/-- how many signs there are for so many bytes -/
def sgnN (m : Nat) : Nat := m + (m + 2) / 3
/-- six bits at a place -/
def six (b : ByteArray) (i : Nat) : Nat := nv b (3 * (i / 4)) 3 / 2 ^ (18 - 6 * (i % 4)) % 64
theorem six_lt (b : ByteArray) (i : Nat) : six b i < 64 := Nat.mod_lt _ (by decide)
theorem b6_get (s : ByteArray) : ∀ (k i : Nat), i < 4 * k → (b6 s k)[i]? = some (ch s (3 * (i / 4)) (i % 4))
  | 0, i, h => by omega
  | k + 1, i, h => by
    have hl := b6_len s k
    simp only [b6]
    by_cases h1 : i < 4 * k
    · rw [List.getElem?_append_left (by omega)]; exact b6_get s k i h1
    · rw [List.getElem?_append_right (by omega), hl, grp, List.getElem?_map, List.getElem?_range (by omega)]
      simp only [Option.map_some]
      rw [show i / 4 = k by omega, show i % 4 = i - 4 * k by omega]
theorem b64_bt (b : ByteArray) {i : Nat} (h : i < (b64 b).size) : bt (b64 b) i = ch b (3 * (i / 4)) (i % 4) := by
  have h1 := bt_get h
  have h2 : (b64 b).data.toList = b6 b ((b.size + 2) / 3) := rfl
  rw [h2, b6_get b _ i (by rw [b64_size] at h; exact h)] at h1
  exact (Option.some.inj h1).symm
theorem sgnN_le (m : Nat) : sgnN m ≤ 4 * ((m + 2) / 3) := by unfold sgnN; omega
theorem b64_sign (b : ByteArray) {i : Nat} (h : i < sgnN b.size) : bt (b64 b) i = bt sgn (six b i) := by
  have h0 := sgnN_le b.size
  rw [b64_bt b (by rw [b64_size]; omega), ch, if_neg (by unfold sgnN at h; omega)]
  rfl
theorem b64_pad (b : ByteArray) {i : Nat} (h : sgnN b.size ≤ i) (h2 : i < (b64 b).size) : bt (b64 b) i = 61 := by
  rw [b64_bt b h2]
  rw [b64_size] at h2
  rw [ch, if_pos (by unfold sgnN at h; omega)]
theorem sgn_idx : ∀ x : _root_.Fin 64, Lib.indexB sgn (one (bt sgn x.val)) = x.val := by decide +kernel
theorem sgn_idx' {x : Nat} (h : x < 64) : Lib.indexB sgn (one (bt sgn x)) = x := sgn_idx ⟨x, h⟩
theorem sgn_pad : Lib.indexB sgn (one 61) = -1 := by decide +kernel
theorem sgn_not_pad : ∀ x : _root_.Fin 64, bt sgn x.val ≠ 61 := by decide +kernel
/-- three bytes out of four sixes -/
theorem nv3 (b : ByteArray) (i : Nat) : nv b i 3 = (bt b i).toNat * 65536 + (bt b (i + 1)).toNat * 256 + (bt b (i + 2)).toNat := by
  simp only [nv, Nat.add_zero]; omega
theorem byte_out (b : ByteArray) {i : Nat} (hr : i % 4 ≠ 0) {x : Nat} (hx : x % 4096 = six b (i - 1) * 64 + six b i) : x / 2 ^ (2 * (3 - i % 4)) % 256 = (bt b (3 * (i / 4) + i % 4 - 1)).toNat := by
  have h3 := nv3 b (3 * (i / 4))
  have u0 := (bt b (3 * (i / 4))).toNat_lt
  have u1 := (bt b (3 * (i / 4) + 1)).toNat_lt
  have u2 := (bt b (3 * (i / 4) + 2)).toNat_lt
  have hq : (i - 1) / 4 = i / 4 := by omega
  unfold six at hx
  rw [hq, h3] at hx
  have : i % 4 = 1 ∨ i % 4 = 2 ∨ i % 4 = 3 := by omega
  rcases this with e | e | e
  · rw [show (i - 1) % 4 = 0 by omega, e] at hx
    rw [e, show 3 * (i / 4) + 1 - 1 = 3 * (i / 4) by omega]
    simp only [Nat.reduceMul, Nat.reduceSub, Nat.reducePow] at hx ⊢
    omega
  · rw [show (i - 1) % 4 = 1 by omega, e] at hx
    rw [e, show 3 * (i / 4) + 2 - 1 = 3 * (i / 4) + 1 by omega]
    simp only [Nat.reduceMul, Nat.reduceSub, Nat.reducePow] at hx ⊢
    omega
  · rw [show (i - 1) % 4 = 2 by omega, e] at hx
    rw [e, show 3 * (i / 4) + 3 - 1 = 3 * (i / 4) + 2 by omega]
    simp only [Nat.reduceMul, Nat.reduceSub, Nat.reducePow] at hx ⊢
    omega
end Go.Proofs.YtgegcfhifojjiaaDoor.Vm
