/- Ranges: the reference. -/
import Derived.Test.YtgegcfhifojjiaaDoorRp
namespace Go.Proofs.YtgegcfhifojjiaaDoor.Vm
open Go Go.RowKit
set_option linter.unusedVariables false
set_option linter.unusedSimpArgs false
def v15 : VC := .seq (.reg false [⟨some 2, .as (.c (.sl ⟨.nl, true⟩ 1 [])), none⟩] [2]) (.seq (.reg false [⟨some 3, .mv (.t 0), none⟩, ⟨some 4, .call false 39 [(.t 3), (.c (.lit (.int .u8 32)))], none⟩, ⟨some 2, .as (.t 4), none⟩] [3, 4]) (.ret))
theorem is15 : Is Go.Proofs.Tryd.prog 15 5 v15 [.t 2] := ⟨Go.Proofs.Tryd.f15, dl [(0, [2]), (1, [3, 4])], Go.Proofs.Tryd.func15, by kernel_rfl, by kernel_rfl, by kernel_rfl, by kernel_rfl⟩
theorem ext_mid (a b c : ByteArray) : (a ++ b ++ c).extract a.size (a.size + b.size) = b := by
  have h := ext_appL (a ++ b) c
  have h2 := ext_app a b
  rw [ByteArray.size_append] at h h2
  rw [← h, ext_ext, Nat.zero_add, Nat.zero_add, Nat.min_self] at h2
  exact h2
theorem bar_at {s : ByteArray} {a k : Nat} (ha : a ≤ s.size) (hk : k ≤ (s.extract a s.size).size) (h : s.extract a s.size = (s.extract a s.size).extract 0 k ++ barB ++ (s.extract a s.size).extract (k + barB.size) (s.extract a s.size).size) : s.extract (a + k) (a + k + 4) = barB ∧ a + k + 4 ≤ s.size := by
  have hz := congrArg ByteArray.size h
  simp only [ByteArray.size_append, ext_size, barB_size] at hz hk
  have hs : ((s.extract a s.size).extract 0 k).size = k := by simp only [ext_size]; omega
  have hm := ext_mid ((s.extract a s.size).extract 0 k) barB ((s.extract a s.size).extract (k + barB.size) (s.extract a s.size).size)
  rw [← h, hs, barB_size, ext_ext, show min (a + (k + 4)) s.size = a + k + 4 by omega] at hm
  exact ⟨hm, by omega⟩
theorem bar_hit {s : ByteArray} {a i : Nat} (ha : a ≤ i) (hi : i + 4 ≤ s.size) (he : s.extract i (i + 4) = barB) (hall : ∀ j, a ≤ j → j < i → s.extract j (j + 4) ≠ barB) : spB barB (s.extract a s.size) = s.extract a i :: spB barB (s.extract (i + 4) s.size) := by
  have hsp : s.extract a s.size = s.extract a i ++ barB ++ s.extract (i + 4) s.size := by
    rw [← he, ByteArray.extract_append_extract, show min a i = a by omega, show max i (i + 4) = i + 4 by omega, ByteArray.extract_append_extract, show min a (i + 4) = a by omega, show max (i + 4) s.size = s.size by omega]
  rcases index_cases (s.extract a s.size) barB with ⟨h, h2⟩ | ⟨k, h, hk, h2, h3⟩
  · exact absurd hsp (h2 _ _)
  · have h4 := h3 _ _ hsp
    rw [ext_size] at h4
    obtain ⟨h5, h6⟩ := bar_at (by omega) hk h2
    rcases Nat.lt_or_ge (a + k) i with h7 | h7
    · exact absurd h5 (hall _ (by omega) h7)
    · obtain rfl : k = i - a := by omega
      rw [spB_hit (by rw [barB_size]; omega) h, ext_ext, ext_ext, ext_size, barB_size, show a + 0 = a by omega, show min (a + (i - a)) s.size = i by omega, show a + (i - a + 4) = i + 4 by omega, show min (a + (min s.size s.size - a)) s.size = s.size by omega]
theorem bar_none {s : ByteArray} {a i : Nat} (ha : a ≤ s.size) (hi : s.size < i + 4) (hall : ∀ j, a ≤ j → j < i → s.extract j (j + 4) ≠ barB) : spB barB (s.extract a s.size) = [s.extract a s.size] := by
  rcases index_cases (s.extract a s.size) barB with ⟨h, h2⟩ | ⟨k, h, hk, h2, h3⟩
  · exact spB_none h
  · obtain ⟨h5, h6⟩ := bar_at ha hk h2
    exact absurd h5 (hall _ (by omega) (by omega))
/-- a bound's ends are right -/
noncomputable def endOk (s : ByteArray) : Bool := isVer s || decide (s = by8 "")
noncomputable def bndOk (l : List (ByteArray × ByteArray)) (i : Nat) : Bool := endOk (l.getD i (by8 "", by8 "")).1 && endOk (l.getD i (by8 "", by8 "")).2
noncomputable def rngOk (l : List (ByteArray × ByteArray)) : Bool := (List.range l.length).all (bndOk l) && inR l.length 1 8
theorem rngOk_one (l h : ByteArray) : rngOk [(l, h)] = (endOk l && endOk h) := by
  simp [rngOk, bndOk, inR, List.range_succ]
theorem end_nil : endOk (by8 "") = true := by simp [endOk]
theorem end_pos {s : ByteArray} (h : 0 < s.size) : endOk s = isVer s := by
  have : ¬ s = by8 "" := fun e => by rw [e, by8_nil] at h; omega
  simp [endOk, this]
theorem ge_head {a : ByteArray} (h : 2 < a.size) : a.extract 0 2 = by8 ">=" ↔ hasP a ge2 = true := by
  rw [hasP_iff]
  constructor
  · intro e
    refine ⟨a.extract 2 a.size, ?_⟩
    rw [show ge2 = a.extract 0 2 from e.symm, ByteArray.extract_append_extract, show min 0 2 = 0 by omega, show max 2 a.size = a.size by omega, ext_all]
  · rintro ⟨t, rfl⟩
    have := ext_appL ge2 t
    rwa [ge2_size] at this
theorem lt_head {a : ByteArray} (h : 1 < a.size) : bt a 0 = 60 ↔ hasP a lt1 = true := by
  rw [lt1_eq, hasP_one]
  simp; omega
theorem ge_short {a : ByteArray} (h : hasP a ge2 = true) (hv : isVer (a.extract 2 a.size) = true) : 2 < a.size := by
  have := ver_pos hv
  rw [ext_size] at this
  omega
theorem lt_short {a : ByteArray} (hv : isVer (a.extract 1 a.size) = true) : 1 < a.size := by
  have := ver_pos hv
  rw [ext_size] at this
  omega
section
variable {E : Env} (hE : E.P = Go.Proofs.Tryd.prog)
include hE
theorem words_fx (s : ByteArray) (hs : s.size ≤ 4294967280) : Fx E 15 [] [.lit (.string s)] [] (.sl ⟨.no, true⟩ 1 ((spl 32 s).map fun x => .lit (.string x))) := by
  refine (is15.to hE).fx [] (by simp) rfl rfl ?_
  simp [v15]
  refine vcall_go (l01Cut_fx hE s 32 hs) (by simp) (by simp) (by simp) (by simp) ?_
  simp
  exact Fin_ret rfl rfl
end
end Go.Proofs.YtgegcfhifojjiaaDoor.Vm
