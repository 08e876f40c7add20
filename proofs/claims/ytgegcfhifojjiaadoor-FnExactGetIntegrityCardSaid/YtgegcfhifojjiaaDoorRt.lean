/- Ranges: the reference, more. -/
import Derived.Test.YtgegcfhifojjiaaDoorRs
namespace Go.Proofs.YtgegcfhifojjiaaDoor.Vm
open Go Go.RowKit
set_option linter.unusedVariables false
set_option linter.unusedSimpArgs false

noncomputable def bndR : Option (ByteArray × ByteArray) → AV
  | some p => .tup [bndV p.1 p.2, .lit (.bool true)]
  | none => .tup [bndV (by8 "") (by8 ""), .lit (.bool false)]
theorem bndR_ok (o : Option (ByteArray × ByteArray)) : resOk (bndR o) = true := by cases o <;> rfl
theorem w64_0 : IntKind.i64.wrap 0 = 0 := wrap_i64 (by omega) (by omega)
theorem w64_1 : IntKind.i64.wrap 1 = 1 := wrap_i64 (by omega) (by omega)
theorem short_more {s : ByteArray} {w : List ByteArray} (h : spl 46 s = w) (h2 : 2 < w.length) : shortO s = none := by
  unfold shortO
  rw [h]
  match w, h2 with
  | a :: b :: c :: r, _ => rfl
noncomputable def lastO (s : ByteArray) : Option (ByteArray × ByteArray) := match exactO s with
  | some p => some p
  | none => shortO s
theorem part_sgn {s : ByteArray} (c0 : ¬ s = by8 "*") (h0 : 0 < s.size) (h : bt s 0 = 62 ∨ bt s 0 = 60) : partO s = sgnO s := by
  have h1 : ¬ (0 < s.size ∧ (bt s 0 = 94 ∨ bt s 0 = 126)) := by
    rintro ⟨_, h2⟩
    rcases h with h | h <;> rw [h] at h2 <;> revert h2 <;> decide
  rw [partO, if_neg c0, if_neg h1, if_pos ⟨h0, h⟩]
theorem part_car {s : ByteArray} (c0 : ¬ s = by8 "*") (h0 : 0 < s.size) (h : bt s 0 = 94 ∨ bt s 0 = 126) : partO s = carO s := by
  rw [partO, if_neg c0, if_pos ⟨h0, h⟩]
theorem part_last {s : ByteArray} (c0 : ¬ s = by8 "*") (h9 : ¬ (0 < s.size ∧ (bt s 0 = 94 ∨ bt s 0 = 126)) ∨ s.size ≤ 1) (h8 : ¬ (0 < s.size ∧ (bt s 0 = 62 ∨ bt s 0 = 60))) : partO s = lastO s := by
  rw [partO, if_neg c0]
  rcases h9 with h9 | h9
  · rw [if_neg h9, if_neg h8]; rfl
  · by_cases h7 : 0 < s.size ∧ (bt s 0 = 94 ∨ bt s 0 = 126)
    · have h6 : s.extract 1 s.size = by8 "" := size_nil (by rw [ext_size]; omega)
      have h5 : readVer s = none ∧ shortO s = none := by
        rcases h7.2 with h | h
        · exact first_no (c := 94) (by decide) (by decide) (by decide) (by decide +kernel) h7.1 h
        · exact first_no (c := 126) (by decide) (by decide) (by decide) (by decide +kernel) h7.1 h
      have h4 : readVer (by8 "") = none := by rw [readVer, cand_nil]; rfl
      rw [if_pos h7, carO, h6, h4, lastO, exact_no h5.1, h5.2]
    · rw [if_neg h7, if_neg h8]; rfl
noncomputable def rngRes (s : ByteArray) : AV := match rngO s with
  | some l => .tup [.sl ⟨.no, true⟩ 2 (l.map fun b => bndV b.1 b.2), .lit (.bool true)]
  | none => .tup [.sl ⟨.no, true⟩ 2 [], .lit (.bool false)]
theorem rngRes_ok (s : ByteArray) : resOk (rngRes s) = true := by unfold rngRes; cases rngO s <;> rfl
theorem fin_row2 {n m sz : Nat} {xs : List AV} {s : AS} {r : AV} {ap : Ap} {v : Value} (hnm : n ≠ m) (h : s.get n = .sl ⟨ap, true⟩ sz xs) (h2 : s.get m = .lit v) (hr : r = .tup [.sl ⟨.no, true⟩ sz xs, .lit v]) : Fin [.t n, .t m] r [] .ret s := Fin_wk2' (s1 := ⟨[(n, .sl ⟨.no, true⟩ sz xs), (m, .lit v)], []⟩) (Wk.both (by simp [wkL, h, h2, wkV.same]; exact wkV_no ap true sz xs) (by simp [wkB])) (r1 := .sl ⟨.no, true⟩ sz xs) (r2 := .lit v) (by simp [resVs, resV, AS.get, look, hnm]; rw [if_neg fun e => hnm e.symm]; rfl) (by rw [hr]; rfl)
theorem fin_nil2 {n m sz : Nat} {s : AS} {r : AV} {v : Value} (hnm : n ≠ m) (h : s.get n = .sl ⟨.nl, true⟩ 1 []) (h2 : s.get m = .lit v) (hr : r = .tup [.sl ⟨.no, true⟩ sz [], .lit v]) : Fin [.t n, .t m] r [] .ret s := Fin_wk2' (s1 := ⟨[(n, .sl ⟨.no, true⟩ sz []), (m, .lit v)], []⟩) (Wk.both (by simp [wkL, h, h2, wkV.same]; exact .inr (.inr ⟨_, _, _, _, _, rfl, rfl, id, .inl ⟨rfl, .inr rfl⟩⟩)) (by simp [wkB])) (r1 := .sl ⟨.no, true⟩ sz []) (r2 := .lit v) (by simp [resVs, resV, AS.get, look, hnm]; rw [if_neg fun e => hnm e.symm]; rfl) (by rw [hr]; rfl)
theorem parts_size {s p : ByteArray} (h : p ∈ spB barB s) : p.size ≤ s.size := spB_size (by rw [barB_size]; omega) s.size s (Nat.le_refl _) p h
section
variable {E : Env} (hE : E.P = Go.Proofs.Tryd.prog)
include hE
end
end Go.Proofs.YtgegcfhifojjiaaDoor.Vm
