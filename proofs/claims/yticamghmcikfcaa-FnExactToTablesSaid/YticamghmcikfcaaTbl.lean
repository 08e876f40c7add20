/- Tables and fields: the laws' helpers. -/
import Derived.Test.YticamghmcikfcaaProg
import Derived.Test.YticamghmcikfcaaMrk
namespace Go.Proofs.Yticamghmcikfcaa.Vm
open Go Go.RowKit
set_option linter.unusedVariables false
set_option linter.unusedSimpArgs false
structure Fld where
  key : ByteArray
  text : ByteArray
  list : List ByteArray
  isL : Bool
structure Tb where
  name : ByteArray
  fields : List Fld
def strs (l : List ByteArray) : AV := .sl ro 1 (l.map fun x => .lit (.string x))
def Fld.av (x : Fld) : List AV := [.lit (.string x.key), .lit (.string x.text), .sl ro 1 (x.list.map fun x => .lit (.string x)), .lit (.bool x.isL)]
def Tb.av (x : Tb) : List AV := [.lit (.string x.name), .sl ro 4 (x.fields.map fun x => .agg x.av)]
theorem Fld.pl (x : Fld) : PlL x.av := by simp [Fld.av]
theorem Tb.pl (x : Tb) : PlL x.av := by simp [Tb.av]
theorem Fld.len (x : Fld) : x.av.length = 4 := rfl
theorem Tb.len (x : Tb) : x.av.length = 2 := rfl
theorem Fld.ok (x : Fld) : x.av.all okC = true := rfl
theorem Tb.ok (x : Tb) : x.av.all okC = true := rfl
@[simp] theorem Fld.noB (d : Nat) (x : Fld) : noB.noL d x.av = true := rfl
@[simp] theorem Tb.noB (d : Nat) (x : Tb) : noB.noL d x.av = true := rfl
@[simp] theorem Fld.noC (d : Nat) (x : Fld) : noC.noL d x.av = true := rfl
@[simp] theorem Tb.noC (d : Nat) (x : Tb) : noC.noL d x.av = true := rfl
def v23 : VC := .seq (.reg false [⟨some 2, .box 2 (.t 0), none⟩, ⟨some 3, .box 2 (.t 1), none⟩, ⟨some 4, .as (.c (.lit (.bool false))), none⟩] [4]) (.seq (.seq (.reg false [⟨some 5, .fa 0 (.t 2), none⟩, ⟨some 6, .ld false 1 (.t 5), none⟩, ⟨some 7, .fa 0 (.t 3), none⟩, ⟨some 8, .ld false 1 (.t 7), none⟩, ⟨some 9, .bin .neq 0 (.t 6) (.t 8), none⟩] [5, 6, 7, 8]) (.cond (.t 9) (.seq (.reg false [⟨some 4, .as (.c (.lit (.bool false))), none⟩] []) (.ret)) (.skip))) (.seq (.seq (.reg false [⟨some 10, .fa 1 (.t 2), none⟩, ⟨some 11, .ld false 1 (.t 10), none⟩, ⟨some 12, .fa 1 (.t 3), none⟩, ⟨some 13, .ld false 1 (.t 12), none⟩, ⟨some 14, .call false 37 [(.t 11), (.t 13)], none⟩, ⟨some 15, .un .not (.t 14), none⟩] [10, 11, 12, 13, 14]) (.cond (.t 15) (.seq (.reg false [⟨some 4, .as (.c (.lit (.bool false))), none⟩] []) (.ret)) (.skip))) (.seq (.reg false [⟨some 4, .as (.c (.lit (.bool true))), none⟩] []) (.ret))))
theorem is23 : Is Go.Proofs.Try.prog 23 16 v23 [.t 4] := ⟨Go.Proofs.Try.f23, dl [(0, [4]), (1, [5, 6, 7, 8]), (3, [10, 11, 12, 13, 14])], Go.Proofs.Try.func23, by kernel_rfl, by kernel_rfl, by kernel_rfl, by kernel_rfl⟩
def v47 : VC := .seq (.reg false [⟨some 2, .box 4 (.t 0), none⟩, ⟨some 3, .box 4 (.t 1), none⟩, ⟨some 4, .as (.c (.lit (.bool false))), none⟩] [4]) (.seq (.seq (.reg false [⟨some 5, .fa 0 (.t 2), none⟩, ⟨some 6, .ld false 1 (.t 5), none⟩, ⟨some 7, .fa 0 (.t 3), none⟩, ⟨some 8, .ld false 1 (.t 7), none⟩, ⟨some 9, .bin .neq 0 (.t 6) (.t 8), none⟩] [5, 6, 7, 8]) (.cond (.t 9) (.seq (.reg false [⟨some 4, .as (.c (.lit (.bool false))), none⟩] []) (.ret)) (.skip))) (.seq (.seq (.reg false [⟨some 10, .fa 1 (.t 2), none⟩, ⟨some 11, .ld false 1 (.t 10), none⟩, ⟨some 12, .fa 1 (.t 3), none⟩, ⟨some 13, .ld false 1 (.t 12), none⟩, ⟨some 14, .bin .neq 0 (.t 11) (.t 13), none⟩] [10, 11, 12, 13]) (.cond (.t 14) (.seq (.reg false [⟨some 4, .as (.c (.lit (.bool false))), none⟩] []) (.ret)) (.skip))) (.seq (.seq (.reg false [⟨some 15, .fa 2 (.t 2), none⟩, ⟨some 16, .ld false 1 (.t 15), none⟩, ⟨some 17, .fa 2 (.t 3), none⟩, ⟨some 18, .ld false 1 (.t 17), none⟩, ⟨some 19, .call false 24 [(.t 16), (.t 18)], none⟩, ⟨some 20, .un .not (.t 19), none⟩] [15, 16, 17, 18, 19]) (.cond (.t 20) (.seq (.reg false [⟨some 4, .as (.c (.lit (.bool false))), none⟩] []) (.ret)) (.skip))) (.seq (.seq (.reg false [⟨some 21, .fa 3 (.t 2), none⟩, ⟨some 22, .ld false 1 (.t 21), none⟩, ⟨some 23, .fa 3 (.t 3), none⟩, ⟨some 24, .ld false 1 (.t 23), none⟩, ⟨some 25, .bin .neq 2 (.t 22) (.t 24), none⟩] [21, 22, 23, 24]) (.cond (.t 25) (.seq (.reg false [⟨some 4, .as (.c (.lit (.bool false))), none⟩] []) (.ret)) (.skip))) (.seq (.reg false [⟨some 4, .as (.c (.lit (.bool true))), none⟩] []) (.ret))))))
theorem is47 : Is Go.Proofs.Try.prog 47 26 v47 [.t 4] := ⟨Go.Proofs.Try.f47, dl [(0, [4]), (1, [5, 6, 7, 8]), (3, [10, 11, 12, 13]), (5, [15, 16, 17, 18, 19]), (7, [21, 22, 23, 24])], Go.Proofs.Try.func47, by kernel_rfl, by kernel_rfl, by kernel_rfl, by kernel_rfl⟩

theorem is13 : Is Go.Proofs.Try.prog 13 28 (szStr) [.t 4] := ⟨Go.Proofs.Try.f13, dl [(0, [4]), (1, [6, 7, 8, 9]), (2, [10]), (5, [12, 13, 14]), (7, [18, 19, 20, 21, 22, 23, 24]), (8, [25]), (6, [16, 17]), (10, [27])], Go.Proofs.Try.func13, by kernel_rfl, by kernel_rfl, by kernel_rfl, by kernel_rfl⟩
theorem is16 : Is Go.Proofs.Try.prog 16 22 (toStr) [.t 2] := ⟨Go.Proofs.Try.f16, dl [(0, [2]), (1, [5, 6, 7]), (3, [8, 9, 10]), (5, [14, 15, 16, 17, 18, 19, 20]), (4, [12, 13]), (6, [21])], Go.Proofs.Try.func16, by kernel_rfl, by kernel_rfl, by kernel_rfl, by kernel_rfl⟩

theorem is24 : Is Go.Proofs.Try.prog 24 26 (eqStr) [.t 4] := ⟨Go.Proofs.Try.f24, dl [(0, [4]), (1, [6, 7, 8, 9]), (4, [11, 12, 13]), (6, [17, 18, 19, 20, 21, 22, 23, 24]), (5, [15, 16])], Go.Proofs.Try.func24, by kernel_rfl, by kernel_rfl, by kernel_rfl, by kernel_rfl⟩
theorem is37 : Is Go.Proofs.Try.prog 37 27 (eqS 4 47) [.t 4] := ⟨Go.Proofs.Try.f37, dl [(0, [4]), (1, [6, 7, 8, 9]), (4, [11, 12, 13]), (6, [17, 18, 19, 20, 21, 22, 23, 24, 25]), (5, [15, 16])], Go.Proofs.Try.func37, by kernel_rfl, by kernel_rfl, by kernel_rfl, by kernel_rfl⟩
/-- lengths as data has them -/
def Fld.good (x : Fld) : Prop := x.key.size ≤ 9223372036854775807 ∧ x.text.size ≤ 9223372036854775807 ∧ x.list.length ≤ 9223372036854775807 ∧ ∀ s ∈ x.list, s.size ≤ 9223372036854775807
def Tb.good (x : Tb) : Prop := x.name.size ≤ 9223372036854775807 ∧ x.fields.length ≤ 9223372036854775807 ∧ ∀ f ∈ x.fields, f.good
def Fld.sz (x : Fld) (l : Int) : Int := szIf (l - x.key.size) fun l => szIf (l - x.text.size) fun l => szIf (szL (fun x l => l - x.size) x.list l) fun l => l
def Tb.sz (x : Tb) (l : Int) : Int := szIf (l - x.name.size) fun l => szIf (szL Fld.sz x.fields l) fun l => l
theorem Fld.sz_le (x : Fld) (l : Int) (h : 0 ≤ l) : x.sz l ≤ l :=
  szIf_le (by omega) h fun h1 => szIf_le (by omega) h fun h2 => szIf_le (by have := szL_le (f := fun (x : ByteArray) l => l - x.size) (xs := x.list) (l := l - x.key.size - x.text.size) (fun x _ l _ => by omega) h2; omega) h fun h3 => by
    have := szL_le (f := fun (x : ByteArray) l => l - x.size) (xs := x.list) (l := l - x.key.size - x.text.size) (fun x _ l _ => by omega) h2
    omega
theorem Tb.sz_le (x : Tb) (l : Int) (h : 0 ≤ l) : x.sz l ≤ l :=
  szIf_le (by omega) h fun h1 => szIf_le (by have := szL_le (f := Fld.sz) (xs := x.fields) (l := l - x.name.size) (fun x _ l h => x.sz_le l h) h1; omega) h fun h3 => by
    have := szL_le (f := Fld.sz) (xs := x.fields) (l := l - x.name.size) (fun x _ l h => x.sz_le l h) h1
    omega
section
variable {E : Env} (hE : E.P = Go.Proofs.Try.prog)
include hE
def Fld.eq (x y : Fld) : Bool := decide (x.key = y.key) && decide (x.text = y.text) && all2 (fun x y => decide (x = y)) x.list y.list && (x.isL == y.isL)
def Tb.eq (x y : Tb) : Bool := decide (x.name = y.name) && all2 Fld.eq x.fields y.fields
theorem eqField_fx (x y : Fld) (h : x.list.length ≤ 1048576) : Fx E 47 [] [.agg x.av, .agg y.av] [] (.lit (.bool (x.eq y))) := by
  refine (is47.to hE).fx [] (by simp) rfl rfl ?_
  simp [v47, Fld.av, okC, mkF]
  by_cases c1 : x.key = y.key
  · simp [c1]
    by_cases c2 : x.text = y.text
    · simp [c2]
      refine vcall_go (eqStr_fx (is24.to hE) (by decide) x.list y.list (by omega)) (by simp) (by simp) (by simp) (by simp) ?_
      simp
      cases c3 : all2 (fun x y => decide (x = y)) x.list y.list
      · simp
        exact Fin_ret rfl (by simp [Fld.eq, c3, reC])
      · simp
        by_cases c4 : x.isL = y.isL
        · simp [c4]
          exact Fin_ret rfl (by simp [Fld.eq, c1, c2, c3, c4, reC])
        · have c5 : (x.isL == y.isL) = false := by simpa using c4
          simp [c5]
          exact Fin_ret rfl (by simp [Fld.eq, c5, reC])
    · simp [c2]
      exact Fin_ret rfl (by simp [Fld.eq, c2, reC])
  · simp [c1]
    exact Fin_ret rfl (by simp [Fld.eq, c1, reC])
theorem eqFieldS_fx (xs ys : List Fld) (h : xs.length ≤ 2097152) (hx : ∀ x ∈ xs, x.list.length ≤ 1048576) : Fx E 37 [] [.sl ro 4 (xs.map fun x => .agg x.av), .sl ro 4 (ys.map fun x => .agg x.av)] [] (.lit (.bool (all2 Fld.eq xs ys))) :=
  eqS_fx (is37.to hE) (by decide) Fld.pl Fld.pl Fld.len Fld.len xs (fun x y hm => eqField_fx hE x y (hx x hm)) ys (by omega)
theorem eqTable_fx (x y : Tb) (h : x.fields.length ≤ 2097152) (hx : ∀ f ∈ x.fields, f.list.length ≤ 1048576) : Fx E 23 [] [.agg x.av, .agg y.av] [] (.lit (.bool (x.eq y))) := by
  refine (is23.to hE).fx [] (by simp) rfl rfl ?_
  simp [v23, Tb.av, okC, mkF]
  by_cases c1 : x.name = y.name
  · simp [c1]
    refine vcall_go (eqFieldS_fx hE x.fields y.fields h hx) (by simp) (by simp) (by simp) (by simp) ?_
    simp
    cases c3 : all2 Fld.eq x.fields y.fields
    · simp
      exact Fin_ret rfl (by simp [Tb.eq, c3, reC])
    · simp
      exact Fin_ret rfl (by simp [Tb.eq, c1, c3, reC])
  · simp [c1]
    exact Fin_ret rfl (by simp [Tb.eq, c1, reC])
end
end Go.Proofs.Yticamghmcikfcaa.Vm
