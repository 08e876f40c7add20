/- Tables and fields: the laws' helpers. -/
import Derived.Test.YtgegcfhifojjiaaProg
import Derived.Test.YtgegcfhifojjiaaMrk
namespace Go.Proofs.Ytgegcfhifojjiaa.Vm
open Go Go.RowKit
set_option linter.unusedVariables false
set_option linter.unusedSimpArgs false
structure Fld where
  key : ByteArray
  text : ByteArray
  list : List ByteArray
  isL : Bool
structure Tb where
  name : ByteArray
  fields : List Fld
def strs (l : List ByteArray) : AV := .sl ro 1 (l.map fun x => .lit (.string x))
def Fld.av (x : Fld) : List AV := [.lit (.string x.key), .lit (.string x.text), .sl ro 1 (x.list.map fun x => .lit (.string x)), .lit (.bool x.isL)]
def Tb.av (x : Tb) : List AV := [.lit (.string x.name), .sl ro 4 (x.fields.map fun x => .agg x.av)]
theorem Fld.pl (x : Fld) : PlL x.av := by simp [Fld.av]
theorem Tb.pl (x : Tb) : PlL x.av := by simp [Tb.av]
theorem Fld.len (x : Fld) : x.av.length = 4 := rfl
theorem Tb.len (x : Tb) : x.av.length = 2 := rfl
theorem Fld.ok (x : Fld) : x.av.all okC = true := rfl
theorem Tb.ok (x : Tb) : x.av.all okC = true := rfl
@[simp] theorem Fld.noB (d : Nat) (x : Fld) : noB.noL d x.av = true := rfl
@[simp] theorem Tb.noB (d : Nat) (x : Tb) : noB.noL d x.av = true := rfl
@[simp] theorem Fld.noC (d : Nat) (x : Fld) : noC.noL d x.av = true := rfl
@[simp] theorem Tb.noC (d : Nat) (x : Tb) : noC.noL d x.av = true := rfl
def v5 : VC := .seq (.reg false [⟨some 2, .box 2 (.t 0), none⟩, ⟨some 4, .as (.c (.lit (.int .i64 0))), none⟩] [4]) (.seq (.reg false [⟨some 5, .mv (.t 1), none⟩, ⟨some 6, .fa 0 (.t 2), none⟩, ⟨some 7, .ld false 1 (.t 6), none⟩, ⟨some 8, .len true (.t 7), none⟩, ⟨some 9, .bin .sub 0 (.t 5) (.t 8), none⟩, ⟨some 1, .as (.t 9), none⟩] [5, 6, 7, 8, 9]) (.seq (.seq (.reg false [⟨some 10, .mv (.t 1), none⟩, ⟨some 11, .bin .lss 0 (.t 10) (.c (.lit (.int .i64 0))), none⟩] [10]) (.cond (.t 11) (.seq (.reg false [⟨some 4, .as (.c (.lit (.int .i64 (-1)))), none⟩] []) (.ret)) (.skip))) (.seq (.reg false [⟨some 12, .fa 1 (.t 2), none⟩, ⟨some 13, .ld false 1 (.t 12), none⟩, ⟨some 14, .mv (.t 1), none⟩, ⟨some 15, .call false 25 [(.t 13), (.t 14)], none⟩, ⟨some 1, .as (.t 15), none⟩] [12, 13, 14, 15]) (.seq (.seq (.reg false [⟨some 16, .mv (.t 1), none⟩, ⟨some 17, .bin .lss 0 (.t 16) (.c (.lit (.int .i64 0))), none⟩] [16]) (.cond (.t 17) (.seq (.reg false [⟨some 4, .as (.c (.lit (.int .i64 (-1)))), none⟩] []) (.ret)) (.skip))) (.seq (.reg false [⟨some 18, .mv (.t 1), none⟩, ⟨some 4, .as (.t 18), none⟩] [18]) (.ret))))))
theorem is5 : Is Go.Proofs.Try.prog 5 19 v5 [.t 4] := ⟨Go.Proofs.Try.f5, dl [(0, [4]), (1, [5, 6, 7, 8, 9]), (2, [10]), (4, [12, 13, 14, 15]), (5, [16]), (7, [18])], Go.Proofs.Try.func5, by kernel_rfl, by kernel_rfl, by kernel_rfl, by kernel_rfl⟩
def v6 : VC := .seq (.reg false [⟨some 2, .box 4 (.t 0), none⟩, ⟨some 4, .as (.c (.lit (.int .i64 0))), none⟩] [4]) (.seq (.reg false [⟨some 5, .mv (.t 1), none⟩, ⟨some 6, .fa 0 (.t 2), none⟩, ⟨some 7, .ld false 1 (.t 6), none⟩, ⟨some 8, .len true (.t 7), none⟩, ⟨some 9, .bin .sub 0 (.t 5) (.t 8), none⟩, ⟨some 1, .as (.t 9), none⟩] [5, 6, 7, 8, 9]) (.seq (.seq (.reg false [⟨some 10, .mv (.t 1), none⟩, ⟨some 11, .bin .lss 0 (.t 10) (.c (.lit (.int .i64 0))), none⟩] [10]) (.cond (.t 11) (.seq (.reg false [⟨some 4, .as (.c (.lit (.int .i64 (-1)))), none⟩] []) (.ret)) (.skip))) (.seq (.reg false [⟨some 12, .mv (.t 1), none⟩, ⟨some 13, .fa 1 (.t 2), none⟩, ⟨some 14, .ld false 1 (.t 13), none⟩, ⟨some 15, .len true (.t 14), none⟩, ⟨some 16, .bin .sub 0 (.t 12) (.t 15), none⟩, ⟨some 1, .as (.t 16), none⟩] [12, 13, 14, 15, 16]) (.seq (.seq (.reg false [⟨some 17, .mv (.t 1), none⟩, ⟨some 18, .bin .lss 0 (.t 17) (.c (.lit (.int .i64 0))), none⟩] [17]) (.cond (.t 18) (.seq (.reg false [⟨some 4, .as (.c (.lit (.int .i64 (-1)))), none⟩] []) (.ret)) (.skip))) (.seq (.reg false [⟨some 19, .fa 2 (.t 2), none⟩, ⟨some 20, .ld false 1 (.t 19), none⟩, ⟨some 21, .mv (.t 1), none⟩, ⟨some 22, .call false 26 [(.t 20), (.t 21)], none⟩, ⟨some 1, .as (.t 22), none⟩] [19, 20, 21, 22]) (.seq (.seq (.reg false [⟨some 23, .mv (.t 1), none⟩, ⟨some 24, .bin .lss 0 (.t 23) (.c (.lit (.int .i64 0))), none⟩] [23]) (.cond (.t 24) (.seq (.reg false [⟨some 4, .as (.c (.lit (.int .i64 (-1)))), none⟩] []) (.ret)) (.skip))) (.seq (.reg false [⟨some 25, .mv (.t 1), none⟩, ⟨some 4, .as (.t 25), none⟩] [25]) (.ret))))))))
theorem is6 : Is Go.Proofs.Try.prog 6 26 v6 [.t 4] := ⟨Go.Proofs.Try.f6, dl [(0, [4]), (1, [5, 6, 7, 8, 9]), (2, [10]), (4, [12, 13, 14, 15, 16]), (5, [17]), (7, [19, 20, 21, 22]), (8, [23]), (10, [25])], Go.Proofs.Try.func6, by kernel_rfl, by kernel_rfl, by kernel_rfl, by kernel_rfl⟩
def v8 : VC := .seq (.reg false [⟨some 1, .box 2 (.t 0), none⟩, ⟨some 2, .alloc (.agg [(.lit (.string (by8 ""))), (.sl ⟨.nl, true⟩ 1 [])]), none⟩] []) (.seq (.reg false [⟨some 3, .alloc (.agg [(.lit (.string (by8 ""))), (.sl ⟨.nl, true⟩ 1 [])]), none⟩] []) (.seq (.reg false [⟨some 4, .fa 0 (.t 1), none⟩, ⟨some 5, .ld false 1 (.t 4), none⟩, ⟨some 6, .fa 0 (.t 3), none⟩, ⟨none, .st 1 (.t 6) (.t 5), none⟩] [4, 5, 6]) (.seq (.reg false [⟨some 7, .fa 1 (.t 1), none⟩, ⟨some 8, .ld false 1 (.t 7), none⟩, ⟨some 9, .call false 28 [(.t 8)], none⟩, ⟨some 10, .fa 1 (.t 3), none⟩, ⟨none, .st 1 (.t 10) (.t 9), none⟩] [7, 8, 9, 10]) (.seq (.reg false [⟨some 11, .ld true 2 (.t 3), none⟩, ⟨none, .st 2 (.t 2) (.t 11), none⟩] [11]) (.ret)))))
theorem is8 : Is Go.Proofs.Try.prog 8 12 v8 [.b 2 true 2] := ⟨Go.Proofs.Try.f8, dl [(2, [4, 5, 6]), (3, [7, 8, 9, 10]), (4, [11])], Go.Proofs.Try.func8, by kernel_rfl, by kernel_rfl, by kernel_rfl, by kernel_rfl⟩
def v9 : VC := .seq (.reg false [⟨some 1, .box 4 (.t 0), none⟩, ⟨some 2, .alloc (.agg [(.lit (.string (by8 ""))), (.lit (.string (by8 ""))), (.sl ⟨.nl, true⟩ 1 []), (.lit (.bool false))]), none⟩] []) (.seq (.reg false [⟨some 3, .alloc (.agg [(.lit (.string (by8 ""))), (.lit (.string (by8 ""))), (.sl ⟨.nl, true⟩ 1 []), (.lit (.bool false))]), none⟩] []) (.seq (.reg false [⟨some 4, .fa 0 (.t 1), none⟩, ⟨some 5, .ld false 1 (.t 4), none⟩, ⟨some 6, .fa 0 (.t 3), none⟩, ⟨none, .st 1 (.t 6) (.t 5), none⟩] [4, 5, 6]) (.seq (.reg false [⟨some 7, .fa 1 (.t 1), none⟩, ⟨some 8, .ld false 1 (.t 7), none⟩, ⟨some 9, .fa 1 (.t 3), none⟩, ⟨none, .st 1 (.t 9) (.t 8), none⟩] [7, 8, 9]) (.seq (.reg false [⟨some 10, .fa 2 (.t 1), none⟩, ⟨some 11, .ld false 1 (.t 10), none⟩, ⟨some 12, .call false 29 [(.t 11)], none⟩, ⟨some 13, .fa 2 (.t 3), none⟩, ⟨none, .st 1 (.t 13) (.t 12), none⟩] [10, 11, 12, 13]) (.seq (.reg false [⟨some 14, .fa 3 (.t 1), none⟩, ⟨some 15, .ld false 1 (.t 14), none⟩, ⟨some 16, .fa 3 (.t 3), none⟩, ⟨none, .st 1 (.t 16) (.t 15), none⟩] [14, 15, 16]) (.seq (.reg false [⟨some 17, .ld true 4 (.t 3), none⟩, ⟨none, .st 4 (.t 2) (.t 17), none⟩] [17]) (.ret)))))))
theorem is9 : Is Go.Proofs.Try.prog 9 18 v9 [.b 2 true 4] := ⟨Go.Proofs.Try.f9, dl [(2, [4, 5, 6]), (3, [7, 8, 9]), (4, [10, 11, 12, 13]), (5, [14, 15, 16]), (6, [17])], Go.Proofs.Try.func9, by kernel_rfl, by kernel_rfl, by kernel_rfl, by kernel_rfl⟩
def v11 : VC := .seq (.reg false [⟨some 2, .box 2 (.t 0), none⟩, ⟨some 3, .box 2 (.t 1), none⟩, ⟨some 4, .as (.c (.lit (.bool false))), none⟩] [4]) (.seq (.seq (.reg false [⟨some 5, .fa 0 (.t 2), none⟩, ⟨some 6, .ld false 1 (.t 5), none⟩, ⟨some 7, .fa 0 (.t 3), none⟩, ⟨some 8, .ld false 1 (.t 7), none⟩, ⟨some 9, .bin .neq 0 (.t 6) (.t 8), none⟩] [5, 6, 7, 8]) (.cond (.t 9) (.seq (.reg false [⟨some 4, .as (.c (.lit (.bool false))), none⟩] []) (.ret)) (.skip))) (.seq (.seq (.reg false [⟨some 10, .fa 1 (.t 2), none⟩, ⟨some 11, .ld false 1 (.t 10), none⟩, ⟨some 12, .fa 1 (.t 3), none⟩, ⟨some 13, .ld false 1 (.t 12), none⟩, ⟨some 14, .call false 31 [(.t 11), (.t 13)], none⟩, ⟨some 15, .un .not (.t 14), none⟩] [10, 11, 12, 13, 14]) (.cond (.t 15) (.seq (.reg false [⟨some 4, .as (.c (.lit (.bool false))), none⟩] []) (.ret)) (.skip))) (.seq (.reg false [⟨some 4, .as (.c (.lit (.bool true))), none⟩] []) (.ret))))
theorem is11 : Is Go.Proofs.Try.prog 11 16 v11 [.t 4] := ⟨Go.Proofs.Try.f11, dl [(0, [4]), (1, [5, 6, 7, 8]), (3, [10, 11, 12, 13, 14])], Go.Proofs.Try.func11, by kernel_rfl, by kernel_rfl, by kernel_rfl, by kernel_rfl⟩
def v12 : VC := .seq (.reg false [⟨some 2, .box 4 (.t 0), none⟩, ⟨some 3, .box 4 (.t 1), none⟩, ⟨some 4, .as (.c (.lit (.bool false))), none⟩] [4]) (.seq (.seq (.reg false [⟨some 5, .fa 0 (.t 2), none⟩, ⟨some 6, .ld false 1 (.t 5), none⟩, ⟨some 7, .fa 0 (.t 3), none⟩, ⟨some 8, .ld false 1 (.t 7), none⟩, ⟨some 9, .bin .neq 0 (.t 6) (.t 8), none⟩] [5, 6, 7, 8]) (.cond (.t 9) (.seq (.reg false [⟨some 4, .as (.c (.lit (.bool false))), none⟩] []) (.ret)) (.skip))) (.seq (.seq (.reg false [⟨some 10, .fa 1 (.t 2), none⟩, ⟨some 11, .ld false 1 (.t 10), none⟩, ⟨some 12, .fa 1 (.t 3), none⟩, ⟨some 13, .ld false 1 (.t 12), none⟩, ⟨some 14, .bin .neq 0 (.t 11) (.t 13), none⟩] [10, 11, 12, 13]) (.cond (.t 14) (.seq (.reg false [⟨some 4, .as (.c (.lit (.bool false))), none⟩] []) (.ret)) (.skip))) (.seq (.seq (.reg false [⟨some 15, .fa 2 (.t 2), none⟩, ⟨some 16, .ld false 1 (.t 15), none⟩, ⟨some 17, .fa 2 (.t 3), none⟩, ⟨some 18, .ld false 1 (.t 17), none⟩, ⟨some 19, .call false 32 [(.t 16), (.t 18)], none⟩, ⟨some 20, .un .not (.t 19), none⟩] [15, 16, 17, 18, 19]) (.cond (.t 20) (.seq (.reg false [⟨some 4, .as (.c (.lit (.bool false))), none⟩] []) (.ret)) (.skip))) (.seq (.seq (.reg false [⟨some 21, .fa 3 (.t 2), none⟩, ⟨some 22, .ld false 1 (.t 21), none⟩, ⟨some 23, .fa 3 (.t 3), none⟩, ⟨some 24, .ld false 1 (.t 23), none⟩, ⟨some 25, .bin .neq 2 (.t 22) (.t 24), none⟩] [21, 22, 23, 24]) (.cond (.t 25) (.seq (.reg false [⟨some 4, .as (.c (.lit (.bool false))), none⟩] []) (.ret)) (.skip))) (.seq (.reg false [⟨some 4, .as (.c (.lit (.bool true))), none⟩] []) (.ret))))))
theorem is12 : Is Go.Proofs.Try.prog 12 26 v12 [.t 4] := ⟨Go.Proofs.Try.f12, dl [(0, [4]), (1, [5, 6, 7, 8]), (3, [10, 11, 12, 13]), (5, [15, 16, 17, 18, 19]), (7, [21, 22, 23, 24])], Go.Proofs.Try.func12, by kernel_rfl, by kernel_rfl, by kernel_rfl, by kernel_rfl⟩
theorem is25 : Is Go.Proofs.Try.prog 25 27 (szS 4 6) [.t 4] := ⟨Go.Proofs.Try.f25, dl [(0, [4]), (1, [6, 7, 8, 9]), (2, [10]), (5, [12, 13, 14]), (7, [18, 19, 20, 21, 22, 23]), (8, [24]), (6, [16, 17]), (10, [26])], Go.Proofs.Try.func25, by kernel_rfl, by kernel_rfl, by kernel_rfl, by kernel_rfl⟩
theorem is26 : Is Go.Proofs.Try.prog 26 28 (szStr) [.t 4] := ⟨Go.Proofs.Try.f26, dl [(0, [4]), (1, [6, 7, 8, 9]), (2, [10]), (5, [12, 13, 14]), (7, [18, 19, 20, 21, 22, 23, 24]), (8, [25]), (6, [16, 17]), (10, [27])], Go.Proofs.Try.func26, by kernel_rfl, by kernel_rfl, by kernel_rfl, by kernel_rfl⟩
theorem is29 : Is Go.Proofs.Try.prog 29 22 (toStr) [.t 2] := ⟨Go.Proofs.Try.f29, dl [(0, [2]), (1, [5, 6, 7]), (3, [8, 9, 10]), (5, [14, 15, 16, 17, 18, 19, 20]), (4, [12, 13]), (6, [21])], Go.Proofs.Try.func29, by kernel_rfl, by kernel_rfl, by kernel_rfl, by kernel_rfl⟩
theorem is28 : Is Go.Proofs.Try.prog 28 23 (toS 4 64 (.agg [.lit (.string (by8 "")), .lit (.string (by8 "")), .sl ⟨.nl, true⟩ 1 [], .lit (.bool false)]) 9) [.t 2] := ⟨Go.Proofs.Try.f28, dl [(0, [2]), (1, [5, 6, 7]), (3, [8, 9, 10]), (5, [14, 15, 16, 17, 18, 19, 20, 21]), (4, [12, 13]), (6, [22])], Go.Proofs.Try.func28, by kernel_rfl, by kernel_rfl, by kernel_rfl, by kernel_rfl⟩
theorem is32 : Is Go.Proofs.Try.prog 32 26 (eqStr) [.t 4] := ⟨Go.Proofs.Try.f32, dl [(0, [4]), (1, [6, 7, 8, 9]), (4, [11, 12, 13]), (6, [17, 18, 19, 20, 21, 22, 23, 24]), (5, [15, 16])], Go.Proofs.Try.func32, by kernel_rfl, by kernel_rfl, by kernel_rfl, by kernel_rfl⟩
theorem is31 : Is Go.Proofs.Try.prog 31 27 (eqS 4 12) [.t 4] := ⟨Go.Proofs.Try.f31, dl [(0, [4]), (1, [6, 7, 8, 9]), (4, [11, 12, 13]), (6, [17, 18, 19, 20, 21, 22, 23, 24, 25]), (5, [15, 16])], Go.Proofs.Try.func31, by kernel_rfl, by kernel_rfl, by kernel_rfl, by kernel_rfl⟩
/-- lengths as data has them -/
def Fld.good (x : Fld) : Prop := x.key.size ≤ 9223372036854775807 ∧ x.text.size ≤ 9223372036854775807 ∧ x.list.length ≤ 9223372036854775807 ∧ ∀ s ∈ x.list, s.size ≤ 9223372036854775807
def Tb.good (x : Tb) : Prop := x.name.size ≤ 9223372036854775807 ∧ x.fields.length ≤ 9223372036854775807 ∧ ∀ f ∈ x.fields, f.good
def Fld.sz (x : Fld) (l : Int) : Int := szIf (l - x.key.size) fun l => szIf (l - x.text.size) fun l => szIf (szL (fun x l => l - x.size) x.list l) fun l => l
def Tb.sz (x : Tb) (l : Int) : Int := szIf (l - x.name.size) fun l => szIf (szL Fld.sz x.fields l) fun l => l
theorem Fld.sz_le (x : Fld) (l : Int) (h : 0 ≤ l) : x.sz l ≤ l :=
  szIf_le (by omega) h fun h1 => szIf_le (by omega) h fun h2 => szIf_le (by have := szL_le (f := fun (x : ByteArray) l => l - x.size) (xs := x.list) (l := l - x.key.size - x.text.size) (fun x _ l _ => by omega) h2; omega) h fun h3 => by
    have := szL_le (f := fun (x : ByteArray) l => l - x.size) (xs := x.list) (l := l - x.key.size - x.text.size) (fun x _ l _ => by omega) h2
    omega
theorem Tb.sz_le (x : Tb) (l : Int) (h : 0 ≤ l) : x.sz l ≤ l :=
  szIf_le (by omega) h fun h1 => szIf_le (by have := szL_le (f := Fld.sz) (xs := x.fields) (l := l - x.name.size) (fun x _ l h => x.sz_le l h) h1; omega) h fun h3 => by
    have := szL_le (f := Fld.sz) (xs := x.fields) (l := l - x.name.size) (fun x _ l h => x.sz_le l h) h1
    omega
section
variable {E : Env} (hE : E.P = Go.Proofs.Try.prog)
include hE
theorem szField_fx (x : Fld) (l : Int) (hg : x.good) (h0 : 0 ≤ l) (h1 : l ≤ 1048576) : Fx E 6 [] [.agg x.av, .lit (.int .i64 l)] [] (.lit (.int .i64 (x.sz l))) := by
  obtain ⟨g1, g2, g3, g4⟩ := hg
  refine (is6.to hE).fx [] (by simp) rfl rfl ?_
  simp [v6, Fld.av, okC, mkF]
  rw [wrap_i64 (by omega) (by omega)]
  by_cases c1 : l - x.key.size < 0
  · simp [c1]
    exact Fin_ret rfl (by simp [Fld.sz, szIf_neg c1, reC])
  · simp [c1]
    rw [wrap_i64 (by omega) (by omega)]
    by_cases c2 : l - x.key.size - x.text.size < 0
    · simp [c2]
      exact Fin_ret rfl (by simp [Fld.sz, szIf_pos c1, szIf_neg c2, reC])
    · simp [c2]
      refine vcall_go (szStr_fx (is26.to hE) (by decide) x.list g4 (l - x.key.size - x.text.size) (by omega) (by omega) g3) (by simp) (by simp) (by simp) (by simp) ?_
      simp
      by_cases c3 : szL (fun x l => l - x.size) x.list (l - x.key.size - x.text.size) < 0
      · simp [c3]
        exact Fin_ret rfl (by simp [Fld.sz, szIf_pos c1, szIf_pos c2, szIf_neg c3, reC])
      · simp [c3]
        exact Fin_ret rfl (by simp [Fld.sz, szIf_pos c1, szIf_pos c2, szIf_pos c3, reC])
theorem szTable_fx (x : Tb) (l : Int) (hg : x.good) (h0 : 0 ≤ l) (h1 : l ≤ 1048576) : Fx E 5 [] [.agg x.av, .lit (.int .i64 l)] [] (.lit (.int .i64 (x.sz l))) := by
  obtain ⟨g1, g2, g3⟩ := hg
  refine (is5.to hE).fx [] (by simp) rfl rfl ?_
  simp [v5, Tb.av, okC, mkF]
  rw [wrap_i64 (by omega) (by omega)]
  by_cases c1 : l - x.name.size < 0
  · simp [c1]
    exact Fin_ret rfl (by simp [Tb.sz, szIf_neg c1, reC])
  · simp [c1]
    refine vcall_go (szS_fx (is25.to hE) (by decide) (a := Fld.av) (g := Fld.sz) Fld.pl Fld.len (fun x l hx a b => szField_fx hE x l hx a b) (fun x l h => Fld.sz_le x l h) x.fields g3 (l - x.name.size) (by omega) (by omega) g2) (by simp) (by simp) (by simp) (by simp) ?_
    simp
    by_cases c3 : szL Fld.sz x.fields (l - x.name.size) < 0
    · simp [c3]
      exact Fin_ret rfl (by simp [Tb.sz, szIf_pos c1, szIf_neg c3, reC])
    · simp [c3]
      exact Fin_ret rfl (by simp [Tb.sz, szIf_pos c1, szIf_pos c3, reC])
theorem toField_fx (x : Fld) (h : x.list.length ≤ 1048576) : Fx E 9 [] [.agg x.av] [] (.agg (mkF.mkL true x.av)) := by
  refine (is9.to hE).fx [] (by simp) rfl rfl ?_
  simp [v9, Fld.av, okC, mkF, putElem, upd]
  refine vcall_go (toStr_fx (is29.to hE) (by decide) x.list h) (by simp) (by simp) (by simp) (by simp) ?_
  simp [okC, putElem, upd]
  exact Fin_ret rfl rfl
theorem toFieldS_fx (xs : List Fld) (h : xs.length ≤ 1048576) (hx : ∀ x ∈ xs, x.list.length ≤ 1048576) : Fx E 28 [] [.sl ro 4 (xs.map fun x => .agg x.av)] [] (.sl ⟨.no, true⟩ 4 (xs.map fun x => .agg x.av)) :=
  toS_fx (is28.to hE) (by decide) rfl rfl rfl rfl Fld.pl Fld.ok Fld.len (by decide) xs (fun x hm => toField_fx hE x (hx x hm)) (by omega) h
theorem toTable_fx (x : Tb) (h : x.fields.length ≤ 1048576) (hx : ∀ f ∈ x.fields, f.list.length ≤ 1048576) : Fx E 8 [] [.agg x.av] [] (.agg (mkF.mkL true x.av)) := by
  refine (is8.to hE).fx [] (by simp) rfl rfl ?_
  simp [v8, Tb.av, okC, mkF, putElem, upd]
  refine vcall_go (toFieldS_fx hE x.fields h hx) (by simp) (by simp) (by simp) (by simp) ?_
  simp [okC, putElem, upd]
  exact Fin_ret rfl rfl
def Fld.eq (x y : Fld) : Bool := decide (x.key = y.key) && decide (x.text = y.text) && all2 (fun x y => decide (x = y)) x.list y.list && (x.isL == y.isL)
def Tb.eq (x y : Tb) : Bool := decide (x.name = y.name) && all2 Fld.eq x.fields y.fields
theorem eqField_fx (x y : Fld) (h : x.list.length ≤ 1048576) : Fx E 12 [] [.agg x.av, .agg y.av] [] (.lit (.bool (x.eq y))) := by
  refine (is12.to hE).fx [] (by simp) rfl rfl ?_
  simp [v12, Fld.av, okC, mkF]
  by_cases c1 : x.key = y.key
  · simp [c1]
    by_cases c2 : x.text = y.text
    · simp [c2]
      refine vcall_go (eqStr_fx (is32.to hE) (by decide) x.list y.list (by omega)) (by simp) (by simp) (by simp) (by simp) ?_
      simp
      cases c3 : all2 (fun x y => decide (x = y)) x.list y.list
      · simp
        exact Fin_ret rfl (by simp [Fld.eq, c3, reC])
      · simp
        by_cases c4 : x.isL = y.isL
        · simp [c4]
          exact Fin_ret rfl (by simp [Fld.eq, c1, c2, c3, c4, reC])
        · have c5 : (x.isL == y.isL) = false := by simpa using c4
          simp [c5]
          exact Fin_ret rfl (by simp [Fld.eq, c5, reC])
    · simp [c2]
      exact Fin_ret rfl (by simp [Fld.eq, c2, reC])
  · simp [c1]
    exact Fin_ret rfl (by simp [Fld.eq, c1, reC])
theorem eqFieldS_fx (xs ys : List Fld) (h : xs.length ≤ 2097152) (hx : ∀ x ∈ xs, x.list.length ≤ 1048576) : Fx E 31 [] [.sl ro 4 (xs.map fun x => .agg x.av), .sl ro 4 (ys.map fun x => .agg x.av)] [] (.lit (.bool (all2 Fld.eq xs ys))) :=
  eqS_fx (is31.to hE) (by decide) Fld.pl Fld.pl Fld.len Fld.len xs (fun x y hm => eqField_fx hE x y (hx x hm)) ys (by omega)
theorem eqTable_fx (x y : Tb) (h : x.fields.length ≤ 2097152) (hx : ∀ f ∈ x.fields, f.list.length ≤ 1048576) : Fx E 11 [] [.agg x.av, .agg y.av] [] (.lit (.bool (x.eq y))) := by
  refine (is11.to hE).fx [] (by simp) rfl rfl ?_
  simp [v11, Tb.av, okC, mkF]
  by_cases c1 : x.name = y.name
  · simp [c1]
    refine vcall_go (eqFieldS_fx hE x.fields y.fields h hx) (by simp) (by simp) (by simp) (by simp) ?_
    simp
    cases c3 : all2 Fld.eq x.fields y.fields
    · simp
      exact Fin_ret rfl (by simp [Tb.eq, c3, reC])
    · simp
      exact Fin_ret rfl (by simp [Tb.eq, c1, c3, reC])
  · simp [c1]
    exact Fin_ret rfl (by simp [Tb.eq, c1, reC])
end
end Go.Proofs.Ytgegcfhifojjiaa.Vm
