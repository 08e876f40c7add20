/- Needs and entries: the laws' helpers. -/
import Derived.Test.YtpopccnnjpdmlaaMrk
namespace Go.Proofs.Ytpopccnnjpdmlaa.Vm
open Go Go.RowKit
set_option linter.unusedVariables false
set_option linter.unusedSimpArgs false
structure Nd where
  name : ByteArray
  range : ByteArray
  deriving DecidableEq
structure En where
  heads : List Nd
  version : ByteArray
  resolved : ByteArray
  integrity : ByteArray
  needs : List Nd
def Nd.av (x : Nd) : List AV := [.lit (.string x.name), .lit (.string x.range)]
def nds (l : List Nd) : AV := .sl ro 2 (l.map fun x => .agg x.av)
def En.av (x : En) : List AV := [.sl ro 2 (x.heads.map fun x => .agg x.av), .lit (.string x.version), .lit (.string x.resolved), .lit (.string x.integrity), .sl ro 2 (x.needs.map fun x => .agg x.av)]
theorem Nd.pl (x : Nd) : PlL x.av := by simp [Nd.av]
theorem En.pl (x : En) : PlL x.av := by simp [En.av]
theorem Nd.len (x : Nd) : x.av.length = 2 := rfl
theorem En.len (x : En) : x.av.length = 5 := rfl
theorem Nd.ok (x : Nd) : x.av.all okC = true := rfl
theorem En.ok (x : En) : x.av.all okC = true := rfl
@[simp] theorem Nd.noB (d : Nat) (x : Nd) : noB.noL d x.av = true := rfl
@[simp] theorem En.noB (d : Nat) (x : En) : noB.noL d x.av = true := rfl
@[simp] theorem Nd.noC (d : Nat) (x : Nd) : noC.noL d x.av = true := rfl
@[simp] theorem En.noC (d : Nat) (x : En) : noC.noL d x.av = true := rfl
def v99 : VC := .seq (.reg false [⟨some 2, .box 2 (.t 0), none⟩, ⟨some 4, .as (.c (.lit (.int .i64 0))), none⟩] [4]) (.seq (.reg false [⟨some 5, .mv (.t 1), none⟩, ⟨some 6, .fa 0 (.t 2), none⟩, ⟨some 7, .ld false 1 (.t 6), none⟩, ⟨some 8, .len true (.t 7), none⟩, ⟨some 9, .bin .sub 0 (.t 5) (.t 8), none⟩, ⟨some 1, .as (.t 9), none⟩] [5, 6, 7, 8, 9]) (.seq (.seq (.reg false [⟨some 10, .mv (.t 1), none⟩, ⟨some 11, .bin .lss 0 (.t 10) (.c (.lit (.int .i64 0))), none⟩] [10]) (.cond (.t 11) (.seq (.reg false [⟨some 4, .as (.c (.lit (.int .i64 (-1)))), none⟩] []) (.ret)) (.skip))) (.seq (.reg false [⟨some 12, .mv (.t 1), none⟩, ⟨some 13, .fa 1 (.t 2), none⟩, ⟨some 14, .ld false 1 (.t 13), none⟩, ⟨some 15, .len true (.t 14), none⟩, ⟨some 16, .bin .sub 0 (.t 12) (.t 15), none⟩, ⟨some 1, .as (.t 16), none⟩] [12, 13, 14, 15, 16]) (.seq (.seq (.reg false [⟨some 17, .mv (.t 1), none⟩, ⟨some 18, .bin .lss 0 (.t 17) (.c (.lit (.int .i64 0))), none⟩] [17]) (.cond (.t 18) (.seq (.reg false [⟨some 4, .as (.c (.lit (.int .i64 (-1)))), none⟩] []) (.ret)) (.skip))) (.seq (.reg false [⟨some 19, .mv (.t 1), none⟩, ⟨some 4, .as (.t 19), none⟩] [19]) (.ret))))))
theorem is99 : Is Go.Proofs.Try.prog 99 20 v99 [.t 4] := ⟨Go.Proofs.Try.f99, dl [(0, [4]), (1, [5, 6, 7, 8, 9]), (2, [10]), (4, [12, 13, 14, 15, 16]), (5, [17]), (7, [19])], Go.Proofs.Try.func99, by kernel_rfl, by kernel_rfl, by kernel_rfl, by kernel_rfl⟩
def v62 : VC := .seq (.reg false [⟨some 2, .box 5 (.t 0), none⟩, ⟨some 4, .as (.c (.lit (.int .i64 0))), none⟩] [4]) (.seq (.reg false [⟨some 5, .fa 0 (.t 2), none⟩, ⟨some 6, .ld false 1 (.t 5), none⟩, ⟨some 7, .mv (.t 1), none⟩, ⟨some 8, .call false 84 [(.t 6), (.t 7)], none⟩, ⟨some 1, .as (.t 8), none⟩] [5, 6, 7, 8]) (.seq (.seq (.reg false [⟨some 9, .mv (.t 1), none⟩, ⟨some 10, .bin .lss 0 (.t 9) (.c (.lit (.int .i64 0))), none⟩] [9]) (.cond (.t 10) (.seq (.reg false [⟨some 4, .as (.c (.lit (.int .i64 (-1)))), none⟩] []) (.ret)) (.skip))) (.seq (.reg false [⟨some 11, .mv (.t 1), none⟩, ⟨some 12, .fa 1 (.t 2), none⟩, ⟨some 13, .ld false 1 (.t 12), none⟩, ⟨some 14, .len true (.t 13), none⟩, ⟨some 15, .bin .sub 0 (.t 11) (.t 14), none⟩, ⟨some 1, .as (.t 15), none⟩] [11, 12, 13, 14, 15]) (.seq (.seq (.reg false [⟨some 16, .mv (.t 1), none⟩, ⟨some 17, .bin .lss 0 (.t 16) (.c (.lit (.int .i64 0))), none⟩] [16]) (.cond (.t 17) (.seq (.reg false [⟨some 4, .as (.c (.lit (.int .i64 (-1)))), none⟩] []) (.ret)) (.skip))) (.seq (.reg false [⟨some 18, .mv (.t 1), none⟩, ⟨some 19, .fa 2 (.t 2), none⟩, ⟨some 20, .ld false 1 (.t 19), none⟩, ⟨some 21, .len true (.t 20), none⟩, ⟨some 22, .bin .sub 0 (.t 18) (.t 21), none⟩, ⟨some 1, .as (.t 22), none⟩] [18, 19, 20, 21, 22]) (.seq (.seq (.reg false [⟨some 23, .mv (.t 1), none⟩, ⟨some 24, .bin .lss 0 (.t 23) (.c (.lit (.int .i64 0))), none⟩] [23]) (.cond (.t 24) (.seq (.reg false [⟨some 4, .as (.c (.lit (.int .i64 (-1)))), none⟩] []) (.ret)) (.skip))) (.seq (.reg false [⟨some 25, .mv (.t 1), none⟩, ⟨some 26, .fa 3 (.t 2), none⟩, ⟨some 27, .ld false 1 (.t 26), none⟩, ⟨some 28, .len true (.t 27), none⟩, ⟨some 29, .bin .sub 0 (.t 25) (.t 28), none⟩, ⟨some 1, .as (.t 29), none⟩] [25, 26, 27, 28, 29]) (.seq (.seq (.reg false [⟨some 30, .mv (.t 1), none⟩, ⟨some 31, .bin .lss 0 (.t 30) (.c (.lit (.int .i64 0))), none⟩] [30]) (.cond (.t 31) (.seq (.reg false [⟨some 4, .as (.c (.lit (.int .i64 (-1)))), none⟩] []) (.ret)) (.skip))) (.seq (.reg false [⟨some 32, .fa 4 (.t 2), none⟩, ⟨some 33, .ld false 1 (.t 32), none⟩, ⟨some 34, .mv (.t 1), none⟩, ⟨some 35, .call false 84 [(.t 33), (.t 34)], none⟩, ⟨some 1, .as (.t 35), none⟩] [32, 33, 34, 35]) (.seq (.seq (.reg false [⟨some 36, .mv (.t 1), none⟩, ⟨some 37, .bin .lss 0 (.t 36) (.c (.lit (.int .i64 0))), none⟩] [36]) (.cond (.t 37) (.seq (.reg false [⟨some 4, .as (.c (.lit (.int .i64 (-1)))), none⟩] []) (.ret)) (.skip))) (.seq (.reg false [⟨some 38, .mv (.t 1), none⟩, ⟨some 4, .as (.t 38), none⟩] [38]) (.ret))))))))))))
theorem is62 : Is Go.Proofs.Try.prog 62 39 v62 [.t 4] := ⟨Go.Proofs.Try.f62, dl [(0, [4]), (1, [5, 6, 7, 8]), (2, [9]), (4, [11, 12, 13, 14, 15]), (5, [16]), (7, [18, 19, 20, 21, 22]), (8, [23]), (10, [25, 26, 27, 28, 29]), (11, [30]), (13, [32, 33, 34, 35]), (14, [36]), (16, [38])], Go.Proofs.Try.func62, by kernel_rfl, by kernel_rfl, by kernel_rfl, by kernel_rfl⟩
def v100 : VC := .seq (.reg false [⟨some 1, .box 2 (.t 0), none⟩, ⟨some 2, .alloc (.agg [(.lit (.string (by8 ""))), (.lit (.string (by8 "")))]), none⟩] []) (.seq (.reg false [⟨some 3, .alloc (.agg [(.lit (.string (by8 ""))), (.lit (.string (by8 "")))]), none⟩] []) (.seq (.reg false [⟨some 4, .fa 0 (.t 1), none⟩, ⟨some 5, .ld false 1 (.t 4), none⟩, ⟨some 6, .fa 0 (.t 3), none⟩, ⟨none, .st 1 (.t 6) (.t 5), none⟩] [4, 5, 6]) (.seq (.reg false [⟨some 7, .fa 1 (.t 1), none⟩, ⟨some 8, .ld false 1 (.t 7), none⟩, ⟨some 9, .fa 1 (.t 3), none⟩, ⟨none, .st 1 (.t 9) (.t 8), none⟩] [7, 8, 9]) (.seq (.reg false [⟨some 10, .ld true 2 (.t 3), none⟩, ⟨none, .st 2 (.t 2) (.t 10), none⟩] [10]) (.ret)))))
theorem is100 : Is Go.Proofs.Try.prog 100 11 v100 [.b 2 true 2] := ⟨Go.Proofs.Try.f100, dl [(2, [4, 5, 6]), (3, [7, 8, 9]), (4, [10])], Go.Proofs.Try.func100, by kernel_rfl, by kernel_rfl, by kernel_rfl, by kernel_rfl⟩
def v64 : VC := .seq (.reg false [⟨some 1, .box 5 (.t 0), none⟩, ⟨some 2, .alloc (.agg [(.sl ⟨.nl, true⟩ 1 []), (.lit (.string (by8 ""))), (.lit (.string (by8 ""))), (.lit (.string (by8 ""))), (.sl ⟨.nl, true⟩ 1 [])]), none⟩] []) (.seq (.reg false [⟨some 3, .alloc (.agg [(.sl ⟨.nl, true⟩ 1 []), (.lit (.string (by8 ""))), (.lit (.string (by8 ""))), (.lit (.string (by8 ""))), (.sl ⟨.nl, true⟩ 1 [])]), none⟩] []) (.seq (.reg false [⟨some 4, .fa 0 (.t 1), none⟩, ⟨some 5, .ld false 1 (.t 4), none⟩, ⟨some 6, .call false 85 [(.t 5)], none⟩, ⟨some 7, .fa 0 (.t 3), none⟩, ⟨none, .st 1 (.t 7) (.t 6), none⟩] [4, 5, 6, 7]) (.seq (.reg false [⟨some 8, .fa 1 (.t 1), none⟩, ⟨some 9, .ld false 1 (.t 8), none⟩, ⟨some 10, .fa 1 (.t 3), none⟩, ⟨none, .st 1 (.t 10) (.t 9), none⟩] [8, 9, 10]) (.seq (.reg false [⟨some 11, .fa 2 (.t 1), none⟩, ⟨some 12, .ld false 1 (.t 11), none⟩, ⟨some 13, .fa 2 (.t 3), none⟩, ⟨none, .st 1 (.t 13) (.t 12), none⟩] [11, 12, 13]) (.seq (.reg false [⟨some 14, .fa 3 (.t 1), none⟩, ⟨some 15, .ld false 1 (.t 14), none⟩, ⟨some 16, .fa 3 (.t 3), none⟩, ⟨none, .st 1 (.t 16) (.t 15), none⟩] [14, 15, 16]) (.seq (.reg false [⟨some 17, .fa 4 (.t 1), none⟩, ⟨some 18, .ld false 1 (.t 17), none⟩, ⟨some 19, .call false 85 [(.t 18)], none⟩, ⟨some 20, .fa 4 (.t 3), none⟩, ⟨none, .st 1 (.t 20) (.t 19), none⟩] [17, 18, 19, 20]) (.seq (.reg false [⟨some 21, .ld true 5 (.t 3), none⟩, ⟨none, .st 5 (.t 2) (.t 21), none⟩] [21]) (.ret))))))))
theorem is64 : Is Go.Proofs.Try.prog 64 22 v64 [.b 2 true 5] := ⟨Go.Proofs.Try.f64, dl [(2, [4, 5, 6, 7]), (3, [8, 9, 10]), (4, [11, 12, 13]), (5, [14, 15, 16]), (6, [17, 18, 19, 20]), (7, [21])], Go.Proofs.Try.func64, by kernel_rfl, by kernel_rfl, by kernel_rfl, by kernel_rfl⟩
def v67 : VC := .seq (.reg false [⟨some 2, .box 2 (.t 0), none⟩, ⟨some 3, .box 2 (.t 1), none⟩, ⟨some 4, .as (.c (.lit (.bool false))), none⟩] [4]) (.seq (.seq (.reg false [⟨some 5, .fa 0 (.t 2), none⟩, ⟨some 6, .ld false 1 (.t 5), none⟩, ⟨some 7, .fa 0 (.t 3), none⟩, ⟨some 8, .ld false 1 (.t 7), none⟩, ⟨some 9, .bin .neq 0 (.t 6) (.t 8), none⟩] [5, 6, 7, 8]) (.cond (.t 9) (.seq (.reg false [⟨some 4, .as (.c (.lit (.bool false))), none⟩] []) (.ret)) (.skip))) (.seq (.seq (.reg false [⟨some 10, .fa 1 (.t 2), none⟩, ⟨some 11, .ld false 1 (.t 10), none⟩, ⟨some 12, .fa 1 (.t 3), none⟩, ⟨some 13, .ld false 1 (.t 12), none⟩, ⟨some 14, .bin .neq 0 (.t 11) (.t 13), none⟩] [10, 11, 12, 13]) (.cond (.t 14) (.seq (.reg false [⟨some 4, .as (.c (.lit (.bool false))), none⟩] []) (.ret)) (.skip))) (.seq (.reg false [⟨some 4, .as (.c (.lit (.bool true))), none⟩] []) (.ret))))
theorem is67 : Is Go.Proofs.Try.prog 67 15 v67 [.t 4] := ⟨Go.Proofs.Try.f67, dl [(0, [4]), (1, [5, 6, 7, 8]), (3, [10, 11, 12, 13])], Go.Proofs.Try.func67, by kernel_rfl, by kernel_rfl, by kernel_rfl, by kernel_rfl⟩
def v68 : VC := .seq (.reg false [⟨some 2, .box 5 (.t 0), none⟩, ⟨some 3, .box 5 (.t 1), none⟩, ⟨some 4, .as (.c (.lit (.bool false))), none⟩] [4]) (.seq (.seq (.reg false [⟨some 5, .fa 0 (.t 2), none⟩, ⟨some 6, .ld false 1 (.t 5), none⟩, ⟨some 7, .fa 0 (.t 3), none⟩, ⟨some 8, .ld false 1 (.t 7), none⟩, ⟨some 9, .call false 26 [(.t 6), (.t 8)], none⟩, ⟨some 10, .un .not (.t 9), none⟩] [5, 6, 7, 8, 9]) (.cond (.t 10) (.seq (.reg false [⟨some 4, .as (.c (.lit (.bool false))), none⟩] []) (.ret)) (.skip))) (.seq (.seq (.reg false [⟨some 11, .fa 1 (.t 2), none⟩, ⟨some 12, .ld false 1 (.t 11), none⟩, ⟨some 13, .fa 1 (.t 3), none⟩, ⟨some 14, .ld false 1 (.t 13), none⟩, ⟨some 15, .bin .neq 0 (.t 12) (.t 14), none⟩] [11, 12, 13, 14]) (.cond (.t 15) (.seq (.reg false [⟨some 4, .as (.c (.lit (.bool false))), none⟩] []) (.ret)) (.skip))) (.seq (.seq (.reg false [⟨some 16, .fa 2 (.t 2), none⟩, ⟨some 17, .ld false 1 (.t 16), none⟩, ⟨some 18, .fa 2 (.t 3), none⟩, ⟨some 19, .ld false 1 (.t 18), none⟩, ⟨some 20, .bin .neq 0 (.t 17) (.t 19), none⟩] [16, 17, 18, 19]) (.cond (.t 20) (.seq (.reg false [⟨some 4, .as (.c (.lit (.bool false))), none⟩] []) (.ret)) (.skip))) (.seq (.seq (.reg false [⟨some 21, .fa 3 (.t 2), none⟩, ⟨some 22, .ld false 1 (.t 21), none⟩, ⟨some 23, .fa 3 (.t 3), none⟩, ⟨some 24, .ld false 1 (.t 23), none⟩, ⟨some 25, .bin .neq 0 (.t 22) (.t 24), none⟩] [21, 22, 23, 24]) (.cond (.t 25) (.seq (.reg false [⟨some 4, .as (.c (.lit (.bool false))), none⟩] []) (.ret)) (.skip))) (.seq (.seq (.reg false [⟨some 26, .fa 4 (.t 2), none⟩, ⟨some 27, .ld false 1 (.t 26), none⟩, ⟨some 28, .fa 4 (.t 3), none⟩, ⟨some 29, .ld false 1 (.t 28), none⟩, ⟨some 30, .call false 26 [(.t 27), (.t 29)], none⟩, ⟨some 31, .un .not (.t 30), none⟩] [26, 27, 28, 29, 30]) (.cond (.t 31) (.seq (.reg false [⟨some 4, .as (.c (.lit (.bool false))), none⟩] []) (.ret)) (.skip))) (.seq (.reg false [⟨some 4, .as (.c (.lit (.bool true))), none⟩] []) (.ret)))))))
theorem is68 : Is Go.Proofs.Try.prog 68 32 v68 [.t 4] := ⟨Go.Proofs.Try.f68, dl [(0, [4]), (1, [5, 6, 7, 8, 9]), (3, [11, 12, 13, 14]), (5, [16, 17, 18, 19]), (7, [21, 22, 23, 24]), (9, [26, 27, 28, 29, 30])], Go.Proofs.Try.func68, by kernel_rfl, by kernel_rfl, by kernel_rfl, by kernel_rfl⟩
theorem is84 : Is Go.Proofs.Try.prog 84 27 (szS 2 99) [.t 4] := ⟨Go.Proofs.Try.f84, dl [(0, [4]), (1, [6, 7, 8, 9]), (2, [10]), (5, [12, 13, 14]), (7, [18, 19, 20, 21, 22, 23]), (8, [24]), (6, [16, 17]), (10, [26])], Go.Proofs.Try.func84, by kernel_rfl, by kernel_rfl, by kernel_rfl, by kernel_rfl⟩
theorem is22 : Is Go.Proofs.Try.prog 22 27 (szS 5 62) [.t 4] := ⟨Go.Proofs.Try.f22, dl [(0, [4]), (1, [6, 7, 8, 9]), (2, [10]), (5, [12, 13, 14]), (7, [18, 19, 20, 21, 22, 23]), (8, [24]), (6, [16, 17]), (10, [26])], Go.Proofs.Try.func22, by kernel_rfl, by kernel_rfl, by kernel_rfl, by kernel_rfl⟩
theorem is85 : Is Go.Proofs.Try.prog 85 23 (toS 2 32 (.agg [.lit (.string (by8 "")), .lit (.string (by8 ""))]) 100) [.t 2] := ⟨Go.Proofs.Try.f85, dl [(0, [2]), (1, [5, 6, 7]), (3, [8, 9, 10]), (5, [14, 15, 16, 17, 18, 19, 20, 21]), (4, [12, 13]), (6, [22])], Go.Proofs.Try.func85, by kernel_rfl, by kernel_rfl, by kernel_rfl, by kernel_rfl⟩
theorem is24 : Is Go.Proofs.Try.prog 24 23 (toS 5 96 (.agg [.sl ⟨.nl, true⟩ 1 [], .lit (.string (by8 "")), .lit (.string (by8 "")), .lit (.string (by8 "")), .sl ⟨.nl, true⟩ 1 []]) 64) [.t 2] := ⟨Go.Proofs.Try.f24, dl [(0, [2]), (1, [5, 6, 7]), (3, [8, 9, 10]), (5, [14, 15, 16, 17, 18, 19, 20, 21]), (4, [12, 13]), (6, [22])], Go.Proofs.Try.func24, by kernel_rfl, by kernel_rfl, by kernel_rfl, by kernel_rfl⟩
theorem is26 : Is Go.Proofs.Try.prog 26 27 (eqS 2 67) [.t 4] := ⟨Go.Proofs.Try.f26, dl [(0, [4]), (1, [6, 7, 8, 9]), (4, [11, 12, 13]), (6, [17, 18, 19, 20, 21, 22, 23, 24, 25]), (5, [15, 16])], Go.Proofs.Try.func26, by kernel_rfl, by kernel_rfl, by kernel_rfl, by kernel_rfl⟩
theorem is27 : Is Go.Proofs.Try.prog 27 27 (eqS 5 68) [.t 4] := ⟨Go.Proofs.Try.f27, dl [(0, [4]), (1, [6, 7, 8, 9]), (4, [11, 12, 13]), (6, [17, 18, 19, 20, 21, 22, 23, 24, 25]), (5, [15, 16])], Go.Proofs.Try.func27, by kernel_rfl, by kernel_rfl, by kernel_rfl, by kernel_rfl⟩
def Nd.good (x : Nd) : Prop := x.name.size ≤ 9223372036854775807 ∧ x.range.size ≤ 9223372036854775807
def En.good (x : En) : Prop := (x.heads.length ≤ 9223372036854775807 ∧ ∀ y ∈ x.heads, y.good) ∧ x.version.size ≤ 9223372036854775807 ∧ x.resolved.size ≤ 9223372036854775807 ∧ x.integrity.size ≤ 9223372036854775807 ∧ x.needs.length ≤ 9223372036854775807 ∧ ∀ y ∈ x.needs, y.good
def Nd.sz (x : Nd) (l : Int) : Int := szIf (l - x.name.size) fun l => szIf (l - x.range.size) fun l => l
def En.sz (x : En) (l : Int) : Int := szIf (szL Nd.sz x.heads l) fun l => szIf (l - x.version.size) fun l => szIf (l - x.resolved.size) fun l => szIf (l - x.integrity.size) fun l => szIf (szL Nd.sz x.needs l) fun l => l
theorem Nd.sz_le (x : Nd) (l : Int) (h : 0 ≤ l) : x.sz l ≤ l := szIf_le (by omega) h fun h1 => szIf_le (by omega) h fun h2 => by omega
theorem En.sz_le (x : En) (l : Int) (h : 0 ≤ l) : x.sz l ≤ l := by
  have k1 := szL_le (f := Nd.sz) (xs := x.heads) (l := l) (fun x _ l h => x.sz_le l h) h
  refine szIf_le k1 h fun h1 => szIf_le (by omega) h fun h2 => szIf_le (by omega) h fun h3 => szIf_le (by omega) h fun h4 => ?_
  have k2 := szL_le (f := Nd.sz) (xs := x.needs) (l := szL Nd.sz x.heads l - x.version.size - x.resolved.size - x.integrity.size) (fun x _ l h => x.sz_le l h) h4
  exact szIf_le (by omega) h fun h5 => by omega
section
variable {E : Env} (hE : E.P = Go.Proofs.Try.prog)
include hE
theorem szNeed_fx (x : Nd) (l : Int) (hg : x.good) (h0 : 0 ≤ l) (h1 : l ≤ 1048576) : Fx E 99 [] [.agg x.av, .lit (.int .i64 l)] [] (.lit (.int .i64 (x.sz l))) := by
  obtain ⟨g1, g2⟩ := hg
  refine (is99.to hE).fx [] (by simp) rfl rfl ?_
  simp [v99, Nd.av, okC, mkF]
  rw [wrap_i64 (by omega) (by omega)]
  by_cases c1 : l - x.name.size < 0
  · simp [c1]
    exact Fin_ret rfl (by simp [Nd.sz, szIf_neg c1, reC])
  · simp [c1]
    rw [wrap_i64 (by omega) (by omega)]
    by_cases c2 : l - x.name.size - x.range.size < 0
    · simp [c2]
      exact Fin_ret rfl (by simp [Nd.sz, szIf_pos c1, szIf_neg c2, reC])
    · simp [c2]
      exact Fin_ret rfl (by simp [Nd.sz, szIf_pos c1, szIf_pos c2, reC])
theorem szNeedS_fx (xs : List Nd) (l : Int) (hg : ∀ x ∈ xs, x.good) (h0 : 0 ≤ l) (h1 : l ≤ 1048576) (hl : xs.length ≤ 9223372036854775807) : Fx E 84 [] [.sl ro 2 (xs.map fun x => .agg x.av), .lit (.int .i64 l)] [] (.lit (.int .i64 (szL Nd.sz xs l))) :=
  szS_fx (is84.to hE) (by decide) (a := Nd.av) (g := Nd.sz) Nd.pl Nd.len (fun x l hx a b => szNeed_fx hE x l hx a b) (fun x l h => Nd.sz_le x l h) xs hg l h0 h1 hl
theorem szEntry_fx (x : En) (l : Int) (hg : x.good) (h0 : 0 ≤ l) (h1 : l ≤ 1048576) : Fx E 62 [] [.agg x.av, .lit (.int .i64 l)] [] (.lit (.int .i64 (x.sz l))) := by
  obtain ⟨⟨g1, g2⟩, g3, g4, g5, g6, g7⟩ := hg
  have k1 := szL_le (f := Nd.sz) (xs := x.heads) (l := l) (fun x _ l h => x.sz_le l h) h0
  refine (is62.to hE).fx [] (by simp) rfl rfl ?_
  simp [v62, En.av, okC, mkF]
  refine vcall_go (szNeedS_fx hE x.heads l g2 h0 h1 g1) (by simp) (by simp) (by simp) (by simp) ?_
  simp
  generalize hq : szL Nd.sz x.heads l = q at k1
  by_cases c1 : q < 0
  · simp [c1]
    exact Fin_ret rfl (by simp [En.sz, hq, szIf_neg c1, reC])
  · simp [c1]
    rw [wrap_i64 (by omega) (by omega)]
    by_cases c2 : q - x.version.size < 0
    · simp [c2]
      exact Fin_ret rfl (by simp [En.sz, hq, szIf_pos c1, szIf_neg c2, reC])
    · simp [c2]
      rw [wrap_i64 (by omega) (by omega)]
      by_cases c3 : q - x.version.size - x.resolved.size < 0
      · simp [c3]
        exact Fin_ret rfl (by simp [En.sz, hq, szIf_pos c1, szIf_pos c2, szIf_neg c3, reC])
      · simp [c3]
        rw [wrap_i64 (by omega) (by omega)]
        by_cases c4 : q - x.version.size - x.resolved.size - x.integrity.size < 0
        · simp [c4]
          exact Fin_ret rfl (by simp [En.sz, hq, szIf_pos c1, szIf_pos c2, szIf_pos c3, szIf_neg c4, reC])
        · simp [c4]
          refine vcall_go (szNeedS_fx hE x.needs (q - x.version.size - x.resolved.size - x.integrity.size) g7 (by omega) (by omega) g6) (by simp) (by simp) (by simp) (by simp) ?_
          simp
          by_cases c5 : szL Nd.sz x.needs (q - x.version.size - x.resolved.size - x.integrity.size) < 0
          · simp [c5]
            exact Fin_ret rfl (by simp [En.sz, hq, szIf_pos c1, szIf_pos c2, szIf_pos c3, szIf_pos c4, szIf_neg c5, reC])
          · simp [c5]
            exact Fin_ret rfl (by simp [En.sz, hq, szIf_pos c1, szIf_pos c2, szIf_pos c3, szIf_pos c4, szIf_pos c5, reC])
theorem szEntryS_fx (xs : List En) (l : Int) (hg : ∀ x ∈ xs, x.good) (h0 : 0 ≤ l) (h1 : l ≤ 1048576) (hl : xs.length ≤ 9223372036854775807) : Fx E 22 [] [.sl ro 5 (xs.map fun x => .agg x.av), .lit (.int .i64 l)] [] (.lit (.int .i64 (szL En.sz xs l))) :=
  szS_fx (is22.to hE) (by decide) (a := En.av) (g := En.sz) En.pl En.len (fun x l hx a b => szEntry_fx hE x l hx a b) (fun x l h => En.sz_le x l h) xs hg l h0 h1 hl
theorem toNeed_fx (x : Nd) : Fx E 100 [] [.agg x.av] [] (.agg (mkF.mkL true x.av)) := by
  refine (is100.to hE).fx [] (by simp) rfl rfl ?_
  simp [v100, Nd.av, okC, mkF, putElem, upd]
  exact Fin_ret rfl rfl
theorem toNeedS_fx (xs : List Nd) (h : xs.length ≤ 1048576) : Fx E 85 [] [.sl ro 2 (xs.map fun x => .agg x.av)] [] (.sl ⟨.no, true⟩ 2 (xs.map fun x => .agg x.av)) :=
  toS_fx (is85.to hE) (by decide) rfl rfl rfl rfl Nd.pl Nd.ok Nd.len (by decide) xs (fun x hm => toNeed_fx hE x) (by omega) h
theorem toEntry_fx (x : En) (h : x.heads.length ≤ 1048576) (h2 : x.needs.length ≤ 1048576) : Fx E 64 [] [.agg x.av] [] (.agg (mkF.mkL true x.av)) := by
  refine (is64.to hE).fx [] (by simp) rfl rfl ?_
  simp [v64, En.av, okC, mkF, putElem, upd]
  refine vcall_go (toNeedS_fx hE x.heads h) (by simp) (by simp) (by simp) (by simp) ?_
  simp [okC, putElem, upd]
  refine vcall_go (toNeedS_fx hE x.needs h2) (by simp) (by simp) (by simp) (by simp) ?_
  simp [okC, putElem, upd]
  exact Fin_ret rfl rfl
theorem toEntryS_fx (xs : List En) (h : xs.length ≤ 1048576) (hx : ∀ x ∈ xs, x.heads.length ≤ 1048576 ∧ x.needs.length ≤ 1048576) : Fx E 24 [] [.sl ro 5 (xs.map fun x => .agg x.av)] [] (.sl ⟨.no, true⟩ 5 (xs.map fun x => .agg x.av)) :=
  toS_fx (is24.to hE) (by decide) rfl rfl rfl rfl En.pl En.ok En.len (by decide) xs (fun x hm => toEntry_fx hE x (hx x hm).1 (hx x hm).2) (by omega) h
end
def Nd.eq (x y : Nd) : Bool := decide (x.name = y.name) && decide (x.range = y.range)
def En.eq (x y : En) : Bool := all2 Nd.eq x.heads y.heads && decide (x.version = y.version) && decide (x.resolved = y.resolved) && decide (x.integrity = y.integrity) && all2 Nd.eq x.needs y.needs
section
variable {E : Env} (hE : E.P = Go.Proofs.Try.prog)
include hE
theorem eqNeed_fx (x y : Nd) : Fx E 67 [] [.agg x.av, .agg y.av] [] (.lit (.bool (x.eq y))) := by
  refine (is67.to hE).fx [] (by simp) rfl rfl ?_
  simp [v67, Nd.av, okC, mkF]
  by_cases c1 : x.name = y.name
  · simp [c1]
    by_cases c2 : x.range = y.range
    · simp [c2]
      exact Fin_ret rfl (by simp [Nd.eq, c1, c2, reC])
    · simp [c2]
      exact Fin_ret rfl (by simp [Nd.eq, c2, reC])
  · simp [c1]
    exact Fin_ret rfl (by simp [Nd.eq, c1, reC])
theorem eqNeedS_fx (xs ys : List Nd) (h : xs.length ≤ 1099511627776) : Fx E 26 [] [.sl ro 2 (xs.map fun x => .agg x.av), .sl ro 2 (ys.map fun x => .agg x.av)] [] (.lit (.bool (all2 Nd.eq xs ys))) :=
  eqS_fx (is26.to hE) (by decide) Nd.pl Nd.pl Nd.len Nd.len xs (fun x y hm => eqNeed_fx hE x y) ys (by omega)
theorem eqEntry_fx (x y : En) (h : x.heads.length ≤ 1048576) (h2 : x.needs.length ≤ 1048576) : Fx E 68 [] [.agg x.av, .agg y.av] [] (.lit (.bool (x.eq y))) := by
  refine (is68.to hE).fx [] (by simp) rfl rfl ?_
  simp [v68, En.av, okC, mkF]
  refine vcall_go (eqNeedS_fx hE x.heads y.heads (by omega)) (by simp) (by simp) (by simp) (by simp) ?_
  simp
  cases c1 : all2 Nd.eq x.heads y.heads
  · simp
    exact Fin_ret rfl (by simp [En.eq, c1, reC])
  · simp
    by_cases c2 : x.version = y.version
    · simp [c2]
      by_cases c3 : x.resolved = y.resolved
      · simp [c3]
        by_cases c4 : x.integrity = y.integrity
        · simp [c4]
          refine vcall_go (eqNeedS_fx hE x.needs y.needs (by omega)) (by simp) (by simp) (by simp) (by simp) ?_
          simp
          cases c5 : all2 Nd.eq x.needs y.needs
          · simp
            exact Fin_ret rfl (by simp [En.eq, c5, reC])
          · simp
            exact Fin_ret rfl (by simp [En.eq, c1, c2, c3, c4, c5, reC])
        · simp [c4]
          exact Fin_ret rfl (by simp [En.eq, c4, reC])
      · simp [c3]
        exact Fin_ret rfl (by simp [En.eq, c3, reC])
    · simp [c2]
      exact Fin_ret rfl (by simp [En.eq, c2, reC])
theorem eqEntryS_fx (xs ys : List En) (h : xs.length ≤ 1048576) (hx : ∀ x ∈ xs, x.heads.length ≤ 1048576 ∧ x.needs.length ≤ 1048576) : Fx E 27 [] [.sl ro 5 (xs.map fun x => .agg x.av), .sl ro 5 (ys.map fun x => .agg x.av)] [] (.lit (.bool (all2 En.eq xs ys))) :=
  eqS_fx (is27.to hE) (by decide) En.pl En.pl En.len En.len xs (fun x y hm => eqEntry_fx hE x y (hx x hm).1 (hx x hm).2) ys (by omega)
end
end Go.Proofs.Ytpopccnnjpdmlaa.Vm
