/- Graphs: the laws' helpers. -/
import Derived.Test.YticamghmcikfcaaProg
import Derived.Test.YticamghmcikfcaaSt0
namespace Go.Proofs.Yticamghmcikfcaa.Vm
open Go Go.RowKit
set_option linter.unusedVariables false
set_option linter.unusedSimpArgs false
structure Sm where
  alg : ByteArray
  bytes : ByteArray
  deriving DecidableEq
structure Pk where
  name : ByteArray
  version : ByteArray
  source : ByteArray
  sums : List Sm
  dev : Bool
  needs : List ByteArray
  deriving DecidableEq
structure Gr where
  top : List ByteArray
  packs : List Pk
  deriving DecidableEq
def Sm.av (x : Sm) : List AV := [.lit (.string x.alg), .lit (.string x.bytes)]
theorem Sm.pl (x : Sm) : PlL x.av := by simp [Sm.av]
theorem Sm.len (x : Sm) : x.av.length = 2 := rfl
theorem Sm.ok (x : Sm) : x.av.all okC = true := rfl
@[simp] theorem Sm.noB (d : Nat) (x : Sm) : noB.noL d x.av = true := rfl
@[simp] theorem Sm.noC (d : Nat) (x : Sm) : noC.noL d x.av = true := rfl
def Pk.av (x : Pk) : List AV := [.lit (.string x.name), .lit (.string x.version), .lit (.string x.source), .sl ro 2 (x.sums.map fun x => .agg x.av), .lit (.bool x.dev), .sl ro 1 (x.needs.map fun x => .lit (.string x))]
theorem Pk.pl (x : Pk) : PlL x.av := by simp [Pk.av]
theorem Pk.len (x : Pk) : x.av.length = 6 := rfl
theorem Pk.ok (x : Pk) : x.av.all okC = true := rfl
@[simp] theorem Pk.noB (d : Nat) (x : Pk) : noB.noL d x.av = true := rfl
@[simp] theorem Pk.noC (d : Nat) (x : Pk) : noC.noL d x.av = true := rfl
def Gr.av (x : Gr) : List AV := [.sl ro 1 (x.top.map fun x => .lit (.string x)), .sl ro 6 (x.packs.map fun x => .agg x.av)]
theorem Gr.pl (x : Gr) : PlL x.av := by simp [Gr.av]
theorem Gr.len (x : Gr) : x.av.length = 2 := rfl
theorem Gr.ok (x : Gr) : x.av.all okC = true := rfl
@[simp] theorem Gr.noB (d : Nat) (x : Gr) : noB.noL d x.av = true := rfl
@[simp] theorem Gr.noC (d : Nat) (x : Gr) : noC.noL d x.av = true := rfl
def v49 : VC := .seq (.reg false [⟨some 2, .box 2 (.t 0), none⟩, ⟨some 4, .as (.c (.lit (.int .i64 0))), none⟩] [4]) (.seq (.reg false [⟨some 5, .mv (.t 1), none⟩, ⟨some 6, .fa 0 (.t 2), none⟩, ⟨some 7, .ld false 1 (.t 6), none⟩, ⟨some 8, .len true (.t 7), none⟩, ⟨some 9, .bin .sub 0 (.t 5) (.t 8), none⟩, ⟨some 1, .as (.t 9), none⟩] [5, 6, 7, 8, 9]) (.seq (.seq (.reg false [⟨some 10, .mv (.t 1), none⟩, ⟨some 11, .bin .lss 0 (.t 10) (.c (.lit (.int .i64 0))), none⟩] [10]) (.cond (.t 11) (.seq (.reg false [⟨some 4, .as (.c (.lit (.int .i64 (-1)))), none⟩] []) (.ret)) (.skip))) (.seq (.reg false [⟨some 12, .mv (.t 1), none⟩, ⟨some 13, .fa 1 (.t 2), none⟩, ⟨some 14, .ld false 1 (.t 13), none⟩, ⟨some 15, .len true (.t 14), none⟩, ⟨some 16, .bin .sub 0 (.t 12) (.t 15), none⟩, ⟨some 1, .as (.t 16), none⟩] [12, 13, 14, 15, 16]) (.seq (.seq (.reg false [⟨some 17, .mv (.t 1), none⟩, ⟨some 18, .bin .lss 0 (.t 17) (.c (.lit (.int .i64 0))), none⟩] [17]) (.cond (.t 18) (.seq (.reg false [⟨some 4, .as (.c (.lit (.int .i64 (-1)))), none⟩] []) (.ret)) (.skip))) (.seq (.reg false [⟨some 19, .mv (.t 1), none⟩, ⟨some 4, .as (.t 19), none⟩] [19]) (.ret))))))
theorem is49 : Is Go.Proofs.Try.prog 49 20 v49 [.t 4] := ⟨Go.Proofs.Try.f49, dl [(0, [4]), (1, [5, 6, 7, 8, 9]), (2, [10]), (4, [12, 13, 14, 15, 16]), (5, [17]), (7, [19])], Go.Proofs.Try.func49, by kernel_rfl, by kernel_rfl, by kernel_rfl, by kernel_rfl⟩
def v51 : VC := .seq (.reg false [⟨some 1, .box 2 (.t 0), none⟩, ⟨some 2, .alloc (.agg [(.lit (.string (by8 ""))), (.lit (.string (by8 "")))]), none⟩] []) (.seq (.reg false [⟨some 3, .alloc (.agg [(.lit (.string (by8 ""))), (.lit (.string (by8 "")))]), none⟩] []) (.seq (.reg false [⟨some 4, .fa 0 (.t 1), none⟩, ⟨some 5, .ld false 1 (.t 4), none⟩, ⟨some 6, .fa 0 (.t 3), none⟩, ⟨none, .st 1 (.t 6) (.t 5), none⟩] [4, 5, 6]) (.seq (.reg false [⟨some 7, .fa 1 (.t 1), none⟩, ⟨some 8, .ld false 1 (.t 7), none⟩, ⟨some 9, .fa 1 (.t 3), none⟩, ⟨none, .st 1 (.t 9) (.t 8), none⟩] [7, 8, 9]) (.seq (.reg false [⟨some 10, .ld true 2 (.t 3), none⟩, ⟨none, .st 2 (.t 2) (.t 10), none⟩] [10]) (.ret)))))
theorem is51 : Is Go.Proofs.Try.prog 51 11 v51 [.b 2 true 2] := ⟨Go.Proofs.Try.f51, dl [(2, [4, 5, 6]), (3, [7, 8, 9]), (4, [10])], Go.Proofs.Try.func51, by kernel_rfl, by kernel_rfl, by kernel_rfl, by kernel_rfl⟩
def v53 : VC := .seq (.reg false [⟨some 2, .box 2 (.t 0), none⟩, ⟨some 3, .box 2 (.t 1), none⟩, ⟨some 4, .as (.c (.lit (.bool false))), none⟩] [4]) (.seq (.seq (.reg false [⟨some 5, .fa 0 (.t 2), none⟩, ⟨some 6, .ld false 1 (.t 5), none⟩, ⟨some 7, .fa 0 (.t 3), none⟩, ⟨some 8, .ld false 1 (.t 7), none⟩, ⟨some 9, .bin .neq 0 (.t 6) (.t 8), none⟩] [5, 6, 7, 8]) (.cond (.t 9) (.seq (.reg false [⟨some 4, .as (.c (.lit (.bool false))), none⟩] []) (.ret)) (.skip))) (.seq (.seq (.reg false [⟨some 10, .fa 1 (.t 2), none⟩, ⟨some 11, .ld false 1 (.t 10), none⟩, ⟨some 12, .fa 1 (.t 3), none⟩, ⟨some 13, .ld false 1 (.t 12), none⟩, ⟨some 14, .bin .neq 0 (.t 11) (.t 13), none⟩] [10, 11, 12, 13]) (.cond (.t 14) (.seq (.reg false [⟨some 4, .as (.c (.lit (.bool false))), none⟩] []) (.ret)) (.skip))) (.seq (.reg false [⟨some 4, .as (.c (.lit (.bool true))), none⟩] []) (.ret))))
theorem is53 : Is Go.Proofs.Try.prog 53 15 v53 [.t 4] := ⟨Go.Proofs.Try.f53, dl [(0, [4]), (1, [5, 6, 7, 8]), (3, [10, 11, 12, 13])], Go.Proofs.Try.func53, by kernel_rfl, by kernel_rfl, by kernel_rfl, by kernel_rfl⟩
def v31 : VC := .seq (.reg false [⟨some 2, .box 6 (.t 0), none⟩, ⟨some 4, .as (.c (.lit (.int .i64 0))), none⟩] [4]) (.seq (.reg false [⟨some 5, .mv (.t 1), none⟩, ⟨some 6, .fa 0 (.t 2), none⟩, ⟨some 7, .ld false 1 (.t 6), none⟩, ⟨some 8, .len true (.t 7), none⟩, ⟨some 9, .bin .sub 0 (.t 5) (.t 8), none⟩, ⟨some 1, .as (.t 9), none⟩] [5, 6, 7, 8, 9]) (.seq (.seq (.reg false [⟨some 10, .mv (.t 1), none⟩, ⟨some 11, .bin .lss 0 (.t 10) (.c (.lit (.int .i64 0))), none⟩] [10]) (.cond (.t 11) (.seq (.reg false [⟨some 4, .as (.c (.lit (.int .i64 (-1)))), none⟩] []) (.ret)) (.skip))) (.seq (.reg false [⟨some 12, .mv (.t 1), none⟩, ⟨some 13, .fa 1 (.t 2), none⟩, ⟨some 14, .ld false 1 (.t 13), none⟩, ⟨some 15, .len true (.t 14), none⟩, ⟨some 16, .bin .sub 0 (.t 12) (.t 15), none⟩, ⟨some 1, .as (.t 16), none⟩] [12, 13, 14, 15, 16]) (.seq (.seq (.reg false [⟨some 17, .mv (.t 1), none⟩, ⟨some 18, .bin .lss 0 (.t 17) (.c (.lit (.int .i64 0))), none⟩] [17]) (.cond (.t 18) (.seq (.reg false [⟨some 4, .as (.c (.lit (.int .i64 (-1)))), none⟩] []) (.ret)) (.skip))) (.seq (.reg false [⟨some 19, .mv (.t 1), none⟩, ⟨some 20, .fa 2 (.t 2), none⟩, ⟨some 21, .ld false 1 (.t 20), none⟩, ⟨some 22, .len true (.t 21), none⟩, ⟨some 23, .bin .sub 0 (.t 19) (.t 22), none⟩, ⟨some 1, .as (.t 23), none⟩] [19, 20, 21, 22, 23]) (.seq (.seq (.reg false [⟨some 24, .mv (.t 1), none⟩, ⟨some 25, .bin .lss 0 (.t 24) (.c (.lit (.int .i64 0))), none⟩] [24]) (.cond (.t 25) (.seq (.reg false [⟨some 4, .as (.c (.lit (.int .i64 (-1)))), none⟩] []) (.ret)) (.skip))) (.seq (.reg false [⟨some 26, .fa 3 (.t 2), none⟩, ⟨some 27, .ld false 1 (.t 26), none⟩, ⟨some 28, .mv (.t 1), none⟩, ⟨some 29, .call false 41 [(.t 27), (.t 28)], none⟩, ⟨some 1, .as (.t 29), none⟩] [26, 27, 28, 29]) (.seq (.seq (.reg false [⟨some 30, .mv (.t 1), none⟩, ⟨some 31, .bin .lss 0 (.t 30) (.c (.lit (.int .i64 0))), none⟩] [30]) (.cond (.t 31) (.seq (.reg false [⟨some 4, .as (.c (.lit (.int .i64 (-1)))), none⟩] []) (.ret)) (.skip))) (.seq (.reg false [⟨some 32, .fa 5 (.t 2), none⟩, ⟨some 33, .ld false 1 (.t 32), none⟩, ⟨some 34, .mv (.t 1), none⟩, ⟨some 35, .call false 13 [(.t 33), (.t 34)], none⟩, ⟨some 1, .as (.t 35), none⟩] [32, 33, 34, 35]) (.seq (.seq (.reg false [⟨some 36, .mv (.t 1), none⟩, ⟨some 37, .bin .lss 0 (.t 36) (.c (.lit (.int .i64 0))), none⟩] [36]) (.cond (.t 37) (.seq (.reg false [⟨some 4, .as (.c (.lit (.int .i64 (-1)))), none⟩] []) (.ret)) (.skip))) (.seq (.reg false [⟨some 38, .mv (.t 1), none⟩, ⟨some 4, .as (.t 38), none⟩] [38]) (.ret))))))))))))
theorem is31 : Is Go.Proofs.Try.prog 31 39 v31 [.t 4] := ⟨Go.Proofs.Try.f31, dl [(0, [4]), (1, [5, 6, 7, 8, 9]), (2, [10]), (4, [12, 13, 14, 15, 16]), (5, [17]), (7, [19, 20, 21, 22, 23]), (8, [24]), (10, [26, 27, 28, 29]), (11, [30]), (13, [32, 33, 34, 35]), (14, [36]), (16, [38])], Go.Proofs.Try.func31, by kernel_rfl, by kernel_rfl, by kernel_rfl, by kernel_rfl⟩
def v35 : VC := .seq (.reg false [⟨some 1, .box 6 (.t 0), none⟩, ⟨some 2, .alloc (.agg [(.lit (.string (by8 ""))), (.lit (.string (by8 ""))), (.lit (.string (by8 ""))), (.sl ⟨.nl, true⟩ 1 []), (.lit (.bool false)), (.sl ⟨.nl, true⟩ 1 [])]), none⟩] []) (.seq (.reg false [⟨some 3, .alloc (.agg [(.lit (.string (by8 ""))), (.lit (.string (by8 ""))), (.lit (.string (by8 ""))), (.sl ⟨.nl, true⟩ 1 []), (.lit (.bool false)), (.sl ⟨.nl, true⟩ 1 [])]), none⟩] []) (.seq (.reg false [⟨some 4, .fa 0 (.t 1), none⟩, ⟨some 5, .ld false 1 (.t 4), none⟩, ⟨some 6, .fa 0 (.t 3), none⟩, ⟨none, .st 1 (.t 6) (.t 5), none⟩] [4, 5, 6]) (.seq (.reg false [⟨some 7, .fa 1 (.t 1), none⟩, ⟨some 8, .ld false 1 (.t 7), none⟩, ⟨some 9, .fa 1 (.t 3), none⟩, ⟨none, .st 1 (.t 9) (.t 8), none⟩] [7, 8, 9]) (.seq (.reg false [⟨some 10, .fa 2 (.t 1), none⟩, ⟨some 11, .ld false 1 (.t 10), none⟩, ⟨some 12, .fa 2 (.t 3), none⟩, ⟨none, .st 1 (.t 12) (.t 11), none⟩] [10, 11, 12]) (.seq (.reg false [⟨some 13, .fa 3 (.t 1), none⟩, ⟨some 14, .ld false 1 (.t 13), none⟩, ⟨some 15, .call false 45 [(.t 14)], none⟩, ⟨some 16, .fa 3 (.t 3), none⟩, ⟨none, .st 1 (.t 16) (.t 15), none⟩] [13, 14, 15, 16]) (.seq (.reg false [⟨some 17, .fa 4 (.t 1), none⟩, ⟨some 18, .ld false 1 (.t 17), none⟩, ⟨some 19, .fa 4 (.t 3), none⟩, ⟨none, .st 1 (.t 19) (.t 18), none⟩] [17, 18, 19]) (.seq (.reg false [⟨some 20, .fa 5 (.t 1), none⟩, ⟨some 21, .ld false 1 (.t 20), none⟩, ⟨some 22, .call false 16 [(.t 21)], none⟩, ⟨some 23, .fa 5 (.t 3), none⟩, ⟨none, .st 1 (.t 23) (.t 22), none⟩] [20, 21, 22, 23]) (.seq (.reg false [⟨some 24, .ld true 6 (.t 3), none⟩, ⟨none, .st 6 (.t 2) (.t 24), none⟩] [24]) (.ret)))))))))
theorem is35 : Is Go.Proofs.Try.prog 35 25 v35 [.b 2 true 6] := ⟨Go.Proofs.Try.f35, dl [(2, [4, 5, 6]), (3, [7, 8, 9]), (4, [10, 11, 12]), (5, [13, 14, 15, 16]), (6, [17, 18, 19]), (7, [20, 21, 22, 23]), (8, [24])], Go.Proofs.Try.func35, by kernel_rfl, by kernel_rfl, by kernel_rfl, by kernel_rfl⟩
def v38 : VC := .seq (.reg false [⟨some 2, .box 6 (.t 0), none⟩, ⟨some 3, .box 6 (.t 1), none⟩, ⟨some 4, .as (.c (.lit (.bool false))), none⟩] [4]) (.seq (.seq (.reg false [⟨some 5, .fa 0 (.t 2), none⟩, ⟨some 6, .ld false 1 (.t 5), none⟩, ⟨some 7, .fa 0 (.t 3), none⟩, ⟨some 8, .ld false 1 (.t 7), none⟩, ⟨some 9, .bin .neq 0 (.t 6) (.t 8), none⟩] [5, 6, 7, 8]) (.cond (.t 9) (.seq (.reg false [⟨some 4, .as (.c (.lit (.bool false))), none⟩] []) (.ret)) (.skip))) (.seq (.seq (.reg false [⟨some 10, .fa 1 (.t 2), none⟩, ⟨some 11, .ld false 1 (.t 10), none⟩, ⟨some 12, .fa 1 (.t 3), none⟩, ⟨some 13, .ld false 1 (.t 12), none⟩, ⟨some 14, .bin .neq 0 (.t 11) (.t 13), none⟩] [10, 11, 12, 13]) (.cond (.t 14) (.seq (.reg false [⟨some 4, .as (.c (.lit (.bool false))), none⟩] []) (.ret)) (.skip))) (.seq (.seq (.reg false [⟨some 15, .fa 2 (.t 2), none⟩, ⟨some 16, .ld false 1 (.t 15), none⟩, ⟨some 17, .fa 2 (.t 3), none⟩, ⟨some 18, .ld false 1 (.t 17), none⟩, ⟨some 19, .bin .neq 0 (.t 16) (.t 18), none⟩] [15, 16, 17, 18]) (.cond (.t 19) (.seq (.reg false [⟨some 4, .as (.c (.lit (.bool false))), none⟩] []) (.ret)) (.skip))) (.seq (.seq (.reg false [⟨some 20, .fa 3 (.t 2), none⟩, ⟨some 21, .ld false 1 (.t 20), none⟩, ⟨some 22, .fa 3 (.t 3), none⟩, ⟨some 23, .ld false 1 (.t 22), none⟩, ⟨some 24, .call false 48 [(.t 21), (.t 23)], none⟩, ⟨some 25, .un .not (.t 24), none⟩] [20, 21, 22, 23, 24]) (.cond (.t 25) (.seq (.reg false [⟨some 4, .as (.c (.lit (.bool false))), none⟩] []) (.ret)) (.skip))) (.seq (.seq (.reg false [⟨some 26, .fa 4 (.t 2), none⟩, ⟨some 27, .ld false 1 (.t 26), none⟩, ⟨some 28, .fa 4 (.t 3), none⟩, ⟨some 29, .ld false 1 (.t 28), none⟩, ⟨some 30, .bin .neq 2 (.t 27) (.t 29), none⟩] [26, 27, 28, 29]) (.cond (.t 30) (.seq (.reg false [⟨some 4, .as (.c (.lit (.bool false))), none⟩] []) (.ret)) (.skip))) (.seq (.seq (.reg false [⟨some 31, .fa 5 (.t 2), none⟩, ⟨some 32, .ld false 1 (.t 31), none⟩, ⟨some 33, .fa 5 (.t 3), none⟩, ⟨some 34, .ld false 1 (.t 33), none⟩, ⟨some 35, .call false 24 [(.t 32), (.t 34)], none⟩, ⟨some 36, .un .not (.t 35), none⟩] [31, 32, 33, 34, 35]) (.cond (.t 36) (.seq (.reg false [⟨some 4, .as (.c (.lit (.bool false))), none⟩] []) (.ret)) (.skip))) (.seq (.reg false [⟨some 4, .as (.c (.lit (.bool true))), none⟩] []) (.ret))))))))
theorem is38 : Is Go.Proofs.Try.prog 38 37 v38 [.t 4] := ⟨Go.Proofs.Try.f38, dl [(0, [4]), (1, [5, 6, 7, 8]), (3, [10, 11, 12, 13]), (5, [15, 16, 17, 18]), (7, [20, 21, 22, 23, 24]), (9, [26, 27, 28, 29]), (11, [31, 32, 33, 34, 35])], Go.Proofs.Try.func38, by kernel_rfl, by kernel_rfl, by kernel_rfl, by kernel_rfl⟩
def v4 : VC := .seq (.reg false [⟨some 2, .box 2 (.t 0), none⟩, ⟨some 4, .as (.c (.lit (.int .i64 0))), none⟩] [4]) (.seq (.reg false [⟨some 5, .fa 0 (.t 2), none⟩, ⟨some 6, .ld false 1 (.t 5), none⟩, ⟨some 7, .mv (.t 1), none⟩, ⟨some 8, .call false 13 [(.t 6), (.t 7)], none⟩, ⟨some 1, .as (.t 8), none⟩] [5, 6, 7, 8]) (.seq (.seq (.reg false [⟨some 9, .mv (.t 1), none⟩, ⟨some 10, .bin .lss 0 (.t 9) (.c (.lit (.int .i64 0))), none⟩] [9]) (.cond (.t 10) (.seq (.reg false [⟨some 4, .as (.c (.lit (.int .i64 (-1)))), none⟩] []) (.ret)) (.skip))) (.seq (.reg false [⟨some 11, .fa 1 (.t 2), none⟩, ⟨some 12, .ld false 1 (.t 11), none⟩, ⟨some 13, .mv (.t 1), none⟩, ⟨some 14, .call false 14 [(.t 12), (.t 13)], none⟩, ⟨some 1, .as (.t 14), none⟩] [11, 12, 13, 14]) (.seq (.seq (.reg false [⟨some 15, .mv (.t 1), none⟩, ⟨some 16, .bin .lss 0 (.t 15) (.c (.lit (.int .i64 0))), none⟩] [15]) (.cond (.t 16) (.seq (.reg false [⟨some 4, .as (.c (.lit (.int .i64 (-1)))), none⟩] []) (.ret)) (.skip))) (.seq (.reg false [⟨some 17, .mv (.t 1), none⟩, ⟨some 4, .as (.t 17), none⟩] [17]) (.ret))))))
theorem is4 : Is Go.Proofs.Try.prog 4 18 v4 [.t 4] := ⟨Go.Proofs.Try.f4, dl [(0, [4]), (1, [5, 6, 7, 8]), (2, [9]), (4, [11, 12, 13, 14]), (5, [15]), (7, [17])], Go.Proofs.Try.func4, by kernel_rfl, by kernel_rfl, by kernel_rfl, by kernel_rfl⟩
def v6 : VC := .seq (.reg false [⟨some 1, .box 2 (.t 0), none⟩, ⟨some 2, .alloc (.agg [(.sl ⟨.nl, true⟩ 1 []), (.sl ⟨.nl, true⟩ 1 [])]), none⟩] []) (.seq (.reg false [⟨some 3, .alloc (.agg [(.sl ⟨.nl, true⟩ 1 []), (.sl ⟨.nl, true⟩ 1 [])]), none⟩] []) (.seq (.reg false [⟨some 4, .fa 0 (.t 1), none⟩, ⟨some 5, .ld false 1 (.t 4), none⟩, ⟨some 6, .call false 16 [(.t 5)], none⟩, ⟨some 7, .fa 0 (.t 3), none⟩, ⟨none, .st 1 (.t 7) (.t 6), none⟩] [4, 5, 6, 7]) (.seq (.reg false [⟨some 8, .fa 1 (.t 1), none⟩, ⟨some 9, .ld false 1 (.t 8), none⟩, ⟨some 10, .call false 17 [(.t 9)], none⟩, ⟨some 11, .fa 1 (.t 3), none⟩, ⟨none, .st 1 (.t 11) (.t 10), none⟩] [8, 9, 10, 11]) (.seq (.reg false [⟨some 12, .ld true 2 (.t 3), none⟩, ⟨none, .st 2 (.t 2) (.t 12), none⟩] [12]) (.ret)))))
theorem is6 : Is Go.Proofs.Try.prog 6 13 v6 [.b 2 true 2] := ⟨Go.Proofs.Try.f6, dl [(2, [4, 5, 6, 7]), (3, [8, 9, 10, 11]), (4, [12])], Go.Proofs.Try.func6, by kernel_rfl, by kernel_rfl, by kernel_rfl, by kernel_rfl⟩
def v9 : VC := .seq (.reg false [⟨some 2, .box 2 (.t 0), none⟩, ⟨some 3, .box 2 (.t 1), none⟩, ⟨some 4, .as (.c (.lit (.bool false))), none⟩] [4]) (.seq (.seq (.reg false [⟨some 5, .fa 0 (.t 2), none⟩, ⟨some 6, .ld false 1 (.t 5), none⟩, ⟨some 7, .fa 0 (.t 3), none⟩, ⟨some 8, .ld false 1 (.t 7), none⟩, ⟨some 9, .call false 24 [(.t 6), (.t 8)], none⟩, ⟨some 10, .un .not (.t 9), none⟩] [5, 6, 7, 8, 9]) (.cond (.t 10) (.seq (.reg false [⟨some 4, .as (.c (.lit (.bool false))), none⟩] []) (.ret)) (.skip))) (.seq (.seq (.reg false [⟨some 11, .fa 1 (.t 2), none⟩, ⟨some 12, .ld false 1 (.t 11), none⟩, ⟨some 13, .fa 1 (.t 3), none⟩, ⟨some 14, .ld false 1 (.t 13), none⟩, ⟨some 15, .call false 25 [(.t 12), (.t 14)], none⟩, ⟨some 16, .un .not (.t 15), none⟩] [11, 12, 13, 14, 15]) (.cond (.t 16) (.seq (.reg false [⟨some 4, .as (.c (.lit (.bool false))), none⟩] []) (.ret)) (.skip))) (.seq (.reg false [⟨some 4, .as (.c (.lit (.bool true))), none⟩] []) (.ret))))
theorem is9 : Is Go.Proofs.Try.prog 9 17 v9 [.t 4] := ⟨Go.Proofs.Try.f9, dl [(0, [4]), (1, [5, 6, 7, 8, 9]), (3, [11, 12, 13, 14, 15])], Go.Proofs.Try.func9, by kernel_rfl, by kernel_rfl, by kernel_rfl, by kernel_rfl⟩
theorem is13 : Is Go.Proofs.Try.prog 13 28 (szStr) [.t 4] := ⟨Go.Proofs.Try.f13, dl [(0, [4]), (1, [6, 7, 8, 9]), (2, [10]), (5, [12, 13, 14]), (7, [18, 19, 20, 21, 22, 23, 24]), (8, [25]), (6, [16, 17]), (10, [27])], Go.Proofs.Try.func13, by kernel_rfl, by kernel_rfl, by kernel_rfl, by kernel_rfl⟩
theorem is16 : Is Go.Proofs.Try.prog 16 22 (toStr) [.t 2] := ⟨Go.Proofs.Try.f16, dl [(0, [2]), (1, [5, 6, 7]), (3, [8, 9, 10]), (5, [14, 15, 16, 17, 18, 19, 20]), (4, [12, 13]), (6, [21])], Go.Proofs.Try.func16, by kernel_rfl, by kernel_rfl, by kernel_rfl, by kernel_rfl⟩
theorem is24 : Is Go.Proofs.Try.prog 24 26 (eqStr) [.t 4] := ⟨Go.Proofs.Try.f24, dl [(0, [4]), (1, [6, 7, 8, 9]), (4, [11, 12, 13]), (6, [17, 18, 19, 20, 21, 22, 23, 24]), (5, [15, 16])], Go.Proofs.Try.func24, by kernel_rfl, by kernel_rfl, by kernel_rfl, by kernel_rfl⟩
theorem is41 : Is Go.Proofs.Try.prog 41 27 (szS 2 49) [.t 4] := ⟨Go.Proofs.Try.f41, dl [(0, [4]), (1, [6, 7, 8, 9]), (2, [10]), (5, [12, 13, 14]), (7, [18, 19, 20, 21, 22, 23]), (8, [24]), (6, [16, 17]), (10, [26])], Go.Proofs.Try.func41, by kernel_rfl, by kernel_rfl, by kernel_rfl, by kernel_rfl⟩
theorem is45 : Is Go.Proofs.Try.prog 45 23 (toS 2 32 (.agg [.lit (.string (by8 "")), .lit (.string (by8 ""))]) 51) [.t 2] := ⟨Go.Proofs.Try.f45, dl [(0, [2]), (1, [5, 6, 7]), (3, [8, 9, 10]), (5, [14, 15, 16, 17, 18, 19, 20, 21]), (4, [12, 13]), (6, [22])], Go.Proofs.Try.func45, by kernel_rfl, by kernel_rfl, by kernel_rfl, by kernel_rfl⟩
theorem is48 : Is Go.Proofs.Try.prog 48 27 (eqS 2 53) [.t 4] := ⟨Go.Proofs.Try.f48, dl [(0, [4]), (1, [6, 7, 8, 9]), (4, [11, 12, 13]), (6, [17, 18, 19, 20, 21, 22, 23, 24, 25]), (5, [15, 16])], Go.Proofs.Try.func48, by kernel_rfl, by kernel_rfl, by kernel_rfl, by kernel_rfl⟩
theorem is14 : Is Go.Proofs.Try.prog 14 27 (szS 6 31) [.t 4] := ⟨Go.Proofs.Try.f14, dl [(0, [4]), (1, [6, 7, 8, 9]), (2, [10]), (5, [12, 13, 14]), (7, [18, 19, 20, 21, 22, 23]), (8, [24]), (6, [16, 17]), (10, [26])], Go.Proofs.Try.func14, by kernel_rfl, by kernel_rfl, by kernel_rfl, by kernel_rfl⟩
theorem is17 : Is Go.Proofs.Try.prog 17 23 (toS 6 104 (.agg [.lit (.string (by8 "")), .lit (.string (by8 "")), .lit (.string (by8 "")), .sl ⟨.nl, true⟩ 1 [], .lit (.bool false), .sl ⟨.nl, true⟩ 1 []]) 35) [.t 2] := ⟨Go.Proofs.Try.f17, dl [(0, [2]), (1, [5, 6, 7]), (3, [8, 9, 10]), (5, [14, 15, 16, 17, 18, 19, 20, 21]), (4, [12, 13]), (6, [22])], Go.Proofs.Try.func17, by kernel_rfl, by kernel_rfl, by kernel_rfl, by kernel_rfl⟩
theorem is25 : Is Go.Proofs.Try.prog 25 27 (eqS 6 38) [.t 4] := ⟨Go.Proofs.Try.f25, dl [(0, [4]), (1, [6, 7, 8, 9]), (4, [11, 12, 13]), (6, [17, 18, 19, 20, 21, 22, 23, 24, 25]), (5, [15, 16])], Go.Proofs.Try.func25, by kernel_rfl, by kernel_rfl, by kernel_rfl, by kernel_rfl⟩
def Sm.good (x : Sm) : Prop := x.alg.size ≤ 9223372036854775807 ∧ x.bytes.size ≤ 9223372036854775807
def Sm.small (x : Sm) : Prop := x.alg.size ≤ 1048576 ∧ x.bytes.size ≤ 1048576
def Sm.sz (x : Sm) (l : Int) : Int := szIf (l - x.alg.size) fun l => szIf (l - x.bytes.size) fun l => l
theorem Sm.sz_le (x : Sm) (l : Int) (h : 0 ≤ l) : x.sz l ≤ l := by
  unfold Sm.sz
  obtain ⟨l1, e1⟩ : ∃ y, l - x.alg.size = y := ⟨_, rfl⟩
  have k1 : l1 ≤ l := by omega
  rw [e1]
  refine szIf_le k1 h fun c1 => ?_
  obtain ⟨l2, e2⟩ : ∃ y, l1 - x.bytes.size = y := ⟨_, rfl⟩
  have k2 : l2 ≤ l := by omega
  rw [e2]
  refine szIf_le k2 h fun c2 => ?_
  omega
theorem Sm.small_of (x : Sm) (l : Int) (h : 0 ≤ l) (h2 : l ≤ 1048576) (hs : 0 ≤ x.sz l) : x.small := by
  unfold Sm.sz at hs
  obtain ⟨l1, e1⟩ : ∃ y, l - x.alg.size = y := ⟨_, rfl⟩
  rw [e1] at hs
  by_cases c1 : l1 < 0
  · rw [szIf_neg c1] at hs; omega
  rw [szIf_pos c1] at hs
  have s1 : x.alg.size ≤ 1048576 := by omega
  obtain ⟨l2, e2⟩ : ∃ y, l1 - x.bytes.size = y := ⟨_, rfl⟩
  rw [e2] at hs
  by_cases c2 : l2 < 0
  · rw [szIf_neg c2] at hs; omega
  rw [szIf_pos c2] at hs
  have s2 : x.bytes.size ≤ 1048576 := by omega
  exact ⟨s1, s2⟩
def Pk.good (x : Pk) : Prop := x.name.size ≤ 9223372036854775807 ∧ x.version.size ≤ 9223372036854775807 ∧ x.source.size ≤ 9223372036854775807 ∧ (x.sums.length ≤ 9223372036854775807 ∧ ∀ y ∈ x.sums, y.good) ∧ True ∧ (x.needs.length ≤ 9223372036854775807 ∧ ∀ y ∈ x.needs, y.size ≤ 9223372036854775807)
def Pk.small (x : Pk) : Prop := x.name.size ≤ 1048576 ∧ x.version.size ≤ 1048576 ∧ x.source.size ≤ 1048576 ∧ (x.sums.length ≤ 1048576 ∧ ∀ y ∈ x.sums, y.small) ∧ True ∧ (x.needs.length ≤ 1048576 ∧ ∀ y ∈ x.needs, y.size ≤ 1048576)
def Pk.sz (x : Pk) (l : Int) : Int := szIf (l - x.name.size) fun l => szIf (l - x.version.size) fun l => szIf (l - x.source.size) fun l => szIf (szL Sm.sz x.sums l) fun l => szIf (szL (fun (x : ByteArray) l => l - x.size) x.needs l) fun l => l
theorem Pk.sz_le (x : Pk) (l : Int) (h : 0 ≤ l) : x.sz l ≤ l := by
  unfold Pk.sz
  obtain ⟨l1, e1⟩ : ∃ y, l - x.name.size = y := ⟨_, rfl⟩
  have k1 : l1 ≤ l := by omega
  rw [e1]
  refine szIf_le k1 h fun c1 => ?_
  obtain ⟨l2, e2⟩ : ∃ y, l1 - x.version.size = y := ⟨_, rfl⟩
  have k2 : l2 ≤ l := by omega
  rw [e2]
  refine szIf_le k2 h fun c2 => ?_
  obtain ⟨l3, e3⟩ : ∃ y, l2 - x.source.size = y := ⟨_, rfl⟩
  have k3 : l3 ≤ l := by omega
  rw [e3]
  refine szIf_le k3 h fun c3 => ?_
  obtain ⟨l4, e4⟩ : ∃ y, szL Sm.sz x.sums l3 = y := ⟨_, rfl⟩
  have k4 : l4 ≤ l := by have := szL_le (f := Sm.sz) (xs := x.sums) (l := l3) (fun x _ l h => x.sz_le l h) c3; omega
  rw [e4]
  refine szIf_le k4 h fun c4 => ?_
  obtain ⟨l5, e5⟩ : ∃ y, szL (fun (x : ByteArray) l => l - x.size) x.needs l4 = y := ⟨_, rfl⟩
  have k5 : l5 ≤ l := by have := szL_le (f := (fun (x : ByteArray) l => l - x.size)) (xs := x.needs) (l := l4) (fun (x : ByteArray) _ l _ => by omega) c4; omega
  rw [e5]
  refine szIf_le k5 h fun c5 => ?_
  omega
theorem Pk.small_of (x : Pk) (l : Int) (h : 0 ≤ l) (h2 : l ≤ 1048576) (hs : 0 ≤ x.sz l) : x.small := by
  unfold Pk.sz at hs
  obtain ⟨l1, e1⟩ : ∃ y, l - x.name.size = y := ⟨_, rfl⟩
  rw [e1] at hs
  by_cases c1 : l1 < 0
  · rw [szIf_neg c1] at hs; omega
  rw [szIf_pos c1] at hs
  have s1 : x.name.size ≤ 1048576 := by omega
  obtain ⟨l2, e2⟩ : ∃ y, l1 - x.version.size = y := ⟨_, rfl⟩
  rw [e2] at hs
  by_cases c2 : l2 < 0
  · rw [szIf_neg c2] at hs; omega
  rw [szIf_pos c2] at hs
  have s2 : x.version.size ≤ 1048576 := by omega
  obtain ⟨l3, e3⟩ : ∃ y, l2 - x.source.size = y := ⟨_, rfl⟩
  rw [e3] at hs
  by_cases c3 : l3 < 0
  · rw [szIf_neg c3] at hs; omega
  rw [szIf_pos c3] at hs
  have s3 : x.source.size ≤ 1048576 := by omega
  obtain ⟨l4, e4⟩ : ∃ y, szL Sm.sz x.sums l3 = y := ⟨_, rfl⟩
  rw [e4] at hs
  by_cases c4 : l4 < 0
  · rw [szIf_neg c4] at hs; omega
  rw [szIf_pos c4] at hs
  have b4 := szL_bnd (f := Sm.sz) (xs := x.sums) (l := l3) Sm.sz_le (by omega)
  have k4 : l4 ≤ l3 := by rw [← e4]; exact szL_le (fun x _ l h => x.sz_le l h) (by omega)
  obtain ⟨l5, e5⟩ : ∃ y, szL (fun (x : ByteArray) l => l - x.size) x.needs l4 = y := ⟨_, rfl⟩
  rw [e5] at hs
  by_cases c5 : l5 < 0
  · rw [szIf_neg c5] at hs; omega
  rw [szIf_pos c5] at hs
  have b5 := szL_bnd (f := fun (x : ByteArray) l => l - x.size) (xs := x.needs) (l := l4) (fun x l h => by omega) (by omega)
  have k5 : l5 ≤ l4 := by rw [← e5]; exact szL_le (fun (x : ByteArray) _ l _ => by omega) (by omega)
  exact ⟨s1, s2, s3, ⟨by omega, fun y hy => by obtain ⟨m, m1, m2, m3⟩ := b4.2 y hy; exact y.small_of m m1 (by omega) m3⟩, trivial, ⟨by omega, fun y hy => by obtain ⟨m, m1, m2, m3⟩ := b5.2 y hy; omega⟩⟩
def Gr.good (x : Gr) : Prop := (x.top.length ≤ 9223372036854775807 ∧ ∀ y ∈ x.top, y.size ≤ 9223372036854775807) ∧ (x.packs.length ≤ 9223372036854775807 ∧ ∀ y ∈ x.packs, y.good)
def Gr.small (x : Gr) : Prop := (x.top.length ≤ 1048576 ∧ ∀ y ∈ x.top, y.size ≤ 1048576) ∧ (x.packs.length ≤ 1048576 ∧ ∀ y ∈ x.packs, y.small)
def Gr.sz (x : Gr) (l : Int) : Int := szIf (szL (fun (x : ByteArray) l => l - x.size) x.top l) fun l => szIf (szL Pk.sz x.packs l) fun l => l
theorem Gr.sz_le (x : Gr) (l : Int) (h : 0 ≤ l) : x.sz l ≤ l := by
  unfold Gr.sz
  obtain ⟨l1, e1⟩ : ∃ y, szL (fun (x : ByteArray) l => l - x.size) x.top l = y := ⟨_, rfl⟩
  have k1 : l1 ≤ l := by have := szL_le (f := (fun (x : ByteArray) l => l - x.size)) (xs := x.top) (l := l) (fun (x : ByteArray) _ l _ => by omega) h; omega
  rw [e1]
  refine szIf_le k1 h fun c1 => ?_
  obtain ⟨l2, e2⟩ : ∃ y, szL Pk.sz x.packs l1 = y := ⟨_, rfl⟩
  have k2 : l2 ≤ l := by have := szL_le (f := Pk.sz) (xs := x.packs) (l := l1) (fun x _ l h => x.sz_le l h) c1; omega
  rw [e2]
  refine szIf_le k2 h fun c2 => ?_
  omega
theorem Gr.small_of (x : Gr) (l : Int) (h : 0 ≤ l) (h2 : l ≤ 1048576) (hs : 0 ≤ x.sz l) : x.small := by
  unfold Gr.sz at hs
  obtain ⟨l1, e1⟩ : ∃ y, szL (fun (x : ByteArray) l => l - x.size) x.top l = y := ⟨_, rfl⟩
  rw [e1] at hs
  by_cases c1 : l1 < 0
  · rw [szIf_neg c1] at hs; omega
  rw [szIf_pos c1] at hs
  have b1 := szL_bnd (f := fun (x : ByteArray) l => l - x.size) (xs := x.top) (l := l) (fun x l h => by omega) (by omega)
  have k1 : l1 ≤ l := by rw [← e1]; exact szL_le (fun (x : ByteArray) _ l _ => by omega) (by omega)
  obtain ⟨l2, e2⟩ : ∃ y, szL Pk.sz x.packs l1 = y := ⟨_, rfl⟩
  rw [e2] at hs
  by_cases c2 : l2 < 0
  · rw [szIf_neg c2] at hs; omega
  rw [szIf_pos c2] at hs
  have b2 := szL_bnd (f := Pk.sz) (xs := x.packs) (l := l1) Pk.sz_le (by omega)
  have k2 : l2 ≤ l1 := by rw [← e2]; exact szL_le (fun x _ l h => x.sz_le l h) (by omega)
  exact ⟨⟨by omega, fun y hy => by obtain ⟨m, m1, m2, m3⟩ := b1.2 y hy; omega⟩, ⟨by omega, fun y hy => by obtain ⟨m, m1, m2, m3⟩ := b2.2 y hy; exact y.small_of m m1 (by omega) m3⟩⟩
section
variable {E : Env} (hE : E.P = Go.Proofs.Try.prog)
include hE
theorem szSum_fx (x : Sm) (l : Int) (hg : x.good) (h0 : 0 ≤ l) (h1 : l ≤ 1048576) : Fx E 49 [] [.agg x.av, .lit (.int .i64 l)] [] (.lit (.int .i64 (x.sz l))) := by
  obtain ⟨g_alg, g_bytes⟩ := hg
  refine (is49.to hE).fx [] (by simp) rfl rfl ?_
  simp [v49, Sm.av, okC, mkF]
  rw [wrap_i64 (by omega) (by omega)]
  obtain ⟨l1, e1⟩ : ∃ y, l - x.alg.size = y := ⟨_, rfl⟩
  have k1 : l1 ≤ l := by omega
  rw [e1]
  by_cases c1 : l1 < 0
  · simp [c1]
    exact Fin_ret rfl (by simp only [Sm.sz, e1, szIf_neg c1]; rfl)
  simp [c1]
  rw [wrap_i64 (by omega) (by omega)]
  obtain ⟨l2, e2⟩ : ∃ y, l1 - x.bytes.size = y := ⟨_, rfl⟩
  have k2 : l2 ≤ l := by omega
  rw [e2]
  by_cases c2 : l2 < 0
  · simp [c2]
    exact Fin_ret rfl (by simp only [Sm.sz, e1, szIf_pos c1, e2, szIf_neg c2]; rfl)
  simp [c2]
  exact Fin_ret rfl (by simp only [Sm.sz, e1, szIf_pos c1, e2, szIf_pos c2]; rfl)
theorem toSum_fx (x : Sm) (h : x.small) : Fx E 51 [] [.agg x.av] [] (.agg (mkF.mkL true x.av)) := by
  obtain ⟨g_alg, g_bytes⟩ := h
  refine (is51.to hE).fx [] (by simp) rfl rfl ?_
  simp [v51, Sm.av, okC, mkF, putElem, upd]
  exact Fin_ret rfl rfl
theorem eqSum_fx (x : Sm) (h : x.small) : Fx E 53 [] [.agg x.av, .agg x.av] [] (.lit (.bool true)) := by
  obtain ⟨g_alg, g_bytes⟩ := h
  refine (is53.to hE).fx [] (by simp) rfl rfl ?_
  simp [v53, Sm.av, okC, mkF]
  exact Fin_ret rfl rfl
theorem eqSumS_fx (xs : List Sm) (h : xs.length ≤ 1048576) (hx : ∀ x ∈ xs, x.small) : Fx E 48 [] [.sl ro 2 (xs.map fun x => .agg x.av), .sl ro 2 (xs.map fun x => .agg x.av)] [] (.lit (.bool true)) := eqSame_fx (is48.to hE) (by decide) Sm.pl Sm.len xs (fun x hm => eqSum_fx hE x (hx x hm)) (by omega)
theorem szPack_fx (x : Pk) (l : Int) (hg : x.good) (h0 : 0 ≤ l) (h1 : l ≤ 1048576) : Fx E 31 [] [.agg x.av, .lit (.int .i64 l)] [] (.lit (.int .i64 (x.sz l))) := by
  obtain ⟨g_name, g_version, g_source, g_sums, g_dev, g_needs⟩ := hg
  refine (is31.to hE).fx [] (by simp) rfl rfl ?_
  simp [v31, Pk.av, okC, mkF]
  rw [wrap_i64 (by omega) (by omega)]
  obtain ⟨l1, e1⟩ : ∃ y, l - x.name.size = y := ⟨_, rfl⟩
  have k1 : l1 ≤ l := by omega
  rw [e1]
  by_cases c1 : l1 < 0
  · simp [c1]
    exact Fin_ret rfl (by simp only [Pk.sz, e1, szIf_neg c1]; rfl)
  simp [c1]
  rw [wrap_i64 (by omega) (by omega)]
  obtain ⟨l2, e2⟩ : ∃ y, l1 - x.version.size = y := ⟨_, rfl⟩
  have k2 : l2 ≤ l := by omega
  rw [e2]
  by_cases c2 : l2 < 0
  · simp [c2]
    exact Fin_ret rfl (by simp only [Pk.sz, e1, szIf_pos c1, e2, szIf_neg c2]; rfl)
  simp [c2]
  rw [wrap_i64 (by omega) (by omega)]
  obtain ⟨l3, e3⟩ : ∃ y, l2 - x.source.size = y := ⟨_, rfl⟩
  have k3 : l3 ≤ l := by omega
  rw [e3]
  by_cases c3 : l3 < 0
  · simp [c3]
    exact Fin_ret rfl (by simp only [Pk.sz, e1, szIf_pos c1, e2, szIf_pos c2, e3, szIf_neg c3]; rfl)
  simp [c3]
  refine vcall_go (szS_fx (is41.to hE) (by decide) (a := Sm.av) (g := Sm.sz) Sm.pl Sm.len (fun x l hx a b => szSum_fx hE x l hx a b) (fun x l h => Sm.sz_le x l h) x.sums g_sums.2 l3 (by omega) (by omega) g_sums.1) (by simp) (by simp) (by simp) (by simp) ?_
  simp
  obtain ⟨l4, e4⟩ : ∃ y, szL Sm.sz x.sums l3 = y := ⟨_, rfl⟩
  have k4 : l4 ≤ l := by have := szL_le (f := Sm.sz) (xs := x.sums) (l := l3) (fun x _ l h => x.sz_le l h) (by omega); omega
  rw [e4]
  by_cases c4 : l4 < 0
  · simp [c4]
    exact Fin_ret rfl (by simp only [Pk.sz, e1, szIf_pos c1, e2, szIf_pos c2, e3, szIf_pos c3, e4, szIf_neg c4]; rfl)
  simp [c4]
  refine vcall_go (szStr_fx (is13.to hE) (by decide) x.needs g_needs.2 l4 (by omega) (by omega) g_needs.1) (by simp) (by simp) (by simp) (by simp) ?_
  simp
  obtain ⟨l5, e5⟩ : ∃ y, szL (fun (x : ByteArray) l => l - x.size) x.needs l4 = y := ⟨_, rfl⟩
  have k5 : l5 ≤ l := by have := szL_le (f := (fun (x : ByteArray) l => l - x.size)) (xs := x.needs) (l := l4) (fun (x : ByteArray) _ l _ => by omega) (by omega); omega
  rw [e5]
  by_cases c5 : l5 < 0
  · simp [c5]
    exact Fin_ret rfl (by simp only [Pk.sz, e1, szIf_pos c1, e2, szIf_pos c2, e3, szIf_pos c3, e4, szIf_pos c4, e5, szIf_neg c5]; rfl)
  simp [c5]
  exact Fin_ret rfl (by simp only [Pk.sz, e1, szIf_pos c1, e2, szIf_pos c2, e3, szIf_pos c3, e4, szIf_pos c4, e5, szIf_pos c5]; rfl)
theorem toPack_fx (x : Pk) (h : x.small) : Fx E 35 [] [.agg x.av] [] (.agg (mkF.mkL true x.av)) := by
  obtain ⟨g_name, g_version, g_source, g_sums, g_dev, g_needs⟩ := h
  refine (is35.to hE).fx [] (by simp) rfl rfl ?_
  simp [v35, Pk.av, okC, mkF, putElem, upd]
  refine vcall_go (toS_fx (is45.to hE) (by decide) rfl rfl rfl rfl Sm.pl Sm.ok Sm.len (by decide) x.sums (fun y hm => toSum_fx hE y (g_sums.2 y hm)) (by omega) g_sums.1) (by simp) (by simp) (by simp) (by simp) ?_
  simp [okC, putElem, upd, mkF]
  refine vcall_go (toStr_fx (is16.to hE) (by decide) x.needs g_needs.1) (by simp) (by simp) (by simp) (by simp) ?_
  simp [okC, putElem, upd, mkF]
  exact Fin_ret rfl rfl
theorem eqPack_fx (x : Pk) (h : x.small) : Fx E 38 [] [.agg x.av, .agg x.av] [] (.lit (.bool true)) := by
  obtain ⟨g_name, g_version, g_source, g_sums, g_dev, g_needs⟩ := h
  refine (is38.to hE).fx [] (by simp) rfl rfl ?_
  simp [v38, Pk.av, okC, mkF]
  refine vcall_go (eqSumS_fx hE x.sums g_sums.1 g_sums.2) (by simp) (by simp) (by simp) (by simp) ?_
  simp
  refine vcall_go (eqStr_fx (is24.to hE) (by decide) x.needs x.needs (by omega)) (by simp) (by simp) (by simp) (by simp) ?_
  simp [all2_same]
  exact Fin_ret rfl rfl
theorem eqPackS_fx (xs : List Pk) (h : xs.length ≤ 1048576) (hx : ∀ x ∈ xs, x.small) : Fx E 25 [] [.sl ro 6 (xs.map fun x => .agg x.av), .sl ro 6 (xs.map fun x => .agg x.av)] [] (.lit (.bool true)) := eqSame_fx (is25.to hE) (by decide) Pk.pl Pk.len xs (fun x hm => eqPack_fx hE x (hx x hm)) (by omega)
theorem szGraph_fx (x : Gr) (l : Int) (hg : x.good) (h0 : 0 ≤ l) (h1 : l ≤ 1048576) : Fx E 4 [] [.agg x.av, .lit (.int .i64 l)] [] (.lit (.int .i64 (x.sz l))) := by
  obtain ⟨g_top, g_packs⟩ := hg
  refine (is4.to hE).fx [] (by simp) rfl rfl ?_
  simp [v4, Gr.av, okC, mkF]
  refine vcall_go (szStr_fx (is13.to hE) (by decide) x.top g_top.2 l (by omega) (by omega) g_top.1) (by simp) (by simp) (by simp) (by simp) ?_
  simp
  obtain ⟨l1, e1⟩ : ∃ y, szL (fun (x : ByteArray) l => l - x.size) x.top l = y := ⟨_, rfl⟩
  have k1 : l1 ≤ l := by have := szL_le (f := (fun (x : ByteArray) l => l - x.size)) (xs := x.top) (l := l) (fun (x : ByteArray) _ l _ => by omega) (by omega); omega
  rw [e1]
  by_cases c1 : l1 < 0
  · simp [c1]
    exact Fin_ret rfl (by simp only [Gr.sz, e1, szIf_neg c1]; rfl)
  simp [c1]
  refine vcall_go (szS_fx (is14.to hE) (by decide) (a := Pk.av) (g := Pk.sz) Pk.pl Pk.len (fun x l hx a b => szPack_fx hE x l hx a b) (fun x l h => Pk.sz_le x l h) x.packs g_packs.2 l1 (by omega) (by omega) g_packs.1) (by simp) (by simp) (by simp) (by simp) ?_
  simp
  obtain ⟨l2, e2⟩ : ∃ y, szL Pk.sz x.packs l1 = y := ⟨_, rfl⟩
  have k2 : l2 ≤ l := by have := szL_le (f := Pk.sz) (xs := x.packs) (l := l1) (fun x _ l h => x.sz_le l h) (by omega); omega
  rw [e2]
  by_cases c2 : l2 < 0
  · simp [c2]
    exact Fin_ret rfl (by simp only [Gr.sz, e1, szIf_pos c1, e2, szIf_neg c2]; rfl)
  simp [c2]
  exact Fin_ret rfl (by simp only [Gr.sz, e1, szIf_pos c1, e2, szIf_pos c2]; rfl)
theorem toGraph_fx (x : Gr) (h : x.small) : Fx E 6 [] [.agg x.av] [] (.agg (mkF.mkL true x.av)) := by
  obtain ⟨g_top, g_packs⟩ := h
  refine (is6.to hE).fx [] (by simp) rfl rfl ?_
  simp [v6, Gr.av, okC, mkF, putElem, upd]
  refine vcall_go (toStr_fx (is16.to hE) (by decide) x.top g_top.1) (by simp) (by simp) (by simp) (by simp) ?_
  simp [okC, putElem, upd, mkF]
  refine vcall_go (toS_fx (is17.to hE) (by decide) rfl rfl rfl rfl Pk.pl Pk.ok Pk.len (by decide) x.packs (fun y hm => toPack_fx hE y (g_packs.2 y hm)) (by omega) g_packs.1) (by simp) (by simp) (by simp) (by simp) ?_
  simp [okC, putElem, upd, mkF]
  exact Fin_ret rfl rfl
theorem eqGraph_fx (x : Gr) (h : x.small) : Fx E 9 [] [.agg x.av, .agg x.av] [] (.lit (.bool true)) := by
  obtain ⟨g_top, g_packs⟩ := h
  refine (is9.to hE).fx [] (by simp) rfl rfl ?_
  simp [v9, Gr.av, okC, mkF]
  refine vcall_go (eqStr_fx (is24.to hE) (by decide) x.top x.top (by omega)) (by simp) (by simp) (by simp) (by simp) ?_
  simp [all2_same]
  refine vcall_go (eqPackS_fx hE x.packs g_packs.1 g_packs.2) (by simp) (by simp) (by simp) (by simp) ?_
  simp
  exact Fin_ret rfl rfl
end
end Go.Proofs.Yticamghmcikfcaa.Vm
