/- Pairs of digits, read: both sides. -/
import Derived.Test.YtgegcfhifojjiaaDoorGq
namespace Go.Proofs.YtgegcfhifojjiaaDoor.Vm
open Go Go.RowKit
set_option linter.unusedVariables false
set_option linter.unusedSimpArgs false
def v138 : VC := .seq (.reg false [⟨some 4, .as (.c (.lit (.string (by8 "")))), none⟩, ⟨some 5, .as (.c (.lit (.bool false))), none⟩] [4, 5]) (.seq (.reg false [⟨some 10, .bsl 1 [], none⟩, ⟨some 6, .as (.t 10), none⟩] [10]) (.seq (.seq (.reg false [⟨some 7, .as (.c (.lit (.int .i64 0))), none⟩] []) (.block 0 (.loop (.seq (.seq (.reg false [⟨some 11, .mv (.t 7), none⟩, ⟨some 12, .bin .add 0 (.t 11) (.c (.lit (.int .i64 1))), none⟩, ⟨some 13, .mv (.t 0), none⟩, ⟨some 14, .len true (.t 13), none⟩, ⟨some 15, .bin .lss 0 (.t 12) (.t 14), none⟩] [11, 12, 13, 14]) (.cond (.t 15) (.skip) (.exit 0))) (.seq (.block 1 (.seq (.reg true [⟨some 18, .mv (.t 1), none⟩, ⟨some 19, .mv (.t 0), none⟩, ⟨some 20, .mv (.t 7), none⟩, ⟨some 21, .idx (.t 19) (.t 20), none⟩, ⟨some 22, .call true 16 [(.t 18), (.t 21)], none⟩, ⟨some 23, .mv (.t 1), none⟩, ⟨some 24, .mv (.t 0), none⟩, ⟨some 25, .mv (.t 7), none⟩, ⟨some 26, .bin .add 0 (.t 25) (.c (.lit (.int .i64 1))), none⟩, ⟨some 27, .idx (.t 24) (.t 26), none⟩, ⟨some 28, .call true 16 [(.t 23), (.t 27)], none⟩, ⟨some 8, .as (.t 22), none⟩, ⟨some 9, .as (.t 28), none⟩] [18, 19, 20, 21, 22, 23, 24, 25, 26, 27, 28]) (.seq (.seq (.reg false [⟨some 29, .mv (.t 8), none⟩, ⟨some 30, .bin .lss 0 (.t 29) (.c (.lit (.int .i64 0))), none⟩, ⟨some 31, .mv (.t 30), none⟩, ⟨some 32, .mv (.t 9), (some (31, false))⟩, ⟨some 33, .bin .lss 0 (.t 32) (.c (.lit (.int .i64 0))), (some (31, false))⟩, ⟨some 34, .pick (.t 31) (.c (.lit (.bool true))) (.t 33), none⟩] [29, 30, 31, 32, 33]) (.cond (.t 34) (.seq (.reg false [⟨some 4, .as (.c (.lit (.string (by8 "")))), none⟩, ⟨some 5, .as (.c (.lit (.bool false))), none⟩] []) (.ret)) (.skip))) (.reg false [⟨some 35, .mv (.t 6), none⟩, ⟨some 36, .mv (.t 8), none⟩, ⟨some 37, .bin .mul 0 (.c (.lit (.int .i64 16))) (.t 36), none⟩, ⟨some 38, .mv (.t 9), none⟩, ⟨some 39, .bin .add 0 (.t 37) (.t 38), none⟩, ⟨some 40, .cvI .u8 (.t 39), none⟩, ⟨some 41, .bsl 1 [(.t 40)], none⟩, ⟨some 42, .app 1 1 (.t 35) (.t 41), none⟩, ⟨some 6, .as (.t 42), none⟩] [35, 36, 37, 38, 39, 40, 41, 42])))) (.reg false [⟨some 16, .mv (.t 7), none⟩, ⟨some 17, .bin .add 0 (.t 16) (.c (.lit (.int .i64 2))), none⟩, ⟨some 7, .as (.t 17), none⟩] [16, 17])))))) (.seq (.reg false [⟨some 43, .mv (.t 6), none⟩, ⟨some 44, .b2s (.t 43), none⟩, ⟨some 45, .mv (.t 0), none⟩, ⟨some 46, .len true (.t 45), none⟩, ⟨some 47, .bin .rem 0 (.t 46) (.c (.lit (.int .i64 2))), none⟩, ⟨some 48, .bin .eql 0 (.t 47) (.c (.lit (.int .i64 0))), none⟩, ⟨some 4, .as (.t 44), none⟩, ⟨some 5, .as (.t 48), none⟩] [43, 44, 45, 46, 47, 48]) (.ret))))
theorem is138 : Is Go.Proofs.Tryd.prog 138 49 v138 [.t 4, .t 5] := ⟨Go.Proofs.Tryd.f138, dl [(0, [4, 5]), (1, [10]), (3, [11, 12, 13, 14]), (5, [18, 19, 20, 21, 22, 23, 24, 25, 26, 27, 28]), (6, [29, 30, 31, 32, 33]), (8, [35, 36, 37, 38, 39, 40, 41, 42]), (4, [16, 17]), (9, [43, 44, 45, 46, 47, 48])], Go.Proofs.Tryd.func138, by kernel_rfl, by kernel_rfl, by kernel_rfl, by kernel_rfl⟩
def v108 : VC := .seq (.reg false [⟨some 2, .as (.c (.lit (.string (by8 "")))), none⟩, ⟨some 3, .as (.c (.lit (.bool false))), none⟩] [2, 3]) (.seq (.reg false [⟨some 8, .bsl 1 [], none⟩, ⟨some 4, .as (.t 8), none⟩] [8]) (.seq (.seq (.reg false [⟨some 5, .as (.c (.lit (.int .i64 0))), none⟩] []) (.block 0 (.loop (.seq (.seq (.reg false [⟨some 9, .mv (.t 5), none⟩, ⟨some 10, .bin .add 0 (.t 9) (.c (.lit (.int .i64 1))), none⟩, ⟨some 11, .mv (.t 0), none⟩, ⟨some 12, .len true (.t 11), none⟩, ⟨some 13, .bin .lss 0 (.t 10) (.t 12), none⟩] [9, 10, 11, 12]) (.cond (.t 13) (.skip) (.exit 0))) (.seq (.block 1 (.seq (.reg true [⟨some 16, .mv (.t 0), none⟩, ⟨some 17, .mv (.t 5), none⟩, ⟨some 18, .idx (.t 16) (.t 17), none⟩, ⟨some 19, .call true 47 [(.c (.lit (.string (by8 "0123456789abcdef")))), (.t 18)], none⟩, ⟨some 20, .mv (.t 0), none⟩, ⟨some 21, .mv (.t 5), none⟩, ⟨some 22, .bin .add 0 (.t 21) (.c (.lit (.int .i64 1))), none⟩, ⟨some 23, .idx (.t 20) (.t 22), none⟩, ⟨some 24, .call true 47 [(.c (.lit (.string (by8 "0123456789abcdef")))), (.t 23)], none⟩, ⟨some 6, .as (.t 19), none⟩, ⟨some 7, .as (.t 24), none⟩] [16, 17, 18, 19, 20, 21, 22, 23, 24]) (.seq (.seq (.reg false [⟨some 25, .mv (.t 6), none⟩, ⟨some 26, .bin .lss 0 (.t 25) (.c (.lit (.int .i64 0))), none⟩, ⟨some 27, .mv (.t 26), none⟩, ⟨some 28, .mv (.t 7), (some (27, false))⟩, ⟨some 29, .bin .lss 0 (.t 28) (.c (.lit (.int .i64 0))), (some (27, false))⟩, ⟨some 30, .pick (.t 27) (.c (.lit (.bool true))) (.t 29), none⟩] [25, 26, 27, 28, 29]) (.cond (.t 30) (.seq (.reg false [⟨some 2, .as (.c (.lit (.string (by8 "")))), none⟩, ⟨some 3, .as (.c (.lit (.bool false))), none⟩] []) (.ret)) (.skip))) (.reg false [⟨some 31, .mv (.t 4), none⟩, ⟨some 32, .mv (.t 6), none⟩, ⟨some 33, .bin .mul 0 (.c (.lit (.int .i64 16))) (.t 32), none⟩, ⟨some 34, .mv (.t 7), none⟩, ⟨some 35, .bin .add 0 (.t 33) (.t 34), none⟩, ⟨some 36, .cvI .u8 (.t 35), none⟩, ⟨some 37, .bsl 1 [(.t 36)], none⟩, ⟨some 38, .app 1 1 (.t 31) (.t 37), none⟩, ⟨some 4, .as (.t 38), none⟩] [31, 32, 33, 34, 35, 36, 37, 38])))) (.reg false [⟨some 14, .mv (.t 5), none⟩, ⟨some 15, .bin .add 0 (.t 14) (.c (.lit (.int .i64 2))), none⟩, ⟨some 5, .as (.t 15), none⟩] [14, 15])))))) (.seq (.seq (.reg false [⟨some 39, .mv (.t 0), none⟩, ⟨some 40, .len true (.t 39), none⟩, ⟨some 41, .bin .rem 0 (.t 40) (.c (.lit (.int .i64 2))), none⟩, ⟨some 42, .bin .eql 0 (.t 41) (.c (.lit (.int .i64 1))), none⟩] [39, 40, 41]) (.cond (.t 42) (.seq (.reg false [⟨some 2, .as (.c (.lit (.string (by8 "")))), none⟩, ⟨some 3, .as (.c (.lit (.bool false))), none⟩] []) (.ret)) (.skip))) (.seq (.reg false [⟨some 43, .mv (.t 4), none⟩, ⟨some 44, .b2s (.t 43), none⟩, ⟨some 2, .as (.t 44), none⟩, ⟨some 3, .as (.c (.lit (.bool true))), none⟩] [43, 44]) (.ret)))))
theorem is108 : Is Go.Proofs.Tryd.prog 108 45 v108 [.t 2, .t 3] := ⟨Go.Proofs.Tryd.f108, dl [(0, [2, 3]), (1, [8]), (3, [9, 10, 11, 12]), (5, [16, 17, 18, 19, 20, 21, 22, 23, 24]), (6, [25, 26, 27, 28, 29]), (8, [31, 32, 33, 34, 35, 36, 37, 38]), (4, [14, 15]), (9, [39, 40, 41]), (11, [43, 44])], Go.Proofs.Tryd.func108, by kernel_rfl, by kernel_rfl, by kernel_rfl, by kernel_rfl⟩
def hexD : ByteArray := by8 "0123456789abcdef"
def hexE : ByteArray := by8 "0123456789ABCDEF"
def digI (D : ByteArray) (u : UInt8) : Int := Lib.indexB D (one u)
/-- what pairs of digits spell; an odd byte at the end is left -/
def prs (D : ByteArray) : List UInt8 → Option (List UInt8)
  | a :: b :: r => if digI D a < 0 ∨ digI D b < 0 then none else (prs D r).map (UInt8.ofNat (16 * (digI D a).toNat + (digI D b).toNat) :: ·)
  | _ => some []
theorem digI_lt {D : ByteArray} (u : UInt8) : digI D u < D.size ∧ -1 ≤ digI D u := by
  unfold digI
  rcases idx_cases u D with ⟨h, _⟩ | ⟨i, h1, _, _, h2⟩
  · rw [h]; omega
  · rw [h2]; omega
theorem prs_len {D : ByteArray} : ∀ (l m : List UInt8), prs D l = some m → 2 * m.length ≤ l.length
  | a :: b :: r, m, h => by
    simp only [prs] at h
    split at h
    · cases h
    · obtain ⟨q, hq, rfl⟩ := Option.map_eq_some_iff.1 h
      have := prs_len r q hq
      simp only [List.length_cons]; omega
  | [a], m, h => by obtain rfl := Option.some.inj h; simp
  | [], m, h => by obtain rfl := Option.some.inj h; simp
theorem prs_nil {D : ByteArray} {l : List UInt8} (h : l.length ≤ 1) : prs D l = some [] := by
  match l, h with
  | [], _ => rfl
  | [_], _ => rfl
noncomputable def pairRes (D s : ByteArray) : AV := match prs D s.data.toList with
  | some l => .tup [.lit (.string ⟨l.toArray⟩), .lit (.bool (decide (s.size % 2 = 0)))]
  | none => .tup [.lit (.string (by8 "")), .lit (.bool false)]
noncomputable def hexRes (s : ByteArray) : AV := match prs hexD s.data.toList with
  | some l => if s.size % 2 = 0 then .tup [.lit (.string ⟨l.toArray⟩), .lit (.bool true)] else .tup [.lit (.string (by8 "")), .lit (.bool false)]
  | none => .tup [.lit (.string (by8 "")), .lit (.bool false)]
theorem pairRes_ok (D s : ByteArray) : resOk (pairRes D s) = true := by unfold pairRes; cases prs D s.data.toList <;> rfl
theorem hexRes_ok (s : ByteArray) : resOk (hexRes s) = true := by
  unfold hexRes
  cases prs hexD s.data.toList with
  | none => rfl
  | some l => simp only; split <;> rfl
theorem drop_two {s : ByteArray} {i : Nat} (h : i + 1 < s.size) : s.data.toList.drop i = bt s i :: bt s (i + 1) :: s.data.toList.drop (i + 2) := by
  rw [drop_bt (by omega), drop_bt (by omega)]
theorem idxByte_hex : ∀ u : _root_.Fin 256, Lib.indexByte hexD.data.toList (UInt8.ofNat u.val) = digI hexD (UInt8.ofNat u.val) := by decide +kernel
section
variable {E : Env} (hE : E.P = Go.Proofs.Tryd.prog) (hZ : ∀ w, E.K w → KZ w)
include hE
set_option maxHeartbeats 1000000 in
theorem l01Pairs_fx (s D : ByteArray) (hs : s.size ≤ 1099511627) (hD : D.size = 16) : Fx E 138 [] [.lit (.string s), .lit (.string D)] [] (pairRes D s) := by
  refine (is138.to hE).fx [] (by simp) rfl (pairRes_ok D s) ?_
  simp [v138]
  refine X_loop (τ := Nat × List UInt8) (fun p => ⟨[(0, .lit (.string s)), (1, .lit (.string D)), (6, .sl ⟨.cl 640, true⟩ 1 (p.2.map fun b : UInt8 => .lit (.int .u8 b.toNat))), (7, .lit (.int .i64 p.1))], []⟩) (fun p => p.1 ≤ s.size ∧ p.2.length ≤ p.1 ∧ prs D s.data.toList = (prs D (s.data.toList.drop p.1)).map (p.2 ++ ·)) (fun p => s.size - p.1) (0, []) (by simp) (Wk.both (by simp [wkL, wkV.same, frA.frL]) trivial) ?_
  rintro ⟨i, out⟩ ⟨hi, hl, hp⟩
  simp only at hi hl hp
  simp
  rw [wrapN (by omega)]
  by_cases hlt : i + 1 < s.size
  · have hlt0 : i < s.size := by omega
    have hlt1 : ((i + 1 : Nat) : Int) < s.size := by omega
    rw [drop_two hlt] at hp
    simp only [prs] at hp
    have b1 := digI_lt (D := D) (bt s i)
    have b2 := digI_lt (D := D) (bt s (i + 1))
    rw [show decide (((i + 1 : Nat) : Int) < s.size) = true from decide_eq_true hlt1]
    simp [hlt0]
    refine vcall_go (l01At_fx hE D (bt s i) (by omega)) (by simp) (by simp) (by simp) (by simp) ?_
    simp
    rw [wrapN (by omega)]
    refine ⟨by omega, by omega, ?_⟩
    rw [show ((i + 1 : Nat) : Int).toNat = i + 1 by omega]
    refine vcall_go (l01At_fx hE D (bt s (i + 1)) (by omega)) (by simp) (by simp) (by simp) (by simp) ?_
    simp
    rw [show Lib.indexB D (one (bt s i)) = digI D (bt s i) from rfl, show Lib.indexB D (one (bt s (i + 1))) = digI D (bt s (i + 1)) from rfl]
    by_cases c1 : digI D (bt s i) < 0
    · have hn : prs D s.data.toList = none := by rw [hp, if_pos (.inl c1)]; rfl
      simp [c1]
      exact Fin_ret2 rfl (by rw [pairRes, hn]; rfl)
    · simp [c1]
      by_cases c2 : digI D (bt s (i + 1)) < 0
      · have hn : prs D s.data.toList = none := by rw [hp, if_pos (.inr c2)]; rfl
        simp [c2]
        exact Fin_ret2 rfl (by rw [pairRes, hn]; rfl)
      · simp [c2]
        rw [if_neg (by omega)] at hp
        obtain ⟨x, hx⟩ : ∃ x : Nat, digI D (bt s i) = x := ⟨(digI D (bt s i)).toNat, by omega⟩
        obtain ⟨y, hy⟩ : ∃ y : Nat, digI D (bt s (i + 1)) = y := ⟨(digI D (bt s (i + 1))).toNat, by omega⟩
        rw [hx, hy] at hp ⊢
        have e1 : IntKind.u8.wrap (IntKind.i64.wrap (IntKind.i64.wrap (16 * (x : Int)) + y)) = ((UInt8.ofNat (16 * x + y)).toNat : Int) := by
          rw [wrap_i64 (i := 16 * (x : Int)) (by omega) (by omega), wrap_i64 (by omega) (by omega), IntKind.wrap_u8, UInt8.toNat_ofNat']
          omega
        rw [e1]
        simp only [Int.toNat_natCast] at hp
        simp [okC, frA, frA.frL, AS.dem, mapV, dem, dem.demL]
        refine ⟨by omega, i + 2, out ++ [UInt8.ofNat (16 * x + y)], ⟨by omega, by simp; omega, ?_⟩, by omega, Wk.both (by simp [wkL, wkV.same]; rw [wrap_i64 (by omega) (by omega)]; exact wkV.same _) trivial⟩
        rw [hp, Option.map_map]
        congr 1
        funext z
        simp
  · have hlt1 : ¬ ((i + 1 : Nat) : Int) < s.size := by omega
    rw [show decide (((i + 1 : Nat) : Int) < s.size) = false from decide_eq_false hlt1]
    rw [prs_nil (D := D) (l := s.data.toList.drop i) (by simp; omega)] at hp
    have hn : prs D s.data.toList = some out := by rw [hp]; simp
    simp
    refine Xa_b2s (l := out) rfl ?_
    simp
    refine Fin_ret2 rfl ?_
    rw [pairRes, hn]
    simp [reC, reC.reL]
    have e2 : (s.size : Int).tmod 2 = ((s.size % 2 : Nat) : Int) := tmodN s.size 2
    rw [e2]
    constructor <;> intro h <;> omega
theorem idxByte_fx (s : ByteArray) (u : UInt8) : Fx E 47 [] [.lit (.string s), .lit (.int .u8 u.toNat)] [] (.lit (.int .i64 (Lib.indexByte s.data.toList u))) :=
  Fx_lit (args := [.string s, .int .u8 u.toNat]) rfl fun w hw => by
    rw [hE]
    refine (Go.Proofs.Tryd.strings_IndexByte s u.toNat w).mono ?_
    rintro e w' ⟨rfl, rfl⟩
    rw [Int.toNat_natCast, Nat.toUInt8_eq, UInt8.ofNat_toNat]
    exact ⟨rfl, Below.refl _ _⟩
theorem idxHex_fx (u : UInt8) : Fx E 47 [] [.lit (.string hexD), .lit (.int .u8 u.toNat)] [] (.lit (.int .i64 (digI hexD u))) := by
  have h := idxByte_fx hE hexD u
  have h2 := idxByte_hex ⟨u.toNat, u.toNat_lt⟩
  simp only [UInt8.ofNat_toNat] at h2
  rw [h2] at h
  exact h
set_option maxHeartbeats 1000000 in
theorem implGetHex_fx (s : ByteArray) (hs : s.size ≤ 1099511627) : Fx E 108 [] [.lit (.string s)] [] (hexRes s) := by
  refine (is108.to hE).fx [] (by simp) rfl (hexRes_ok s) ?_
  simp [v108]
  refine X_loop (τ := Nat × List UInt8) (fun p => ⟨[(0, .lit (.string s)), (4, .sl ⟨.cl 512, true⟩ 1 (p.2.map fun b : UInt8 => .lit (.int .u8 b.toNat))), (5, .lit (.int .i64 p.1))], []⟩) (fun p => p.1 ≤ s.size ∧ p.2.length ≤ p.1 ∧ prs hexD s.data.toList = (prs hexD (s.data.toList.drop p.1)).map (p.2 ++ ·)) (fun p => s.size - p.1) (0, []) (by simp) (Wk.both (by simp [wkL, wkV.same, frA.frL]) trivial) ?_
  rintro ⟨i, out⟩ ⟨hi, hl, hp⟩
  simp only at hi hl hp
  simp
  rw [wrapN (by omega)]
  have hD : hexD.size = 16 := by decide +kernel
  by_cases hlt : i + 1 < s.size
  · have hlt0 : i < s.size := by omega
    have hlt1 : ((i + 1 : Nat) : Int) < s.size := by omega
    rw [drop_two hlt] at hp
    simp only [prs] at hp
    have b1 := digI_lt (D := hexD) (bt s i)
    have b2 := digI_lt (D := hexD) (bt s (i + 1))
    rw [show decide (((i + 1 : Nat) : Int) < s.size) = true from decide_eq_true hlt1]
    simp [hlt0]
    refine vcall_go (idxHex_fx hE (bt s i)) (by simp [hexD]) (by simp) (by simp) (by simp) ?_
    simp
    rw [wrapN (by omega)]
    refine ⟨by omega, by omega, ?_⟩
    rw [show ((i + 1 : Nat) : Int).toNat = i + 1 by omega]
    refine vcall_go (idxHex_fx hE (bt s (i + 1))) (by simp [hexD]) (by simp) (by simp) (by simp) ?_
    simp
    by_cases c1 : digI hexD (bt s i) < 0
    · have hn : prs hexD s.data.toList = none := by rw [hp, if_pos (.inl c1)]; rfl
      simp [c1]
      exact Fin_ret2 rfl (by rw [hexRes, hn]; rfl)
    · simp [c1]
      by_cases c2 : digI hexD (bt s (i + 1)) < 0
      · have hn : prs hexD s.data.toList = none := by rw [hp, if_pos (.inr c2)]; rfl
        simp [c2]
        exact Fin_ret2 rfl (by rw [hexRes, hn]; rfl)
      · simp [c2]
        rw [if_neg (by omega)] at hp
        obtain ⟨x, hx⟩ : ∃ x : Nat, digI hexD (bt s i) = x := ⟨(digI hexD (bt s i)).toNat, by omega⟩
        obtain ⟨y, hy⟩ : ∃ y : Nat, digI hexD (bt s (i + 1)) = y := ⟨(digI hexD (bt s (i + 1))).toNat, by omega⟩
        rw [hx, hy] at hp ⊢
        have e1 : IntKind.u8.wrap (IntKind.i64.wrap (IntKind.i64.wrap (16 * (x : Int)) + y)) = ((UInt8.ofNat (16 * x + y)).toNat : Int) := by
          rw [wrap_i64 (i := 16 * (x : Int)) (by omega) (by omega), wrap_i64 (by omega) (by omega), IntKind.wrap_u8, UInt8.toNat_ofNat']
          omega
        rw [e1]
        simp only [Int.toNat_natCast] at hp
        simp [okC, frA, frA.frL, AS.dem, mapV, dem, dem.demL]
        refine ⟨by omega, i + 2, out ++ [UInt8.ofNat (16 * x + y)], ⟨by omega, by simp; omega, ?_⟩, by omega, Wk.both (by simp [wkL, wkV.same]; rw [wrap_i64 (by omega) (by omega)]; exact wkV.same _) trivial⟩
        rw [hp, Option.map_map]
        congr 1
        funext z
        simp
  · have hlt1 : ¬ ((i + 1 : Nat) : Int) < s.size := by omega
    rw [show decide (((i + 1 : Nat) : Int) < s.size) = false from decide_eq_false hlt1]
    rw [prs_nil (D := hexD) (l := s.data.toList.drop i) (by simp; omega)] at hp
    have hn : prs hexD s.data.toList = some out := by rw [hp]; simp
    simp
    rw [show (s.size : Int).tmod 2 = ((s.size % 2 : Nat) : Int) from tmodN _ _]
    by_cases c : s.size % 2 = 0
    · have c' : ¬ ((s.size % 2 : Nat) : Int) = 1 := by omega
      simp [c]
      refine Xa_b2s (l := out) rfl ?_
      simp
      exact Fin_ret2 rfl (by rw [hexRes, hn]; simp [c, reC, reC.reL])
    · have c' : s.size % 2 = 1 := by omega
      simp [c']
      exact Fin_ret2 rfl (by rw [hexRes, hn]; simp [c', reC, reC.reL])
end
end Go.Proofs.YtgegcfhifojjiaaDoor.Vm
