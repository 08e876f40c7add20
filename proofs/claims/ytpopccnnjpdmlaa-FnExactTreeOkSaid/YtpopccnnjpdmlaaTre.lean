/- Trees: the laws' helpers. -/
import Derived.Test.YtpopccnnjpdmlaaProg
import Derived.Test.YtpopccnnjpdmlaaVmBx
namespace Go.Proofs.Ytpopccnnjpdmlaa.Vm
open Go Go.RowKit
set_option linter.unusedVariables false
set_option linter.unusedSimpArgs false
inductive Tr where
  | mk (kind n : Int) (s : ByteArray) (keys : List ByteArray) (kids : List Tr)
namespace Tr
def kind : Tr → Int | mk k _ _ _ _ => k
def n : Tr → Int | mk _ n _ _ _ => n
def s : Tr → ByteArray | mk _ _ s _ _ => s
def keys : Tr → List ByteArray | mk _ _ _ k _ => k
def kids : Tr → List Tr | mk _ _ _ _ k => k
def av : Tr → List AV
  | mk k n s ks kd => [.lit (.int .i64 k), .lit (.int .i64 n), .lit (.string s), .sl ro 1 (ks.map fun x => .lit (.string x)), .sl ro 5 (avL kd)]
where avL : List Tr → List AV
  | [] => []
  | x :: l => .agg (av x) :: avL l
def cnt : Tr → Nat
  | mk _ _ _ _ kd => 1 + cntL kd
where cntL : List Tr → Nat
  | [] => 0
  | x :: l => cnt x + cntL l
theorem avL_map : ∀ l : List Tr, av.avL l = l.map fun x => .agg x.av
  | [] => rfl
  | x :: l => by simp [av.avL, avL_map l]
theorem av_eq (x : Tr) : x.av = [.lit (.int .i64 x.kind), .lit (.int .i64 x.n), .lit (.string x.s), .sl ro 1 (x.keys.map fun x => .lit (.string x)), .sl ro 5 (x.kids.map fun x => .agg x.av)] := by
  cases x with
  | mk k n s ks kd => simp [av, avL_map, kind, Tr.n, Tr.s, keys, kids]
def cntL (l : List Tr) : Nat := cnt.cntL l
theorem cnt_eq (x : Tr) : x.cnt = 1 + cntL x.kids := by cases x; rfl
theorem cntL_nil : cntL [] = 0 := rfl
theorem cntL_cons (x : Tr) (l : List Tr) : cntL (x :: l) = x.cnt + cntL l := rfl
theorem cnt_mem : ∀ {l : List Tr} {x : Tr}, x ∈ l → x.cnt ≤ cntL l
  | y :: l, x, h => by
    rw [cntL_cons]
    rcases List.mem_cons.1 h with rfl | h
    · omega
    · have := cnt_mem h; omega
theorem cnt_kid {x y : Tr} {m : Nat} (h : x.cnt ≤ m + 1) (hy : y ∈ x.kids) : y.cnt ≤ m := by
  have := cnt_mem hy
  rw [cnt_eq] at h; omega
theorem cnt_pos (x : Tr) : 0 < x.cnt := by rw [cnt_eq]; omega
theorem len_cntL : ∀ l : List Tr, l.length ≤ cntL l
  | [] => Nat.le_refl _
  | x :: l => by rw [cntL_cons]; have := len_cntL l; have := cnt_pos x; simp; omega
theorem pl (x : Tr) : PlL x.av := by rw [av_eq]; simp
theorem len (x : Tr) : x.av.length = 5 := by rw [av_eq]; rfl
theorem ok (x : Tr) : x.av.all okC = true := by rw [av_eq]; rfl
end Tr
@[simp] theorem Tr.noB (d : Nat) (x : Tr) : noB.noL d x.av = true := by rw [Tr.av_eq]; rfl
@[simp] theorem Tr.noC (d : Nat) (x : Tr) : noC.noL d x.av = true := by rw [Tr.av_eq]; rfl
/-- lengths as data has them, to a depth -/
def Tr.goodN : Nat → Tr → Prop
  | 0, _ => False
  | m + 1, x => x.s.size ≤ 9223372036854775807 ∧ x.keys.length ≤ 9223372036854775807 ∧ (∀ s ∈ x.keys, s.size ≤ 9223372036854775807) ∧ x.kids.length ≤ 9223372036854775807 ∧ ∀ y ∈ x.kids, goodN m y
def Tr.szN : Nat → Tr → Int → Int
  | 0, _, l => l
  | m + 1, x, l => szIf (l - x.s.size) fun l => szIf (szL (fun (x : ByteArray) l => l - x.size) x.keys l) fun l => szIf (szL (szN m) x.kids l) fun l => l
theorem Tr.szN_le : ∀ (m : Nat) (x : Tr) (l : Int), 0 ≤ l → x.szN m l ≤ l
  | 0, x, l, h => Int.le_refl l
  | m + 1, x, l, h => by
    refine szIf_le (by omega) h fun h1 => ?_
    have k1 := szL_le (f := fun (x : ByteArray) l => l - x.size) (xs := x.keys) (l := l - x.s.size) (fun x _ l _ => by omega) h1
    refine szIf_le (by omega) h fun h2 => ?_
    have k2 := szL_le (f := szN m) (xs := x.kids) (l := szL (fun (x : ByteArray) l => l - x.size) x.keys (l - x.s.size)) (fun x _ l h => szN_le m x l h) h2
    exact szIf_le (by omega) h fun h3 => by omega
def v8 : VC := .seq (.reg false [⟨some 2, .box 5 (.t 0), none⟩, ⟨some 4, .as (.c (.lit (.int .i64 0))), none⟩] [4]) (.seq (.reg false [⟨some 5, .mv (.t 1), none⟩, ⟨some 6, .fa 2 (.t 2), none⟩, ⟨some 7, .ld false 1 (.t 6), none⟩, ⟨some 8, .len true (.t 7), none⟩, ⟨some 9, .bin .sub 0 (.t 5) (.t 8), none⟩, ⟨some 1, .as (.t 9), none⟩] [5, 6, 7, 8, 9]) (.seq (.seq (.reg false [⟨some 10, .mv (.t 1), none⟩, ⟨some 11, .bin .lss 0 (.t 10) (.c (.lit (.int .i64 0))), none⟩] [10]) (.cond (.t 11) (.seq (.reg false [⟨some 4, .as (.c (.lit (.int .i64 (-1)))), none⟩] []) (.ret)) (.skip))) (.seq (.reg false [⟨some 12, .fa 3 (.t 2), none⟩, ⟨some 13, .ld false 1 (.t 12), none⟩, ⟨some 14, .mv (.t 1), none⟩, ⟨some 15, .call false 45 [(.t 13), (.t 14)], none⟩, ⟨some 1, .as (.t 15), none⟩] [12, 13, 14, 15]) (.seq (.seq (.reg false [⟨some 16, .mv (.t 1), none⟩, ⟨some 17, .bin .lss 0 (.t 16) (.c (.lit (.int .i64 0))), none⟩] [16]) (.cond (.t 17) (.seq (.reg false [⟨some 4, .as (.c (.lit (.int .i64 (-1)))), none⟩] []) (.ret)) (.skip))) (.seq (.reg false [⟨some 18, .fa 4 (.t 2), none⟩, ⟨some 19, .ld false 1 (.t 18), none⟩, ⟨some 20, .mv (.t 1), none⟩, ⟨some 21, .call false 46 [(.t 19), (.t 20)], none⟩, ⟨some 1, .as (.t 21), none⟩] [18, 19, 20, 21]) (.seq (.seq (.reg false [⟨some 22, .mv (.t 1), none⟩, ⟨some 23, .bin .lss 0 (.t 22) (.c (.lit (.int .i64 0))), none⟩] [22]) (.cond (.t 23) (.seq (.reg false [⟨some 4, .as (.c (.lit (.int .i64 (-1)))), none⟩] []) (.ret)) (.skip))) (.seq (.reg false [⟨some 24, .mv (.t 1), none⟩, ⟨some 4, .as (.t 24), none⟩] [24]) (.ret))))))))
theorem is8 : Is Go.Proofs.Try.prog 8 25 v8 [.t 4] := ⟨Go.Proofs.Try.f8, dl [(0, [4]), (1, [5, 6, 7, 8, 9]), (2, [10]), (4, [12, 13, 14, 15]), (5, [16]), (7, [18, 19, 20, 21]), (8, [22]), (10, [24])], Go.Proofs.Try.func8, by kernel_rfl, by kernel_rfl, by kernel_rfl, by kernel_rfl⟩
def v10 : VC := .seq (.reg false [⟨some 1, .box 5 (.t 0), none⟩, ⟨some 2, .alloc (.agg [(.lit (.int .i64 0)), (.lit (.int .i64 0)), (.lit (.string (by8 ""))), (.sl ⟨.nl, true⟩ 1 []), (.sl ⟨.nl, true⟩ 1 [])]), none⟩] []) (.seq (.reg false [⟨some 3, .alloc (.agg [(.lit (.int .i64 0)), (.lit (.int .i64 0)), (.lit (.string (by8 ""))), (.sl ⟨.nl, true⟩ 1 []), (.sl ⟨.nl, true⟩ 1 [])]), none⟩] []) (.seq (.reg false [⟨some 4, .fa 0 (.t 1), none⟩, ⟨some 5, .ld false 1 (.t 4), none⟩, ⟨some 6, .fa 0 (.t 3), none⟩, ⟨none, .st 1 (.t 6) (.t 5), none⟩] [4, 5, 6]) (.seq (.reg false [⟨some 7, .fa 1 (.t 1), none⟩, ⟨some 8, .ld false 1 (.t 7), none⟩, ⟨some 9, .fa 1 (.t 3), none⟩, ⟨none, .st 1 (.t 9) (.t 8), none⟩] [7, 8, 9]) (.seq (.reg false [⟨some 10, .fa 2 (.t 1), none⟩, ⟨some 11, .ld false 1 (.t 10), none⟩, ⟨some 12, .fa 2 (.t 3), none⟩, ⟨none, .st 1 (.t 12) (.t 11), none⟩] [10, 11, 12]) (.seq (.reg false [⟨some 13, .fa 3 (.t 1), none⟩, ⟨some 14, .ld false 1 (.t 13), none⟩, ⟨some 15, .call false 49 [(.t 14)], none⟩, ⟨some 16, .fa 3 (.t 3), none⟩, ⟨none, .st 1 (.t 16) (.t 15), none⟩] [13, 14, 15, 16]) (.seq (.reg false [⟨some 17, .fa 4 (.t 1), none⟩, ⟨some 18, .ld false 1 (.t 17), none⟩, ⟨some 19, .call false 50 [(.t 18)], none⟩, ⟨some 20, .fa 4 (.t 3), none⟩, ⟨none, .st 1 (.t 20) (.t 19), none⟩] [17, 18, 19, 20]) (.seq (.reg false [⟨some 21, .ld true 5 (.t 3), none⟩, ⟨none, .st 5 (.t 2) (.t 21), none⟩] [21]) (.ret))))))))
theorem is10 : Is Go.Proofs.Try.prog 10 22 v10 [.b 2 true 5] := ⟨Go.Proofs.Try.f10, dl [(2, [4, 5, 6]), (3, [7, 8, 9]), (4, [10, 11, 12]), (5, [13, 14, 15, 16]), (6, [17, 18, 19, 20]), (7, [21])], Go.Proofs.Try.func10, by kernel_rfl, by kernel_rfl, by kernel_rfl, by kernel_rfl⟩
def v12 : VC := .seq (.reg false [⟨some 2, .box 5 (.t 0), none⟩, ⟨some 3, .box 5 (.t 1), none⟩, ⟨some 4, .as (.c (.lit (.bool false))), none⟩] [4]) (.seq (.seq (.reg false [⟨some 5, .fa 0 (.t 2), none⟩, ⟨some 6, .ld false 1 (.t 5), none⟩, ⟨some 7, .fa 0 (.t 3), none⟩, ⟨some 8, .ld false 1 (.t 7), none⟩, ⟨some 9, .bin .neq 0 (.t 6) (.t 8), none⟩] [5, 6, 7, 8]) (.cond (.t 9) (.seq (.reg false [⟨some 4, .as (.c (.lit (.bool false))), none⟩] []) (.ret)) (.skip))) (.seq (.seq (.reg false [⟨some 10, .fa 1 (.t 2), none⟩, ⟨some 11, .ld false 1 (.t 10), none⟩, ⟨some 12, .fa 1 (.t 3), none⟩, ⟨some 13, .ld false 1 (.t 12), none⟩, ⟨some 14, .bin .neq 0 (.t 11) (.t 13), none⟩] [10, 11, 12, 13]) (.cond (.t 14) (.seq (.reg false [⟨some 4, .as (.c (.lit (.bool false))), none⟩] []) (.ret)) (.skip))) (.seq (.seq (.reg false [⟨some 15, .fa 2 (.t 2), none⟩, ⟨some 16, .ld false 1 (.t 15), none⟩, ⟨some 17, .fa 2 (.t 3), none⟩, ⟨some 18, .ld false 1 (.t 17), none⟩, ⟨some 19, .bin .neq 0 (.t 16) (.t 18), none⟩] [15, 16, 17, 18]) (.cond (.t 19) (.seq (.reg false [⟨some 4, .as (.c (.lit (.bool false))), none⟩] []) (.ret)) (.skip))) (.seq (.seq (.reg false [⟨some 20, .fa 3 (.t 2), none⟩, ⟨some 21, .ld false 1 (.t 20), none⟩, ⟨some 22, .fa 3 (.t 3), none⟩, ⟨some 23, .ld false 1 (.t 22), none⟩, ⟨some 24, .call false 52 [(.t 21), (.t 23)], none⟩, ⟨some 25, .un .not (.t 24), none⟩] [20, 21, 22, 23, 24]) (.cond (.t 25) (.seq (.reg false [⟨some 4, .as (.c (.lit (.bool false))), none⟩] []) (.ret)) (.skip))) (.seq (.seq (.reg false [⟨some 26, .fa 4 (.t 2), none⟩, ⟨some 27, .ld false 1 (.t 26), none⟩, ⟨some 28, .fa 4 (.t 3), none⟩, ⟨some 29, .ld false 1 (.t 28), none⟩, ⟨some 30, .call false 53 [(.t 27), (.t 29)], none⟩, ⟨some 31, .un .not (.t 30), none⟩] [26, 27, 28, 29, 30]) (.cond (.t 31) (.seq (.reg false [⟨some 4, .as (.c (.lit (.bool false))), none⟩] []) (.ret)) (.skip))) (.seq (.reg false [⟨some 4, .as (.c (.lit (.bool true))), none⟩] []) (.ret)))))))
theorem is12 : Is Go.Proofs.Try.prog 12 32 v12 [.t 4] := ⟨Go.Proofs.Try.f12, dl [(0, [4]), (1, [5, 6, 7, 8]), (3, [10, 11, 12, 13]), (5, [15, 16, 17, 18]), (7, [20, 21, 22, 23, 24]), (9, [26, 27, 28, 29, 30])], Go.Proofs.Try.func12, by kernel_rfl, by kernel_rfl, by kernel_rfl, by kernel_rfl⟩
theorem is46 : Is Go.Proofs.Try.prog 46 27 (szS 5 8) [.t 4] := ⟨Go.Proofs.Try.f46, dl [(0, [4]), (1, [6, 7, 8, 9]), (2, [10]), (5, [12, 13, 14]), (7, [18, 19, 20, 21, 22, 23]), (8, [24]), (6, [16, 17]), (10, [26])], Go.Proofs.Try.func46, by kernel_rfl, by kernel_rfl, by kernel_rfl, by kernel_rfl⟩
theorem is45 : Is Go.Proofs.Try.prog 45 28 (szStr) [.t 4] := ⟨Go.Proofs.Try.f45, dl [(0, [4]), (1, [6, 7, 8, 9]), (2, [10]), (5, [12, 13, 14]), (7, [18, 19, 20, 21, 22, 23, 24]), (8, [25]), (6, [16, 17]), (10, [27])], Go.Proofs.Try.func45, by kernel_rfl, by kernel_rfl, by kernel_rfl, by kernel_rfl⟩
theorem is49 : Is Go.Proofs.Try.prog 49 22 (toStr) [.t 2] := ⟨Go.Proofs.Try.f49, dl [(0, [2]), (1, [5, 6, 7]), (3, [8, 9, 10]), (5, [14, 15, 16, 17, 18, 19, 20]), (4, [12, 13]), (6, [21])], Go.Proofs.Try.func49, by kernel_rfl, by kernel_rfl, by kernel_rfl, by kernel_rfl⟩
theorem is50 : Is Go.Proofs.Try.prog 50 23 (toS 5 80 (.agg [.lit (.int .i64 0), .lit (.int .i64 0), .lit (.string (by8 "")), .sl ⟨.nl, true⟩ 1 [], .sl ⟨.nl, true⟩ 1 []]) 10) [.t 2] := ⟨Go.Proofs.Try.f50, dl [(0, [2]), (1, [5, 6, 7]), (3, [8, 9, 10]), (5, [14, 15, 16, 17, 18, 19, 20, 21]), (4, [12, 13]), (6, [22])], Go.Proofs.Try.func50, by kernel_rfl, by kernel_rfl, by kernel_rfl, by kernel_rfl⟩
theorem is52 : Is Go.Proofs.Try.prog 52 26 (eqStr) [.t 4] := ⟨Go.Proofs.Try.f52, dl [(0, [4]), (1, [6, 7, 8, 9]), (4, [11, 12, 13]), (6, [17, 18, 19, 20, 21, 22, 23, 24]), (5, [15, 16])], Go.Proofs.Try.func52, by kernel_rfl, by kernel_rfl, by kernel_rfl, by kernel_rfl⟩
theorem is53 : Is Go.Proofs.Try.prog 53 27 (eqS 5 12) [.t 4] := ⟨Go.Proofs.Try.f53, dl [(0, [4]), (1, [6, 7, 8, 9]), (4, [11, 12, 13]), (6, [17, 18, 19, 20, 21, 22, 23, 24, 25]), (5, [15, 16])], Go.Proofs.Try.func53, by kernel_rfl, by kernel_rfl, by kernel_rfl, by kernel_rfl⟩
section
variable {E : Env} (hE : E.P = Go.Proofs.Try.prog)
include hE
theorem szTree_fx : ∀ (m : Nat) (x : Tr) (l : Int), x.goodN m → 0 ≤ l → l ≤ 1048576 → Fx E 8 [] [.agg x.av, .lit (.int .i64 l)] [] (.lit (.int .i64 (x.szN m l)))
  | 0, x, l, hg, _, _ => hg.elim
  | m + 1, x, l, hg, h0, h1 => by
    obtain ⟨g1, g2, g3, g4, g5⟩ := hg
    refine (is8.to hE).fx [] (by simp) rfl rfl ?_
    simp [v8, Tr.av_eq x, okC, mkF]
    rw [wrap_i64 (by omega) (by omega)]
    by_cases c1 : l - x.s.size < 0
    · simp [c1]
      exact Fin_ret rfl (by simp [Tr.szN, szIf_neg c1, reC])
    · simp [c1]
      refine vcall_go (szStr_fx (is45.to hE) (by decide) x.keys g3 (l - x.s.size) (by omega) (by omega) g2) (by simp) (by simp) (by simp) (by simp) ?_
      simp
      by_cases c2 : szL (fun (x : ByteArray) l => l - x.size) x.keys (l - x.s.size) < 0
      · simp [c2]
        exact Fin_ret rfl (by simp [Tr.szN, szIf_pos c1, szIf_neg c2, reC])
      · simp [c2]
        have k1 := szL_le (f := fun (x : ByteArray) l => l - x.size) (xs := x.keys) (l := l - x.s.size) (fun x _ l _ => by omega) (by omega)
        refine vcall_go (szS_fx (is46.to hE) (by decide) (a := Tr.av) (g := Tr.szN m) Tr.pl Tr.len (fun x l hx a b => szTree_fx m x l hx a b) (Tr.szN_le m) x.kids g5 (szL (fun (x : ByteArray) l => l - x.size) x.keys (l - x.s.size)) (by omega) (by omega) g4) (by simp) (by simp) (by simp) (by simp) ?_
        simp
        by_cases c3 : szL (Tr.szN m) x.kids (szL (fun (x : ByteArray) l => l - x.size) x.keys (l - x.s.size)) < 0
        · simp [c3]
          exact Fin_ret rfl (by simp [Tr.szN, szIf_pos c1, szIf_pos c2, szIf_neg c3, reC])
        · simp [c3]
          exact Fin_ret rfl (by simp [Tr.szN, szIf_pos c1, szIf_pos c2, szIf_pos c3, reC])
end
/-- sizes of what 'to' makes -/
def Tr.fitN : Nat → Tr → Prop
  | 0, _ => False
  | m + 1, x => x.keys.length ≤ 1048576 ∧ (∀ s ∈ x.keys, s.size ≤ 1048576) ∧ x.s.size ≤ 1048576 ∧ x.kids.length ≤ 1048576 ∧ ∀ y ∈ x.kids, fitN m y
section
variable {E : Env} (hE : E.P = Go.Proofs.Try.prog)
include hE
theorem toTree_fx : ∀ (m : Nat) (x : Tr), x.fitN m → Fx E 10 [] [.agg x.av] [] (.agg (mkF.mkL true x.av))
  | 0, x, hg => hg.elim
  | m + 1, x, hg => by
    obtain ⟨g1, g2, g3, g4, g5⟩ := hg
    refine (is10.to hE).fx [] (by simp) rfl (by rw [Tr.av_eq x]; rfl) ?_
    simp [v10, Tr.av_eq x, okC, mkF, mkF.mkL, putElem, upd]
    refine vcall_go (toStr_fx (is49.to hE) (by decide) x.keys g1) (by simp) (by simp) (by simp) (by simp) ?_
    simp [okC, putElem, upd]
    refine vcall_go (toS_fx (is50.to hE) (by decide) rfl rfl rfl rfl Tr.pl Tr.ok Tr.len (by decide) x.kids (fun y hy => toTree_fx m y (g5 y hy)) (by omega) (by omega)) (by simp) (by simp) (by simp) (by simp) ?_
    simp [okC, putElem, upd]
    exact Fin_ret rfl (by rw [Tr.av_eq x]; rfl)
end
def Tr.eqN : Nat → Tr → Tr → Bool
  | 0, _, _ => true
  | m + 1, x, y => decide (x.kind = y.kind) && decide (x.n = y.n) && decide (x.s = y.s) && all2 (fun x y => decide (x = y)) x.keys y.keys && all2 (eqN m) x.kids y.kids
theorem all2_refl {α : Type} {p : α → α → Bool} (h : ∀ x, p x x = true) : ∀ (l : List α), all2 p l l = true
  | [] => rfl
  | a :: l => by simp [all2, h, all2_refl h l]
theorem Tr.eqN_refl : ∀ (m : Nat) (x : Tr), x.eqN m x = true
  | 0, x => rfl
  | m + 1, x => by simp [Tr.eqN, all2_refl (Tr.eqN_refl m), all2_refl]
section
variable {E : Env} (hE : E.P = Go.Proofs.Try.prog)
include hE
theorem eqTree_fx : ∀ (m : Nat) (x y : Tr), x.fitN m → Fx E 12 [] [.agg x.av, .agg y.av] [] (.lit (.bool (x.eqN m y)))
  | 0, x, y, hg => hg.elim
  | m + 1, x, y, hg => by
    obtain ⟨g1, g2, g3, g4, g5⟩ := hg
    refine (is12.to hE).fx [] (by simp) rfl rfl ?_
    simp [v12, Tr.av_eq x, Tr.av_eq y, okC, mkF]
    by_cases c1 : x.kind = y.kind
    · simp [c1]
      by_cases c2 : x.n = y.n
      · simp [c2]
        by_cases c3 : x.s = y.s
        · simp [c3]
          refine vcall_go (eqStr_fx (is52.to hE) (by decide) x.keys y.keys (by omega)) (by simp) (by simp) (by simp) (by simp) ?_
          simp
          cases c4 : all2 (fun x y => decide (x = y)) x.keys y.keys
          · simp
            exact Fin_ret rfl (by simp [Tr.eqN, c4, reC])
          · simp
            refine vcall_go (eqS_fx (is53.to hE) (by decide) Tr.pl Tr.pl Tr.len Tr.len x.kids (fun a b hm => eqTree_fx m a b (g5 a hm)) y.kids (by omega)) (by simp) (by simp) (by simp) (by simp) ?_
            simp
            cases c5 : all2 (Tr.eqN m) x.kids y.kids
            · simp
              exact Fin_ret rfl (by simp [Tr.eqN, c5, reC])
            · simp
              exact Fin_ret rfl (by simp [Tr.eqN, c1, c2, c3, c4, c5, reC])
        · simp [c3]
          exact Fin_ret rfl (by simp [Tr.eqN, c3, reC])
      · simp [c2]
        exact Fin_ret rfl (by simp [Tr.eqN, c2, reC])
    · simp [c1]
      exact Fin_ret rfl (by simp [Tr.eqN, c1, reC])
end
end Go.Proofs.Ytpopccnnjpdmlaa.Vm
