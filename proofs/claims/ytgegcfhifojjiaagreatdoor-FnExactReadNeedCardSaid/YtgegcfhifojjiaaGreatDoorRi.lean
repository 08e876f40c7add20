/- Ranges: the program. -/
import Derived.Test.YtgegcfhifojjiaaGreatDoorRt
namespace Go.Proofs.YtgegcfhifojjiaaGreatDoor.Vm
open Go Go.RowKit
set_option linter.unusedVariables false
set_option linter.unusedSimpArgs false
def v211 : VC := .seq (.reg false [⟨some 2, .alloc (.agg [(.lit (.string (by8 ""))), (.lit (.string (by8 "")))]), none⟩, ⟨some 3, .as (.c (.lit (.bool false))), none⟩] [3]) (.seq (.reg false [⟨some 9, .mv (.t 0), none⟩, ⟨some 10, .call false 47 [(.t 9), (.c (.lit (.string (by8 "."))))], none⟩, ⟨some 4, .as (.t 10), none⟩] [9, 10]) (.seq (.reg false [⟨some 11, .bsb [(.c (.lit (.int .i64 0))), (.c (.lit (.int .i64 0)))], none⟩, ⟨some 5, .as (.t 11), none⟩] [11]) (.seq (.seq (.reg false [⟨some 12, .mv (.t 4), none⟩, ⟨some 13, .len false (.t 12), none⟩, ⟨some 14, .bin .gtr 0 (.t 13) (.c (.lit (.int .i64 2))), none⟩] [12, 13]) (.cond (.t 14) (.seq (.reg false [⟨some 15, .bld [(.lit (.string (by8 ""))), (.lit (.string (by8 "")))] [], none⟩, ⟨none, .st 2 (.t 2) (.t 15), none⟩, ⟨some 3, .as (.c (.lit (.bool false))), none⟩] [15]) (.ret)) (.skip))) (.seq (.seq (.reg false [⟨some 16, .mv (.t 4), none⟩, ⟨some 17, .len false (.t 16), none⟩, ⟨some 18, .mv (.c (.lit (.int .i64 0))), none⟩] []) (.block 0 (.loop (.seq (.reg false [⟨some 19, .bin .lss 0 (.t 18) (.t 17), none⟩] []) (.seq (.cond (.t 19) (.skip) (.exit 0)) (.seq (.block 1 (.seq (.reg false [⟨some 20, .mv (.t 18), none⟩, ⟨some 21, .ia 1 (.t 16) (.t 18), none⟩, ⟨some 22, .ld false 1 (.t 21), none⟩, ⟨some 6, .as (.t 20), none⟩, ⟨some 7, .as (.t 22), none⟩] [20, 21, 22]) (.seq (.reg false [⟨some 23, .mv (.t 5), none⟩, ⟨some 24, .mv (.t 6), none⟩, ⟨some 25, .mv (.t 7), none⟩, ⟨some 26, .call false 157 [(.t 25)], none⟩, ⟨some 27, .ia 1 (.t 23) (.t 24), none⟩, ⟨none, .st 1 (.t 27) (.t 26), none⟩] [23, 24, 25, 26, 27]) (.seq (.reg false [⟨some 28, .mv (.t 5), none⟩, ⟨some 29, .mv (.t 6), none⟩, ⟨some 30, .ia 1 (.t 28) (.t 29), none⟩, ⟨some 31, .ld false 1 (.t 30), none⟩, ⟨some 32, .bin .lss 0 (.t 31) (.c (.lit (.int .i64 0))), none⟩] [28, 29, 30, 31]) (.cond (.t 32) (.seq (.reg false [⟨some 33, .bld [(.lit (.string (by8 ""))), (.lit (.string (by8 "")))] [], none⟩, ⟨none, .st 2 (.t 2) (.t 33), none⟩, ⟨some 3, .as (.c (.lit (.bool false))), none⟩] [33]) (.ret)) (.skip)))))) (.reg false [⟨some 34, .bin .add 0 (.t 18) (.c (.lit (.int .i64 1))), none⟩, ⟨some 18, .mv (.t 34), none⟩] [34]))))))) (.seq (.reg true [⟨some 35, .mv (.t 5), none⟩, ⟨some 36, .ia 1 (.t 35) (.c (.lit (.int .i64 0))), none⟩, ⟨some 37, .ld false 1 (.t 36), none⟩, ⟨some 38, .mv (.t 5), none⟩, ⟨some 39, .ia 1 (.t 38) (.c (.lit (.int .i64 1))), none⟩, ⟨some 40, .ld false 1 (.t 39), none⟩, ⟨some 41, .bld [(.lit (.int .i64 0)), (.lit (.int .i64 0)), (.lit (.int .i64 0)), (.sl ⟨.nl, true⟩ 1 [])] [(0, 1, (.t 37)), (1, 1, (.t 40))], none⟩, ⟨some 42, .call true 158 [(.t 41)], none⟩, ⟨some 43, .mv (.t 5), none⟩, ⟨some 44, .ia 1 (.t 43) (.c (.lit (.int .i64 0))), none⟩, ⟨some 45, .ld false 1 (.t 44), none⟩, ⟨some 46, .mv (.t 5), none⟩, ⟨some 47, .ia 1 (.t 46) (.c (.lit (.int .i64 1))), none⟩, ⟨some 48, .ld false 1 (.t 47), none⟩, ⟨some 49, .bin .add 0 (.t 48) (.c (.lit (.int .i64 1))), none⟩, ⟨some 50, .call true 210 [(.t 45), (.t 49), (.c (.lit (.int .i64 0)))], none⟩, ⟨some 51, .bld [(.lit (.string (by8 ""))), (.lit (.string (by8 "")))] [(0, 1, (.t 42)), (1, 1, (.t 50))], none⟩, ⟨some 8, .alloc (.agg [(.lit (.string (by8 ""))), (.lit (.string (by8 "")))]), none⟩, ⟨none, .st 2 (.t 8) (.t 51), none⟩] [35, 36, 37, 38, 39, 40, 41, 42, 43, 44, 45, 46, 47, 48, 49, 50, 51]) (.seq (.seq (.reg false [⟨some 52, .mv (.t 4), none⟩, ⟨some 53, .len false (.t 52), none⟩, ⟨some 54, .bin .eql 0 (.t 53) (.c (.lit (.int .i64 1))), none⟩] [52, 53]) (.cond (.t 54) (.reg false [⟨some 55, .mv (.t 5), none⟩, ⟨some 56, .ia 1 (.t 55) (.c (.lit (.int .i64 0))), none⟩, ⟨some 57, .ld false 1 (.t 56), none⟩, ⟨some 58, .bin .add 0 (.t 57) (.c (.lit (.int .i64 1))), none⟩, ⟨some 59, .call false 210 [(.t 58), (.c (.lit (.int .i64 0))), (.c (.lit (.int .i64 0)))], none⟩, ⟨some 60, .fa 1 (.t 8), none⟩, ⟨none, .st 1 (.t 60) (.t 59), none⟩] [55, 56, 57, 58, 59, 60]) (.skip))) (.seq (.reg false [⟨some 61, .ld true 2 (.t 8), none⟩, ⟨none, .st 2 (.t 2) (.t 61), none⟩, ⟨some 3, .as (.c (.lit (.bool true))), none⟩] [61]) (.ret))))))))
theorem is211 : Is Go.Proofs.Tryz.prog 211 62 v211 [.b 2 true 2, .t 3] := ⟨Go.Proofs.Tryz.f211, dl [(0, [3]), (1, [9, 10]), (2, [11]), (3, [12, 13]), (4, [15]), (7, [20, 21, 22]), (8, [23, 24, 25, 26, 27]), (9, [28, 29, 30, 31]), (10, [33]), (11, [34]), (12, [35, 36, 37, 38, 39, 40, 41, 42, 43, 44, 45, 46, 47, 48, 49, 50, 51]), (13, [52, 53]), (14, [55, 56, 57, 58, 59, 60]), (15, [61])], Go.Proofs.Tryz.func211, by kernel_rfl, by kernel_rfl, by kernel_rfl, by kernel_rfl⟩
def v172 : VC := .seq (.reg false [⟨some 2, .as (.c (.lit (.bool false))), none⟩] [2]) (.seq (.seq (.reg false [⟨some 5, .mv (.t 0), none⟩, ⟨some 6, .len false (.t 5), none⟩, ⟨some 7, .mv (.c (.lit (.int .i64 0))), none⟩] []) (.block 0 (.loop (.seq (.reg false [⟨some 8, .bin .lss 0 (.t 7) (.t 6), none⟩] []) (.seq (.cond (.t 8) (.skip) (.exit 0)) (.seq (.block 1 (.seq (.reg false [⟨some 9, .ia 2 (.t 5) (.t 7), none⟩, ⟨some 10, .ld true 2 (.t 9), none⟩, ⟨some 4, .alloc (.agg [(.lit (.string (by8 ""))), (.lit (.string (by8 "")))]), none⟩, ⟨none, .st 2 (.t 4) (.t 10), none⟩] [9, 10]) (.seq (.reg false [⟨some 11, .fa 0 (.t 4), none⟩, ⟨some 12, .ld false 1 (.t 11), none⟩, ⟨some 13, .bin .neq 0 (.t 12) (.c (.lit (.string (by8 "")))), none⟩, ⟨some 14, .mv (.t 13), none⟩, ⟨some 15, .fa 0 (.t 4), (some (14, true))⟩, ⟨some 16, .ld false 1 (.t 15), (some (14, true))⟩, ⟨some 17, .call false 46 [(.t 16)], (some (14, true))⟩, ⟨some 18, .un .not (.t 17), (some (14, true))⟩, ⟨some 19, .pick (.t 14) (.t 18) (.c (.lit (.bool false))), none⟩, ⟨some 20, .mv (.t 19), none⟩, ⟨some 21, .fa 1 (.t 4), (some (20, false))⟩, ⟨some 22, .ld false 1 (.t 21), (some (20, false))⟩, ⟨some 23, .bin .neq 0 (.t 22) (.c (.lit (.string (by8 "")))), (some (20, false))⟩, ⟨some 24, .mv (.t 23), (some (20, false))⟩, ⟨some 25, .fa 1 (.t 4), (some (24, true))⟩, ⟨some 26, .ld false 1 (.t 25), (some (24, true))⟩, ⟨some 27, .call false 46 [(.t 26)], (some (24, true))⟩, ⟨some 28, .un .not (.t 27), (some (24, true))⟩, ⟨some 29, .pick (.t 24) (.t 28) (.c (.lit (.bool false))), (some (20, false))⟩, ⟨some 30, .pick (.t 20) (.c (.lit (.bool true))) (.t 29), none⟩] [11, 12, 13, 14, 15, 16, 17, 18, 19, 20, 21, 22, 23, 24, 25, 26, 27, 28, 29]) (.cond (.t 30) (.seq (.reg false [⟨some 2, .as (.c (.lit (.bool false))), none⟩] []) (.ret)) (.skip))))) (.reg false [⟨some 31, .bin .add 0 (.t 7) (.c (.lit (.int .i64 1))), none⟩, ⟨some 7, .mv (.t 31), none⟩] [31]))))))) (.seq (.reg false [⟨some 32, .mv (.t 0), none⟩, ⟨some 33, .len false (.t 32), none⟩, ⟨some 34, .call false 108 [(.t 33), (.c (.lit (.int .i64 1))), (.c (.lit (.int .i64 8)))], none⟩, ⟨some 2, .as (.t 34), none⟩] [32, 33, 34]) (.ret)))
theorem is172 : Is Go.Proofs.Tryz.prog 172 35 v172 [.t 2] := ⟨Go.Proofs.Tryz.f172, dl [(0, [2]), (3, [9, 10]), (4, [11, 12, 13, 14, 15, 16, 17, 18, 19, 20, 21, 22, 23, 24, 25, 26, 27, 28, 29]), (6, [31]), (7, [32, 33, 34])], Go.Proofs.Tryz.func172, by kernel_rfl, by kernel_rfl, by kernel_rfl, by kernel_rfl⟩
/-- what 'Cut' gives at any text -/
def cutS (p s : ByteArray) : AV := .tup (if 0 ≤ Lib.indexB s p then [.lit (.string (s.extract 0 (Lib.indexB s p).toNat)), .lit (.string (s.extract ((Lib.indexB s p).toNat + p.size) s.size)), .lit (.bool true)] else [.lit (.string s), .lit (.string (by8 "")), .lit (.bool false)])
theorem tup3_rel (x : X) (base : Nat) (a b : ByteArray) (d : Bool) : Rel x base (.tuple #[.string a, .string b, .bool d]) (.tup [.lit (.string a), .lit (.string b), .lit (.bool d)]) := by
  refine .tup _ _ rfl fun j v e hv he => ?_
  match j with
  | 0 => obtain rfl := Option.some.inj hv; obtain rfl := Option.some.inj he; exact .lit _ rfl
  | 1 => obtain rfl := Option.some.inj hv; obtain rfl := Option.some.inj he; exact .lit _ rfl
  | 2 => obtain rfl := Option.some.inj hv; obtain rfl := Option.some.inj he; exact .lit _ rfl
  | j + 3 => simp at he
theorem tup2_rel (x : X) (base : Nat) (a : ByteArray) (d : Bool) : Rel x base (.tuple #[.string a, .bool d]) (.tup [.lit (.string a), .lit (.bool d)]) := by
  refine .tup _ _ rfl fun j v e hv he => ?_
  match j with
  | 0 => obtain rfl := Option.some.inj hv; obtain rfl := Option.some.inj he; exact .lit _ rfl
  | 1 => obtain rfl := Option.some.inj hv; obtain rfl := Option.some.inj he; exact .lit _ rfl
  | j + 2 => simp at he
noncomputable def parRes (s : ByteArray) : AV := match spl 46 s with
  | [a] => if 0 ≤ readDec a then .tup [bndV (verT ⟨readDec a, 0, 0, []⟩) (verT ⟨readDec a + 1, 0, 0, [by8 "0"]⟩), .lit (.bool true)] else .tup [bndV (by8 "") (by8 ""), .lit (.bool false)]
  | [a, b] => if 0 ≤ readDec a ∧ 0 ≤ readDec b then .tup [bndV (verT ⟨readDec a, readDec b, 0, []⟩) (verT ⟨readDec a, readDec b + 1, 0, [by8 "0"]⟩), .lit (.bool true)] else .tup [bndV (by8 "") (by8 ""), .lit (.bool false)]
  | _ => .tup [bndV (by8 "") (by8 ""), .lit (.bool false)]
theorem parRes_ok (s : ByteArray) : resOk (parRes s) = true := by
  unfold parRes
  split
  · split <;> rfl
  · split <;> rfl
  · rfl
section
variable {E : Env} (hE : E.P = Go.Proofs.Tryz.prog) (hZ : ∀ w, E.K w → KZ w)
include hE
theorem cutPrefix_fx (s p : ByteArray) : Fx E 98 [] [.lit (.string s), .lit (.string p)] [] (.tup [.lit (.string (trimP s p)), .lit (.bool (hasP s p))]) := by
  refine Fx_res (args := [.string s, .string p]) rfl (tup2_rel · · (trimP s p) (hasP s p)) fun w hw => ?_
  rw [hE]
  refine (Go.Proofs.Tryz.strings_CutPrefix s p w).mono ?_
  rintro e w' ⟨rfl, rfl⟩
  rw [trimP_eq]
  exact ⟨rfl, Below.refl _ _⟩
include hZ in
theorem cutS_fx (p s : ByteArray) (hs : s.size < 4294967281) : Fx E 56 [] [.lit (.string s), .lit (.string p)] [] (cutS p s) := by
  have hres : resOk (cutS p s) = true := by unfold cutS; split <;> rfl
  have hrel : ∀ x base, Rel x base (.tuple #[.string ⟨(Lib.cut s.data.toList p.data.toList).1.toArray⟩, .string ⟨(Lib.cut s.data.toList p.data.toList).2.1.toArray⟩, .bool (Lib.cut s.data.toList p.data.toList).2.2]) (cutS p s) := by
    intro x base
    rcases index_cases s p with ⟨h, _⟩ | ⟨i, h, _, _, _⟩
    · obtain ⟨q1, q2, q3⟩ := Lib.cutB_miss s p h
      rw [q1, q2, q3, cutS, h, ← ba_nil]
      exact tup3_rel _ _ _ _ _
    · obtain ⟨q1, q2, q3⟩ := Lib.cutB_hit s p i h
      rw [q1, q2, q3, cutS, h, if_pos (by omega)]
      exact tup3_rel _ _ _ _ _
  refine Fx_res (args := [.string s, .string p]) hres hrel fun w hw => ?_
  rw [hE]
  obtain ⟨m, hm⟩ := (hZ w hw).maxl
  refine (Go.Proofs.Tryz.strings_Cut s p m w hs hm).mono ?_
  rintro e w' ⟨rfl, n, rfl⟩
  exact ⟨rfl, ⟨rfl, rfl, rfl, Nat.le_refl _, fun _ _ => rfl⟩⟩
include hZ in
set_option maxHeartbeats 4000000 in
theorem implRngOk_fx (l : List (ByteArray × ByteArray)) (hl : l.length ≤ 1048576) (hx : ∀ b ∈ l, b.1.size ≤ 1073741824 ∧ b.2.size ≤ 1073741824) : Fx E 172 [] [.sl ro 2 (l.map fun b => bndV b.1 b.2)] [] (.lit (.bool (rngOk l))) := by
  refine (is172.to hE).fx [] (by simp) rfl rfl ?_
  simp [v172]
  refine X_loop (τ := Nat) (fun i => ⟨[(0, .sl ro 2 (l.map fun b => bndV b.1 b.2)), (5, .sl ro 2 (l.map fun b => bndV b.1 b.2)), (6, .lit (.int .i64 l.length)), (7, .lit (.int .i64 i))], []⟩) (fun i => i ≤ l.length ∧ ∀ j, j < i → bndOk l j = true) (fun i => l.length - i) 0 (by simp) (Wk.both (by simp [wkL, wkV.same]) trivial) ?_
  rintro i ⟨hi, hall⟩
  simp
  by_cases hlt : i < l.length
  · obtain ⟨g1, g2⟩ := hx _ (List.getElem_mem hlt)
    have hat : bndOk l i = (endOk l[i].1 && endOk l[i].2) := by unfold bndOk; rw [show l.getD i (by8 "", by8 "") = l[i] by simp [List.getD, hlt]]
    have no : bndOk l i = false → rngOk l = false := fun h => by
      have : (List.range l.length).all (bndOk l) = false := by rw [List.all_eq_false]; exact ⟨i, List.mem_range.2 hlt, by simp [h]⟩
      rw [rngOk, this]; rfl
    have nxt : bndOk l i = true → ∀ j, j < i + 1 → bndOk l j = true := fun h j hj => by
      rcases Nat.lt_succ_iff_lt_or_eq.1 hj with h2 | rfl
      · exact hall j h2
      · exact h
    rw [hat] at no nxt
    simp [hlt, bndV, ro, mkF, mkF.mkL, okC, putElem, upd]
    have hd : ∀ {s : ByteArray}, ¬ s = by8 "" → endOk s = isVer s := fun {s} h => by simp [endOk, h]
    by_cases z1 : l[i].1 = by8 ""
    · have e1 : endOk l[i].1 = true := by rw [z1]; exact end_nil
      simp [z1]
      by_cases z2 : l[i].2 = by8 ""
      · have e2 : endOk l[i].2 = true := by rw [z2]; exact end_nil
        simp [z2]
        exact ⟨i + 1, ⟨by omega, nxt (by rw [e1, e2]; rfl)⟩, by omega, Wk.both (by simp [wkL, wkV.same, ro, bndV]; rw [wrapN (by omega)]; exact wkV.same _) (by simp [wkB])⟩
      · simp [z2]
        refine vcall_go (isVersion_fx hE hZ l[i].2 (by omega)) (by simp) (by simp) (by simp) (by simp) ?_
        rw [← hd z2]
        simp
        cases e2 : endOk l[i].2
        · have := no (by rw [e2]; simp)
          simp
          exact Fin_ret rfl (by rw [this]; rfl)
        · simp
          exact ⟨i + 1, ⟨by omega, nxt (by rw [e1, e2]; rfl)⟩, by omega, Wk.both (by simp [wkL, wkV.same, ro, bndV]; rw [wrapN (by omega)]; exact wkV.same _) (by simp [wkB])⟩
    · simp [z1]
      refine vcall_go (isVersion_fx hE hZ l[i].1 (by omega)) (by simp) (by simp) (by simp) (by simp) ?_
      rw [← hd z1]
      simp
      cases e1 : endOk l[i].1
      · have := no (by rw [e1]; simp)
        simp
        exact Fin_ret rfl (by rw [this]; rfl)
      · simp
        by_cases z2 : l[i].2 = by8 ""
        · have e2 : endOk l[i].2 = true := by rw [z2]; exact end_nil
          simp [z2]
          exact ⟨i + 1, ⟨by omega, nxt (by rw [e1, e2]; rfl)⟩, by omega, Wk.both (by simp [wkL, wkV.same, ro, bndV]; rw [wrapN (by omega)]; exact wkV.same _) (by simp [wkB])⟩
        · simp [z2]
          refine vcall_go (isVersion_fx hE hZ l[i].2 (by omega)) (by simp) (by simp) (by simp) (by simp) ?_
          rw [← hd z2]
          simp
          cases e2 : endOk l[i].2
          · have := no (by rw [e1, e2]; simp)
            simp
            exact Fin_ret rfl (by rw [this]; rfl)
          · simp
            exact ⟨i + 1, ⟨by omega, nxt (by rw [e1, e2]; rfl)⟩, by omega, Wk.both (by simp [wkL, wkV.same, ro, bndV]; rw [wrapN (by omega)]; exact wkV.same _) (by simp [wkB])⟩
  · obtain rfl : i = l.length := by omega
    have hpa : (List.range l.length).all (bndOk l) = true := by rw [List.all_eq_true]; exact fun j hj => hall j (List.mem_range.1 hj)
    simp
    refine vcall_go (within_fx hE l.length 1 8) (by simp) (by simp) (by simp) (by simp) ?_
    simp
    exact Fin_ret rfl (by rw [rngOk, hpa]; rfl)
include hZ in
set_option maxHeartbeats 4000000 in
theorem partial_fx (s : ByteArray) (hs : s.size ≤ 1073741824) : Fx E 211 [] [.lit (.string s)] [] (parRes s) := by
  have hsp := split_fx hE hZ s (by8 ".") (by omega) (by decide +kernel)
  rw [show spB (by8 ".") s = spl 46 s by rw [by46]; rfl] at hsp
  refine (is211.to hE).fx [] (by simp) rfl (parRes_ok s) ?_
  simp [v211, okC]
  refine vcall_go hsp (by simp) (by simp) (by simp) (by simp) ?_
  have hz : ∀ (i : Nat) p, (spl 46 s)[i]? = some p → p.size ≤ s.size := fun i p h => spl_size h
  have hne := spl_ne 46 s
  unfold parRes
  obtain ⟨w, hw⟩ : ∃ w, spl 46 s = w := ⟨_, rfl⟩
  rw [hw] at hz hne ⊢
  simp
  match w, hne with
  | [a], _ =>
    have za := hz 0 a rfl
    simp
    refine X_loop (τ := Nat × Int) (fun p => ⟨[(0, .lit (.string s)), (2, .ptr 1002 0 0), (4, .sl ⟨.no, true⟩ 1 [.lit (.string a)]), (5, .bs 1011 1 2), (16, .sl ⟨.no, true⟩ 1 [.lit (.string a)]), (17, .lit (.int .i64 1)), (18, .lit (.int .i64 p.1))], [(1002, [bndV (by8 "") (by8 "")]), (1011, [.lit (.int .i64 p.2), .lit (.int .i64 0)])]⟩) (fun p => p = (0, 0) ∨ (p = (1, readDec a) ∧ 0 ≤ readDec a)) (fun p => 2 - p.1) (0, 0) (.inl rfl) (Wk.both (by simp [wkL, wkV.same]) (by simp [wkB, bndV])) ?_
    rintro p (rfl | ⟨rfl, h0⟩)
    · simp [mkF]
      refine vcall_go (implReadDec_fx hE hZ a (by omega)) (by simp) (by simp) (by simp) (by simp [bndV]) ?_
      simp [okC, putElem, upd]
      by_cases c : readDec a < 0
      · simp [c, okC, putElem, upd, fill, bndV]
        exact Fin_ret2 rfl (by rw [if_neg (by omega)]; rfl)
      · simp [c]
        exact ⟨1, readDec a, ⟨⟨rfl, rfl⟩, by omega⟩, by omega, Wk.both (by simp [wkL, wkV.same]; rw [wrap_i64 (i := 1) (by omega) (by omega)]; exact wkV.same _) (by simp [wkB])⟩
    · obtain ⟨n, hn, rfl, hd⟩ := dec_of h0
      rw [hd]
      simp [fill, okC, upd]
      refine vcall_go (implVerT_fx hE hZ ⟨n, 0, 0, []⟩ (by simp) (by simp)) (by simp [Ver.av, ro]) (by simp) (by simp) (by simp [bndV]) ?_
      simp
      rw [w64_1]
      refine vcall_go (zeroPre_fx hE hZ n 1 0) (by simp) (by simp) (by simp) (by simp [bndV]) ?_
      simp [okC, putElem, upd, fill, bndV]
      rw [wrap_i64 (i := (n : Int) + 1) (by omega) (by omega)]
      refine vcall_go (zeroPre_fx hE hZ (n + 1) 0 0) (by simp) (by simp) (by simp) (by simp [bndV]) ?_
      simp [okC, putElem, upd, fill, bndV]
      exact Fin_ret2 rfl rfl
  | [a, b], _ =>
    have za := hz 0 a rfl
    have zb := hz 1 b rfl
    simp
    refine X_loop (τ := Nat × Int × Int) (fun p => ⟨[(0, .lit (.string s)), (2, .ptr 1002 0 0), (4, .sl ⟨.no, true⟩ 1 [.lit (.string a), .lit (.string b)]), (5, .bs 1011 1 2), (16, .sl ⟨.no, true⟩ 1 [.lit (.string a), .lit (.string b)]), (17, .lit (.int .i64 2)), (18, .lit (.int .i64 p.1))], [(1002, [bndV (by8 "") (by8 "")]), (1011, [.lit (.int .i64 p.2.1), .lit (.int .i64 p.2.2)])]⟩) (fun p => p = (0, 0, 0) ∨ (p = (1, readDec a, 0) ∧ 0 ≤ readDec a) ∨ (p = (2, readDec a, readDec b) ∧ 0 ≤ readDec a ∧ 0 ≤ readDec b)) (fun p => 3 - p.1) (0, 0, 0) (.inl rfl) (Wk.both (by simp [wkL, wkV.same]) (by simp [wkB, bndV])) ?_
    rintro p (rfl | ⟨rfl, h0⟩ | ⟨rfl, h0, h1⟩)
    · simp [mkF]
      refine vcall_go (implReadDec_fx hE hZ a (by omega)) (by simp) (by simp) (by simp) (by simp [bndV]) ?_
      simp [okC, putElem, upd]
      by_cases c : readDec a < 0
      · simp [c, okC, putElem, upd, fill, bndV]
        exact Fin_ret2 rfl (by rw [if_neg (by omega)]; rfl)
      · simp [c]
        exact ⟨1, readDec a, 0, .inl ⟨⟨rfl, rfl, rfl⟩, by omega⟩, by omega, Wk.both (by simp [wkL, wkV.same]; rw [wrap_i64 (i := 1) (by omega) (by omega)]; exact wkV.same _) (by simp [wkB])⟩
    · simp [mkF]
      refine vcall_go (implReadDec_fx hE hZ b (by omega)) (by simp) (by simp) (by simp) (by simp [bndV]) ?_
      simp [okC, putElem, upd]
      by_cases c : readDec b < 0
      · simp [c, okC, putElem, upd, fill, bndV]
        exact Fin_ret2 rfl (by rw [if_neg (by omega)]; rfl)
      · simp [c]
        exact ⟨2, readDec a, readDec b, .inr ⟨⟨rfl, rfl, rfl⟩, by omega, by omega⟩, by omega, Wk.both (by simp [wkL, wkV.same]; rw [wrap_i64 (i := 2) (by omega) (by omega)]; exact wkV.same _) (by simp [wkB])⟩
    · obtain ⟨n, hn, e1, hd⟩ := dec_of h0
      obtain ⟨m, hm, e2, hd2⟩ := dec_of h1
      rw [hd, hd2]
      simp [fill, okC, upd]
      refine vcall_go (implVerT_fx hE hZ ⟨n, m, 0, []⟩ (by simp) (by simp)) (by simp [Ver.av, ro]) (by simp) (by simp) (by simp [bndV]) ?_
      simp
      rw [wrap_i64 (i := (m : Int) + 1) (by omega) (by omega)]
      refine vcall_go (zeroPre_fx hE hZ n (m + 1) 0) (by simp) (by simp) (by simp) (by simp [bndV]) ?_
      simp [okC, putElem, upd, fill, bndV]
      exact Fin_ret2 rfl rfl
  | a :: b :: c :: r, _ =>
    have c1 : (2 : Int) < (r.length : Int) + 1 + 1 + 1 := by omega
    simp [c1, okC, putElem, upd, fill, bndV]
    exact Fin_ret2 rfl rfl
end
end Go.Proofs.YtgegcfhifojjiaaGreatDoor.Vm
