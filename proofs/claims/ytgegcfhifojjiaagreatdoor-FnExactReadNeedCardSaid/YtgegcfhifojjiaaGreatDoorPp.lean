/- Package URLs: both sides. -/
import Derived.Test.YtgegcfhifojjiaaGreatDoorPc
namespace Go.Proofs.YtgegcfhifojjiaaGreatDoor.Vm
open Go Go.RowKit
set_option linter.unusedVariables false
set_option linter.unusedSimpArgs false
def v40 : VC := .seq (.reg false [⟨some 2, .as (.c (.lit (.string (by8 "")))), none⟩] [2]) (.seq (.seq (.reg false [⟨some 3, .mv (.t 0), none⟩, ⟨some 4, .call false 105 [(.t 3), (.c (.lit (.int .i64 0))), (.c (.lit (.int .i64 3)))], none⟩, ⟨some 5, .un .not (.t 4), none⟩] [3, 4]) (.cond (.t 5) (.seq (.reg false [⟨some 2, .as (.c (.lit (.string (by8 "")))), none⟩] []) (.ret)) (.skip))) (.seq (.reg false [⟨some 6, .bsl 1 [(.c (.lit (.string (by8 "npm")))), (.c (.lit (.string (by8 "cargo")))), (.c (.lit (.string (by8 "golang")))), (.c (.lit (.string (by8 "pypi"))))], none⟩, ⟨some 7, .mv (.t 0), none⟩, ⟨some 8, .ia 1 (.t 6) (.t 7), none⟩, ⟨some 9, .ld false 1 (.t 8), none⟩, ⟨some 2, .as (.t 9), none⟩] [6, 7, 8, 9]) (.ret)))
theorem is40 : Is Go.Proofs.Tryz.prog 40 10 v40 [.t 2] := ⟨Go.Proofs.Tryz.f40, dl [(0, [2]), (1, [3, 4]), (3, [6, 7, 8, 9])], Go.Proofs.Tryz.func40, by kernel_rfl, by kernel_rfl, by kernel_rfl, by kernel_rfl⟩
def v59 : VC := .seq (.reg false [⟨some 0, .as (.c (.sl ⟨.nl, true⟩ 1 [])), none⟩] [0]) (.seq (.reg false [⟨some 1, .bsl 1 [(.c (.lit (.string (by8 "npm")))), (.c (.lit (.string (by8 "cargo")))), (.c (.lit (.string (by8 "golang")))), (.c (.lit (.string (by8 "pypi"))))], none⟩, ⟨some 0, .as (.t 1), none⟩] [1]) (.ret))
theorem is59 : Is Go.Proofs.Tryz.prog 59 2 v59 [.t 0] := ⟨Go.Proofs.Tryz.f59, dl [(0, [0]), (1, [1])], Go.Proofs.Tryz.func59, by kernel_rfl, by kernel_rfl, by kernel_rfl, by kernel_rfl⟩
def v44 : VC := .seq (.reg false [⟨some 2, .as (.c (.lit (.string (by8 "")))), none⟩] [2]) (.seq (.seq (.reg false [⟨some 3, .mv (.t 0), none⟩, ⟨some 4, .call false 108 [(.t 3), (.c (.lit (.int .i64 0))), (.c (.lit (.int .i64 3)))], none⟩, ⟨some 5, .un .not (.t 4), none⟩] [3, 4]) (.cond (.t 5) (.seq (.reg false [⟨some 2, .as (.c (.lit (.string (by8 "")))), none⟩] []) (.ret)) (.skip))) (.seq (.reg false [⟨some 6, .call false 59 [], none⟩, ⟨some 7, .mv (.t 0), none⟩, ⟨some 8, .ia 1 (.t 6) (.t 7), none⟩, ⟨some 9, .ld false 1 (.t 8), none⟩, ⟨some 2, .as (.t 9), none⟩] [6, 7, 8, 9]) (.ret)))
theorem is44 : Is Go.Proofs.Tryz.prog 44 10 v44 [.t 2] := ⟨Go.Proofs.Tryz.f44, dl [(0, [2]), (1, [3, 4]), (3, [6, 7, 8, 9])], Go.Proofs.Tryz.func44, by kernel_rfl, by kernel_rfl, by kernel_rfl, by kernel_rfl⟩
def v11 : VC := .seq (.reg false [⟨some 6, .as (.c (.lit (.string (by8 "")))), none⟩] [6]) (.seq (.reg false [⟨some 13, .mv (.t 2), none⟩, ⟨some 14, .call false 39 [(.t 13)], none⟩, ⟨some 12, .mv (.t 14), none⟩, ⟨some 15, .ext (.t 12) 0, none⟩, ⟨some 16, .ext (.t 12) 1, none⟩, ⟨some 7, .alloc (.agg [(.lit (.int .i64 0)), (.lit (.int .i64 0)), (.lit (.int .i64 0)), (.sl ⟨.nl, true⟩ 1 [])]), none⟩, ⟨none, .st 4 (.t 7) (.t 15), none⟩, ⟨some 8, .as (.t 16), none⟩] [13, 14, 12, 15, 16, 7]) (.seq (.seq (.reg false [⟨some 17, .mv (.t 0), none⟩, ⟨some 18, .call false 40 [(.t 17)], none⟩, ⟨some 19, .bin .eql 0 (.t 18) (.c (.lit (.string (by8 "")))), none⟩, ⟨some 20, .mv (.t 19), none⟩, ⟨some 21, .mv (.t 1), (some (20, false))⟩, ⟨some 22, .call false 41 [(.t 21)], (some (20, false))⟩, ⟨some 23, .un .not (.t 22), (some (20, false))⟩, ⟨some 24, .pick (.t 20) (.c (.lit (.bool true))) (.t 23), none⟩, ⟨some 25, .mv (.t 24), none⟩, ⟨some 26, .mv (.t 8), (some (25, false))⟩, ⟨some 27, .un .not (.t 26), (some (25, false))⟩, ⟨some 28, .pick (.t 25) (.c (.lit (.bool true))) (.t 27), none⟩] [17, 18, 19, 20, 21, 22, 23, 24, 25, 26, 27]) (.cond (.t 28) (.seq (.reg false [⟨some 6, .as (.c (.lit (.string (by8 "")))), none⟩] []) (.ret)) (.skip))) (.seq (.reg false [⟨some 29, .mv (.t 0), none⟩, ⟨some 30, .call false 40 [(.t 29)], none⟩, ⟨some 31, .bin .add 0 (.c (.lit (.string (by8 "pkg:")))) (.t 30), none⟩, ⟨some 9, .as (.t 31), none⟩] [29, 30, 31]) (.seq (.reg false [⟨some 32, .mv (.t 1), none⟩, ⟨some 33, .call false 42 [(.t 32), (.c (.lit (.int .u8 47)))], none⟩, ⟨some 10, .as (.t 33), none⟩] [32, 33]) (.seq (.seq (.reg false [⟨some 11, .as (.c (.lit (.int .i64 0))), none⟩] []) (.block 0 (.loop (.seq (.seq (.reg false [⟨some 34, .mv (.t 11), none⟩, ⟨some 35, .mv (.t 10), none⟩, ⟨some 36, .len false (.t 35), none⟩, ⟨some 37, .bin .lss 0 (.t 34) (.t 36), none⟩] [34, 35, 36]) (.cond (.t 37) (.skip) (.exit 0))) (.seq (.block 1 (.reg false [⟨some 40, .mv (.t 9), none⟩, ⟨some 41, .bin .add 0 (.t 40) (.c (.lit (.string (by8 "/")))), none⟩, ⟨some 42, .mv (.t 10), none⟩, ⟨some 43, .mv (.t 11), none⟩, ⟨some 44, .ia 1 (.t 42) (.t 43), none⟩, ⟨some 45, .ld false 1 (.t 44), none⟩, ⟨some 46, .call false 43 [(.t 45)], none⟩, ⟨some 47, .bin .add 0 (.t 41) (.t 46), none⟩, ⟨some 9, .as (.t 47), none⟩] [40, 41, 42, 43, 44, 45, 46, 47])) (.reg false [⟨some 38, .mv (.t 11), none⟩, ⟨some 39, .bin .add 0 (.t 38) (.c (.lit (.int .i64 1))), none⟩, ⟨some 11, .as (.t 39), none⟩] [38, 39])))))) (.seq (.reg false [⟨some 48, .mv (.t 9), none⟩, ⟨some 49, .bin .add 0 (.t 48) (.c (.lit (.string (by8 "@")))), none⟩, ⟨some 50, .mv (.t 2), none⟩, ⟨some 51, .call false 43 [(.t 50)], none⟩, ⟨some 52, .bin .add 0 (.t 49) (.t 51), none⟩, ⟨some 6, .as (.t 52), none⟩] [48, 49, 50, 51, 52]) (.ret)))))))
theorem is11 : Is Go.Proofs.Tryz.prog 11 53 v11 [.t 6] := ⟨Go.Proofs.Tryz.f11, dl [(0, [6]), (1, [13, 14, 12, 15, 16, 7]), (2, [17, 18, 19, 20, 21, 22, 23, 24, 25, 26, 27]), (4, [29, 30, 31]), (5, [32, 33]), (7, [34, 35, 36]), (9, [40, 41, 42, 43, 44, 45, 46, 47]), (8, [38, 39]), (10, [48, 49, 50, 51, 52])], Go.Proofs.Tryz.func11, by kernel_rfl, by kernel_rfl, by kernel_rfl, by kernel_rfl⟩
def kinds : List ByteArray := [by8 "npm", by8 "cargo", by8 "golang", by8 "pypi"]
def kindT (k : Int) : ByteArray := if 0 ≤ k then (kinds[k.toNat]?).getD (by8 "") else by8 ""
theorem kindT_out {k : Int} (h : inR k 0 3 = false) : kindT k = by8 "" := by
  unfold kindT
  split
  · have : ¬ k.toNat < kinds.length := by simp [inR] at h; simp [kinds]; omega
    rw [List.getElem?_eq_none (by omega)]; rfl
  · rfl
theorem kindT_in {k : Nat} (h : k < 4) : kinds[k]? = some (kindT k) := by
  have : k < kinds.length := h
  unfold kindT
  rw [if_pos (by omega), Int.toNat_natCast, List.getElem?_eq_getElem this]; rfl
section
variable {E : Env} (hE : E.P = Go.Proofs.Tryz.prog) (hZ : ∀ w, E.K w → KZ w)
include hE
theorem specKind_fx (k : Int) : Fx E 40 [] [.lit (.int .i64 k)] [] (.lit (.string (kindT k))) := by
  refine (is40.to hE).fx [] (by simp) rfl rfl ?_
  simp [v40]
  refine vcall_go (l01In_fx hE k 0 3) (by simp) (by simp) (by simp) (by simp) ?_
  simp
  cases c1 : inR k 0 3
  · simp
    exact Fin_ret rfl (by rw [kindT_out c1]; rfl)
  · obtain ⟨n, rfl, hn⟩ : ∃ n : Nat, k = n ∧ n < 4 := by simp [inR] at c1; exact ⟨k.toNat, by omega, by omega⟩
    simp [okC]
    match n, hn with
    | 0, _ => simp [mkF]; exact Fin_ret rfl rfl
    | 1, _ => simp [mkF]; exact Fin_ret rfl rfl
    | 2, _ => simp [mkF]; exact Fin_ret rfl rfl
    | 3, _ => simp [mkF]; exact Fin_ret rfl rfl
theorem kindNames_fx : Fx E 59 [] [] [] (.sl ⟨.no, true⟩ 1 (kinds.map fun x => .lit (.string x))) := by
  refine (is59.to hE).fx [] (by simp) rfl rfl ?_
  simp [v59, okC]
  exact Fin_ret rfl rfl
theorem implKind_fx (k : Int) : Fx E 44 [] [.lit (.int .i64 k)] [] (.lit (.string (kindT k))) := by
  refine (is44.to hE).fx [] (by simp) rfl rfl ?_
  simp [v44]
  refine vcall_go (within_fx hE k 0 3) (by simp) (by simp) (by simp) (by simp) ?_
  simp
  cases c1 : inR k 0 3
  · simp
    exact Fin_ret rfl (by rw [kindT_out c1]; rfl)
  · obtain ⟨n, rfl, hn⟩ : ∃ n : Nat, k = n ∧ n < 4 := by simp [inR] at c1; exact ⟨k.toNat, by omega, by omega⟩
    simp
    refine vcall_go (kindNames_fx hE) (by simp) (by simp) (by simp) (by simp) ?_
    match n, hn with
    | 0, _ => simp [kinds, mkF]; exact Fin_ret rfl rfl
    | 1, _ => simp [kinds, mkF]; exact Fin_ret rfl rfl
    | 2, _ => simp [kinds, mkF]; exact Fin_ret rfl rfl
    | 3, _ => simp [kinds, mkF]; exact Fin_ret rfl rfl
end
theorem kind_size (k : Int) : (kindT k).size ≤ 6 := by
  cases c : inR k 0 3
  · rw [kindT_out c]; decide +kernel
  · obtain ⟨n, rfl, hn⟩ : ∃ n : Nat, k = n ∧ n < 4 := by simp [inR] at c; exact ⟨k.toNat, by omega, by omega⟩
    match n, hn with
    | 0, _ => decide +kernel
    | 1, _ => decide +kernel
    | 2, _ => decide +kernel
    | 3, _ => decide +kernel
/-- the parts, each behind a bar -/
def barT : List ByteArray → ByteArray
  | [] => by8 ""
  | p :: r => by8 "/" ++ pct p ++ barT r
noncomputable def purlT (k : Int) (name ver : ByteArray) : ByteArray :=
  if kindT k = by8 "" ∨ nameOk name = false ∨ isVer ver = false then by8 "" else by8 "pkg:" ++ kindT k ++ barT (spl 47 name) ++ by8 "@" ++ pct ver
theorem barT_snoc : ∀ (r : List ByteArray) (x : ByteArray), barT (r ++ [x]) = barT r ++ (by8 "/" ++ pct x)
  | [], x => by simp [barT, app_nil]; rw [ba_nil, ByteArray.empty_append]
  | p :: r, x => by simp [barT, barT_snoc r x, ByteArray.append_assoc]
theorem barT_next {l : List ByteArray} {k : Nat} (h : k < l.length) : barT (l.take (k + 1)) = barT (l.take k) ++ (by8 "/" ++ pct l[k]) := by
  rw [List.take_succ_eq_append_getElem h, barT_snoc]
theorem barT_size : ∀ (l : List ByteArray) (k : Nat), (∀ p ∈ l, p.size ≤ k) → (barT l).size ≤ l.length * (3 * k + 1)
  | [], k, _ => by have : (barT []).size = 0 := by decide +kernel
                   omega
  | p :: r, k, h => by
    have h1 := barT_size r k fun q hq => h q (by simp [hq])
    have h2 := h p (by simp)
    have h3 := pct_size p
    have e : (by8 "/").size = 1 := by decide +kernel
    simp only [barT, ByteArray.size_append, List.length_cons, Nat.add_mul, e]
    omega
theorem joinB_bar : ∀ (p : ByteArray) (r : List ByteArray), by8 "/" ++ joinB ((p :: r).map pct) (by8 "/") = barT (p :: r) := by
  intro p r
  refine ba_ext ?_
  have h1 : (joinB (pct p :: r.map pct) (by8 "/")).data.toList = Lib.join ((pct p).data.toList :: (r.map pct).map (·.data.toList)) (by8 "/").data.toList := rfl
  have h2 : ∀ r : List ByteArray, (barT r).data.toList = Lib.joinTail (by8 "/").data.toList ((r.map pct).map (·.data.toList)) := by
    intro r
    induction r with
    | nil => simp [barT, Lib.joinTail]; decide +kernel
    | cons q r ih =>
      simp only [barT, Lib.joinTail, List.map_cons, List.flatten_cons] at ih ⊢
      rw [← ih]
      simp
  rw [h2]
  simp only [ByteArray.data_append, Array.toList_append, h1, List.map_cons, Lib.join_cons, Lib.joinTail, List.flatten_cons, List.append_assoc]
section
variable {E : Env} (hE : E.P = Go.Proofs.Tryz.prog) (hZ : ∀ w, E.K w → KZ w)
include hE
set_option maxHeartbeats 1000000 in
theorem specPurl_fx (k : Int) (name ver : ByteArray) (hn : name.size ≤ 1048576) (hv : ver.size ≤ 1048576) : Fx E 11 [] [.lit (.int .i64 k), .lit (.string name), .lit (.string ver)] [] (.lit (.string (purlT k name ver))) := by
  refine (is11.to hE).fx [] (by simp) rfl rfl ?_
  simp [v11]
  refine vcall_go (specReadVer_fx hE ver (by omega)) (by simp) (by simp) (by simp) (by simp) ?_
  have hiv : ∃ a, ∃ ap, (ap = Ap.no ∨ ap = Ap.nl) ∧ ∃ b c d l, a = AV.agg [.lit (.int .i64 b), .lit (.int .i64 c), .lit (.int .i64 d), .sl ⟨ap, true⟩ 1 l] ∧ verRes ver = .tup [a, .lit (.bool (isVer ver))] := by
    unfold isVer verRes
    cases readVer ver with
    | none => exact ⟨_, _, .inr rfl, _, _, _, _, rfl, rfl⟩
    | some v => exact ⟨_, _, apS_cases ver, _, _, _, _, rfl, rfl⟩
  obtain ⟨_, ap, hap, b, c, d, l, rfl, e⟩ := hiv
  rw [e]
  rcases hap with rfl | rfl
  all_goals
    simp [okC, putElem, upd]
    refine vcall_go (specKind_fx hE k) (by simp) (by simp) (by simp) (by simp) ?_
    simp
    by_cases c1 : kindT k = by8 ""
    · simp [c1]
      exact Fin_ret rfl (by simp [purlT, c1, reC])
    simp [c1]
    refine vcall_go (specName_fx hE name (by omega)) (by simp) (by simp) (by simp) (by simp) ?_
    simp
    cases c2 : nameOk name
    · simp
      exact Fin_ret rfl (by simp [purlT, c2, reC])
    simp
    cases c3 : isVer ver
    · simp
      exact Fin_ret rfl (by simp [purlT, c3, reC])
    simp
    refine vcall_go (specKind_fx hE k) (by simp) (by simp) (by simp) (by simp) ?_
    have hk := kind_size k
    have e4 : (by8 "pkg:").size = 4 := by decide +kernel
    have e5 : (by8 "/").size = 1 := by decide +kernel
    have e6 : (by8 "@").size = 1 := by decide +kernel
    simp
    refine ⟨by omega, ?_⟩
    refine vcall_go (l01Cut_fx hE name 47 (by omega)) (by simp) (by simp) (by simp) (by simp) ?_
    have hres : purlT k name ver = by8 "pkg:" ++ kindT k ++ barT (spl 47 name) ++ by8 "@" ++ pct ver := by simp [purlT, c1, c2, c3]
    have hlen := spl_len_le 47 name
    have hparts : ∀ p ∈ spl 47 name, p.size ≤ 1048576 := fun p hp => by
      obtain ⟨i, hi, rfl⟩ := List.getElem_of_mem hp
      have := spl_size (List.getElem?_eq_getElem hi)
      omega
    obtain ⟨ps, hps⟩ : ∃ ps, spl 47 name = ps := ⟨_, rfl⟩
    rw [hps] at hres hlen hparts ⊢
    have hpl : ps.length ≤ 1048577 := by omega
    have hbar : ∀ i, (barT (ps.take i)).size ≤ 4398046511104000 := fun i => by
      have h1 := barT_size (ps.take i) 1048576 fun p hp => hparts p (List.mem_of_mem_take hp)
      have h2 : (ps.take i).length ≤ 1048577 := by simp; omega
      have h3 := Nat.mul_le_mul_right (3 * 1048576 + 1) h2
      omega
    have hpv := pct_size ver
    simp
    refine X_loop (τ := Nat) (fun i => ⟨[(2, .lit (.string ver)), (9, .lit (.string (by8 "pkg:" ++ kindT k ++ barT (ps.take i)))), (10, .sl ⟨.no, true⟩ 1 (ps.map fun x => .lit (.string x))), (11, .lit (.int .i64 i))], []⟩) (fun i => i ≤ ps.length) (fun i => ps.length - i) 0 (by simp) (Wk.both (by simp [wkL, wkV.same, barT, app_nil]) (by simp [wkB])) ?_
    rintro i hi
    simp
    have hb := hbar i
    by_cases hlt : i < ps.length
    · have hn2 := barT_next hlt
      have hpp := pct_size ps[i]
      have hp1 := hparts _ (List.getElem_mem hlt)
      simp [hlt, mkF]
      refine ⟨by omega, ?_⟩
      refine vcall_go (specPct_fx hE ps[i] (by omega)) (by simp) (by simp) (by simp) (by simp) ?_
      simp
      refine ⟨by omega, i + 1, by omega, by omega, Wk.both (by simp [wkL, wkV.same]; rw [wrapN (by omega), hn2]; simp [ByteArray.append_assoc, wkV.same]) trivial⟩
    · obtain rfl : i = ps.length := by omega
      simp
      rw [List.take_length] at hb
      refine ⟨by omega, ?_⟩
      refine vcall_go (specPct_fx hE ver (by omega)) (by simp) (by simp) (by simp) (by simp) ?_
      simp
      refine ⟨by omega, Fin_ret rfl ?_⟩
      rw [hres]
      simp [reC, ByteArray.append_assoc]
end
end Go.Proofs.YtgegcfhifojjiaaGreatDoor.Vm
