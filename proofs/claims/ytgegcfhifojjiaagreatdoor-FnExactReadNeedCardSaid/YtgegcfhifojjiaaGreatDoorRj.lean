/- Ranges: the program, a part. -/
import Derived.Test.YtgegcfhifojjiaaGreatDoorRi
namespace Go.Proofs.YtgegcfhifojjiaaGreatDoor.Vm
open Go Go.RowKit
set_option linter.unusedVariables false
set_option linter.unusedSimpArgs false
def v171 : VC := .seq (.reg false [⟨some 2, .alloc (.agg [(.lit (.string (by8 ""))), (.lit (.string (by8 "")))]), none⟩, ⟨some 3, .as (.c (.lit (.bool false))), none⟩] [3]) (.seq (.seq (.reg false [⟨some 16, .mv (.t 0), none⟩, ⟨some 17, .bin .eql 0 (.t 16) (.c (.lit (.string (by8 "*")))), none⟩] [16]) (.cond (.t 17) (.seq (.reg false [⟨some 18, .bld [(.lit (.string (by8 ""))), (.lit (.string (by8 "")))] [], none⟩, ⟨none, .st 2 (.t 2) (.t 18), none⟩, ⟨some 3, .as (.c (.lit (.bool true))), none⟩] [18]) (.ret)) (.skip))) (.seq (.seq (.reg false [⟨some 20, .mv (.t 0), none⟩, ⟨some 21, .call false 114 [(.t 20)], none⟩, ⟨some 19, .mv (.t 21), none⟩, ⟨some 22, .ext (.t 19) 0, none⟩, ⟨some 23, .ext (.t 19) 1, none⟩, ⟨some 4, .alloc (.agg [(.lit (.int .i64 0)), (.lit (.int .i64 0)), (.lit (.int .i64 0)), (.sl ⟨.nl, true⟩ 1 [])]), none⟩, ⟨none, .st 4 (.t 4) (.t 22), none⟩, ⟨some 5, .as (.t 23), none⟩] [20, 21, 19, 22, 23]) (.seq (.reg false [⟨some 24, .mv (.t 5), none⟩] []) (.cond (.t 24) (.seq (.reg false [⟨some 25, .ld true 4 (.t 4), none⟩, ⟨some 26, .call false 188 [(.t 25)], none⟩, ⟨none, .st 2 (.t 2) (.t 26), none⟩, ⟨some 3, .as (.c (.lit (.bool true))), none⟩] [25, 26]) (.ret)) (.skip)))) (.seq (.seq (.reg false [⟨some 28, .mv (.t 0), none⟩, ⟨some 29, .call false 98 [(.t 28), (.c (.lit (.string (by8 ">="))))], none⟩, ⟨some 27, .mv (.t 29), none⟩, ⟨some 30, .ext (.t 27) 0, none⟩, ⟨some 31, .ext (.t 27) 1, none⟩, ⟨some 6, .as (.t 30), none⟩, ⟨some 7, .as (.t 31), none⟩] [28, 29, 27, 30, 31]) (.seq (.reg false [⟨some 32, .mv (.t 7), none⟩] []) (.cond (.t 32) (.seq (.reg false [⟨some 34, .mv (.t 6), none⟩, ⟨some 35, .call false 56 [(.t 34), (.c (.lit (.string (by8 " <"))))], none⟩, ⟨some 33, .mv (.t 35), none⟩, ⟨some 36, .ext (.t 33) 0, none⟩, ⟨some 37, .ext (.t 33) 1, none⟩, ⟨some 38, .ext (.t 33) 2, none⟩, ⟨some 8, .as (.t 36), none⟩, ⟨some 9, .as (.t 37), none⟩, ⟨some 10, .as (.t 38), none⟩] [34, 35, 33, 36, 37, 38]) (.seq (.reg false [⟨some 39, .mv (.t 8), none⟩, ⟨some 40, .mv (.t 9), none⟩, ⟨some 41, .bld [(.lit (.string (by8 ""))), (.lit (.string (by8 "")))] [(0, 1, (.t 39)), (1, 1, (.t 40))], none⟩, ⟨some 42, .mv (.t 8), none⟩, ⟨some 43, .call false 46 [(.t 42)], none⟩, ⟨some 44, .mv (.t 43), none⟩, ⟨some 45, .mv (.t 10), (some (44, true))⟩, ⟨some 46, .un .not (.t 45), (some (44, true))⟩, ⟨some 47, .mv (.t 46), (some (44, true))⟩, ⟨some 48, .mv (.t 9), (some (47, false))⟩, ⟨some 49, .call false 46 [(.t 48)], (some (47, false))⟩, ⟨some 50, .pick (.t 47) (.c (.lit (.bool true))) (.t 49), (some (44, true))⟩, ⟨some 51, .pick (.t 44) (.t 50) (.c (.lit (.bool false))), none⟩, ⟨none, .st 2 (.t 2) (.t 41), none⟩, ⟨some 3, .as (.t 51), none⟩] [39, 40, 41, 42, 43, 44, 45, 46, 47, 48, 49, 50, 51]) (.ret))) (.skip)))) (.seq (.seq (.reg false [⟨some 53, .mv (.t 0), none⟩, ⟨some 54, .call false 98 [(.t 53), (.c (.lit (.string (by8 "<"))))], none⟩, ⟨some 52, .mv (.t 54), none⟩, ⟨some 55, .ext (.t 52) 0, none⟩, ⟨some 56, .ext (.t 52) 1, none⟩, ⟨some 11, .as (.t 55), none⟩, ⟨some 12, .as (.t 56), none⟩] [53, 54, 52, 55, 56]) (.seq (.reg false [⟨some 57, .mv (.t 12), none⟩] []) (.cond (.t 57) (.seq (.reg false [⟨some 58, .mv (.t 11), none⟩, ⟨some 59, .bld [(.lit (.string (by8 ""))), (.lit (.string (by8 "")))] [(1, 1, (.t 58))], none⟩, ⟨some 60, .mv (.t 11), none⟩, ⟨some 61, .call false 46 [(.t 60)], none⟩, ⟨none, .st 2 (.t 2) (.t 59), none⟩, ⟨some 3, .as (.t 61), none⟩] [58, 59, 60, 61]) (.ret)) (.skip)))) (.seq (.seq (.reg false [⟨some 62, .mv (.t 0), none⟩, ⟨some 63, .bin .neq 0 (.t 62) (.c (.lit (.string (by8 "")))), none⟩, ⟨some 64, .mv (.t 63), none⟩, ⟨some 65, .mv (.t 0), (some (64, true))⟩, ⟨some 66, .idx (.t 65) (.c (.lit (.int .i64 0))), (some (64, true))⟩, ⟨some 67, .bin .eql 0 (.t 66) (.c (.lit (.int .u8 94))), (some (64, true))⟩, ⟨some 68, .mv (.t 67), (some (64, true))⟩, ⟨some 69, .mv (.t 0), (some (68, false))⟩, ⟨some 70, .idx (.t 69) (.c (.lit (.int .i64 0))), (some (68, false))⟩, ⟨some 71, .bin .eql 0 (.t 70) (.c (.lit (.int .u8 126))), (some (68, false))⟩, ⟨some 72, .pick (.t 68) (.c (.lit (.bool true))) (.t 71), (some (64, true))⟩, ⟨some 73, .pick (.t 64) (.t 72) (.c (.lit (.bool false))), none⟩] [62, 63, 64, 65, 66, 67, 68, 69, 70, 71, 72]) (.cond (.t 73) (.seq (.reg false [⟨some 75, .mv (.t 0), none⟩, ⟨some 76, .slS (.t 75) (some (.c (.lit (.int .i64 1)))) none, none⟩, ⟨some 77, .call false 114 [(.t 76)], none⟩, ⟨some 74, .mv (.t 77), none⟩, ⟨some 78, .ext (.t 74) 0, none⟩, ⟨some 79, .ext (.t 74) 1, none⟩, ⟨some 13, .alloc (.agg [(.lit (.int .i64 0)), (.lit (.int .i64 0)), (.lit (.int .i64 0)), (.sl ⟨.nl, true⟩ 1 [])]), none⟩, ⟨none, .st 4 (.t 13) (.t 78), none⟩, ⟨some 14, .as (.t 79), none⟩] [75, 76, 77, 74, 78, 79]) (.seq (.reg false [⟨some 80, .fa 0 (.t 13), none⟩, ⟨some 81, .ld false 1 (.t 80), none⟩, ⟨some 82, .fa 1 (.t 13), none⟩, ⟨some 83, .ld false 1 (.t 82), none⟩, ⟨some 84, .bin .add 0 (.t 83) (.c (.lit (.int .i64 1))), none⟩, ⟨some 85, .call false 210 [(.t 81), (.t 84), (.c (.lit (.int .i64 0)))], none⟩, ⟨some 15, .as (.t 85), none⟩] [80, 81, 82, 83, 84, 85]) (.seq (.seq (.reg false [⟨some 86, .mv (.t 0), none⟩, ⟨some 87, .idx (.t 86) (.c (.lit (.int .i64 0))), none⟩, ⟨some 88, .bin .eql 0 (.t 87) (.c (.lit (.int .u8 94))), none⟩] [86, 87]) (.cond (.t 88) (.block 0 (.seq (.reg false [⟨some 90, .fa 0 (.t 13), none⟩, ⟨some 91, .ld false 1 (.t 90), none⟩, ⟨some 92, .bin .gtr 0 (.t 91) (.c (.lit (.int .i64 0))), none⟩, ⟨some 89, .as (.t 92), none⟩] [90, 91, 92]) (.cond (.t 89) (.reg false [⟨some 93, .fa 0 (.t 13), none⟩, ⟨some 94, .ld false 1 (.t 93), none⟩, ⟨some 95, .bin .add 0 (.t 94) (.c (.lit (.int .i64 1))), none⟩, ⟨some 96, .call false 210 [(.t 95), (.c (.lit (.int .i64 0))), (.c (.lit (.int .i64 0)))], none⟩, ⟨some 15, .as (.t 96), none⟩] [93, 94, 95, 96]) (.seq (.reg false [⟨some 98, .fa 1 (.t 13), none⟩, ⟨some 99, .ld false 1 (.t 98), none⟩, ⟨some 100, .bin .eql 0 (.t 99) (.c (.lit (.int .i64 0))), none⟩, ⟨some 97, .as (.t 100), none⟩] [98, 99, 100]) (.cond (.t 97) (.reg false [⟨some 101, .fa 2 (.t 13), none⟩, ⟨some 102, .ld false 1 (.t 101), none⟩, ⟨some 103, .bin .add 0 (.t 102) (.c (.lit (.int .i64 1))), none⟩, ⟨some 104, .call false 210 [(.c (.lit (.int .i64 0))), (.c (.lit (.int .i64 0))), (.t 103)], none⟩, ⟨some 15, .as (.t 104), none⟩] [101, 102, 103, 104]) (.skip)))))) (.skip))) (.seq (.reg false [⟨some 105, .mv (.t 0), none⟩, ⟨some 106, .slS (.t 105) (some (.c (.lit (.int .i64 1)))) none, none⟩, ⟨some 107, .mv (.t 15), none⟩, ⟨some 108, .bld [(.lit (.string (by8 ""))), (.lit (.string (by8 "")))] [(0, 1, (.t 106)), (1, 1, (.t 107))], none⟩, ⟨some 109, .mv (.t 14), none⟩, ⟨none, .st 2 (.t 2) (.t 108), none⟩, ⟨some 3, .as (.t 109), none⟩] [105, 106, 107, 108, 109]) (.ret))))) (.skip))) (.seq (.reg false [⟨some 110, .mv (.t 0), none⟩, ⟨some 111, .call false 211 [(.t 110)], none⟩, ⟨some 112, .ext (.t 111) 0, none⟩, ⟨some 113, .ext (.t 111) 1, none⟩, ⟨none, .st 2 (.t 2) (.t 112), none⟩, ⟨some 3, .as (.t 113), none⟩] [110, 111, 112, 113]) (.ret)))))))
theorem is171 : Is Go.Proofs.Tryz.prog 171 114 v171 [.b 2 true 2, .t 3] := ⟨Go.Proofs.Tryz.f171, dl [(0, [3]), (1, [16]), (2, [18]), (3, [20, 21, 19, 22, 23]), (5, [25, 26]), (6, [28, 29, 27, 30, 31]), (8, [34, 35, 33, 36, 37, 38]), (9, [39, 40, 41, 42, 43, 44, 45, 46, 47, 48, 49, 50, 51]), (10, [53, 54, 52, 55, 56]), (12, [58, 59, 60, 61]), (13, [62, 63, 64, 65, 66, 67, 68, 69, 70, 71, 72]), (14, [75, 76, 77, 74, 78, 79]), (15, [80, 81, 82, 83, 84, 85]), (16, [86, 87]), (17, [90, 91, 92]), (19, [98, 99, 100]), (20, [101, 102, 103, 104]), (18, [93, 94, 95, 96]), (21, [105, 106, 107, 108, 109]), (22, [110, 111, 112, 113])], Go.Proofs.Tryz.func171, by kernel_rfl, by kernel_rfl, by kernel_rfl, by kernel_rfl⟩
noncomputable def opn (s : ByteArray) : Bool := decide (s = by8 "*") || hasP s lt1 || hasP s ge2
noncomputable def accO (s l h : ByteArray) (ok : Bool) : Option (ByteArray × ByteArray) := if ok = true ∧ (opn s = true ∨ (l ≠ by8 "" ∧ h ≠ by8 "")) then some (l, h) else none
theorem spl_cons {a r : ByteArray} (h : free 46 a) : spl 46 (a ++ one 46 ++ r) = a :: spl 46 r := by
  have h1 : a.size < (a ++ one 46 ++ r).size := by rw [ByteArray.size_append, ByteArray.size_append, one_size]; omega
  have h2 : bt (a ++ one 46 ++ r) a.size = 46 := by
    have := bt_appR (a := a) (b := one 46 ++ r) (j := 0) (by rw [ByteArray.size_append, one_size]; omega)
    rw [Nat.add_zero] at this
    rw [ByteArray.append_assoc, this, bt_appL (by rw [one_size]; omega)]
    decide +kernel
  have h3 : ∀ j, j < a.size → bt (a ++ one 46 ++ r) j ≠ 46 := fun j hj => by
    rw [ByteArray.append_assoc, bt_appL hj]; exact h j hj
  have h4 := ext_appR (a ++ one 46) r _ rfl
  rw [ByteArray.size_append, one_size] at h4
  rw [spl_hit h1 h2 h3, h4, ByteArray.append_assoc, ext_appL]
theorem ver_short {s : ByteArray} {v : Ver} (h : readVer s = some v) : shortO s = none := by
  obtain ⟨h1, h2⟩ := ver_back h
  have hd := fun n => dec_free (c := 46) (by decide) n
  have e : s = decT v.maj.toNat ++ one 46 ++ (decT v.min.toNat ++ one 46 ++ (decT v.pat.toNat ++ preT v.pre)) := by
    rw [← h2, verT, if_pos h1, coreT, by46]
    simp only [ByteArray.append_assoc]
  refine short_more rfl ?_
  rw [e, spl_cons (hd _), spl_cons (hd _)]
  have := List.length_pos_iff.2 (spl_ne 46 (decT v.pat.toNat ++ preT v.pre))
  simp only [List.length_cons]; omega
theorem ver_first {s : ByteArray} (h : isVer s = true) : bt s 0 ≠ 94 ∧ bt s 0 ≠ 126 ∧ bt s 0 ≠ 62 ∧ bt s 0 ≠ 60 := by
  have h0 := ver_pos h
  exact ⟨ver_free (by decide) (by decide) (by decide) (by decide +kernel) h 0 h0, ver_free (by decide) (by decide) (by decide) (by decide +kernel) h 0 h0, ver_free (by decide) (by decide) (by decide) (by decide +kernel) h 0 h0, ver_free (by decide) (by decide) (by decide) (by decide +kernel) h 0 h0⟩
theorem ge_first {t : ByteArray} : bt (ge2 ++ t) 0 = 62 := by rw [bt_appL (by decide +kernel)]; decide +kernel
theorem lt_first {t : ByteArray} : bt (lt1 ++ t) 0 = 60 := by rw [bt_appL (by decide +kernel)]; decide +kernel
theorem opn_no {s : ByteArray} (h1 : ¬ s = by8 "*") (h2 : hasP s lt1 = false) (h3 : hasP s ge2 = false) : opn s = false := by simp [opn, h1, h2, h3]
theorem not_pre {s : ByteArray} (h : bt s 0 ≠ 62 ∧ bt s 0 ≠ 60) : hasP s lt1 = false ∧ hasP s ge2 = false := by
  constructor
  · cases h1 : hasP s lt1
    · rfl
    · obtain ⟨t, rfl⟩ := hasP_iff.1 h1; exact absurd lt_first h.2
  · cases h1 : hasP s ge2
    · rfl
    · obtain ⟨t, rfl⟩ := hasP_iff.1 h1; exact absurd ge_first h.1
theorem star_ne {t : ByteArray} : ¬ ge2 ++ t = by8 "*" ∧ ¬ lt1 ++ t = by8 "*" := by
  constructor
  · intro e
    have := ge_first (t := t)
    rw [e] at this
    exact absurd this (by decide +kernel)
  · intro e
    have := lt_first (t := t)
    rw [e] at this
    exact absurd this (by decide +kernel)
theorem acc_ver {s : ByteArray} {v : Ver} (h : readVer s = some v) : accO s s (exHigh v) true = partO s := by
  have hv := isVer_of h
  obtain ⟨f1, f2, f3, f4⟩ := ver_first hv
  have h0 := ver_pos hv
  have hs : ¬ s = by8 "*" := by
    intro e
    have h6 := ver_free (c := 42) (by decide) (by decide) (by decide) (by decide +kernel) hv 0 h0
    rw [e] at h6
    exact h6 (by decide +kernel)
  obtain ⟨p1, p2⟩ := not_pre ⟨f3, f4⟩
  have hne : s ≠ by8 "" := fun e => by rw [e, by8_nil] at h0; omega
  rw [part_last hs (.inl fun h => h.2.elim f1 f2) (fun h => h.2.elim f3 f4), lastO, exactO, h, ver_short h, accO, opn_no hs p1 p2]
  by_cases hx : exHigh v = by8 ""
  · simp [hx]
  · simp [hx, hne]
theorem par_acc (s : ByteArray) : ∃ l h ok, parRes s = .tup [bndV l h, .lit (.bool ok)] ∧ (if ok = true ∧ (l ≠ by8 "" ∧ h ≠ by8 "") then some (l, h) else none) = shortO s := by
  unfold parRes shortO
  have hq : ∀ a b c : Int, (verT ⟨a, b, c, [by8 "0"]⟩ ≠ by8 "") ↔ verOk ⟨a, b, c, []⟩ = true := fun a b c => by
    rw [← verOk_pre0]
    constructor
    · intro h
      cases ho : verOk ⟨a, b, c, [by8 "0"]⟩
      · exact absurd (verT_nil.2 ho) h
      · rfl
    · exact verT_ne
  obtain ⟨w, hw⟩ : ∃ w, spl 46 s = w := ⟨_, rfl⟩
  rw [hw]
  rcases w with _ | ⟨a, _ | ⟨b, _ | ⟨c, r⟩⟩⟩
  · exact ⟨_, _, false, rfl, by simp⟩
  · simp only
    by_cases h : 0 ≤ readDec a
    · obtain ⟨n, hn, _, hd⟩ := dec_of h
      rw [if_pos h]
      refine ⟨_, _, true, rfl, ?_⟩
      have h1 : verT ⟨readDec a, 0, 0, []⟩ ≠ by8 "" := by rw [hd]; exact verT_ne (verOk_nums (b := 0) (c := 0) hn (by omega) (by omega))
      by_cases h2 : verOk ⟨readDec a + 1, 0, 0, []⟩ = true
      · rw [if_pos ⟨rfl, h1, (hq _ _ _).2 h2⟩, if_pos ⟨h, h2⟩]
      · rw [if_neg fun h3 => h2 ((hq _ _ _).1 h3.2.2), if_neg fun h3 => h2 h3.2]
    · rw [if_neg h, if_neg fun h3 => h h3.1]
      exact ⟨_, _, false, rfl, by simp⟩
  · simp only
    by_cases h : 0 ≤ readDec a ∧ 0 ≤ readDec b
    · obtain ⟨n, hn, _, hd⟩ := dec_of h.1
      obtain ⟨m, hm, _, hd2⟩ := dec_of h.2
      rw [if_pos h]
      refine ⟨_, _, true, rfl, ?_⟩
      have h1 : verT ⟨readDec a, readDec b, 0, []⟩ ≠ by8 "" := by rw [hd, hd2]; exact verT_ne (verOk_nums (c := 0) hn hm (by omega))
      by_cases h2 : verOk ⟨readDec a, readDec b + 1, 0, []⟩ = true
      · rw [if_pos ⟨rfl, h1, (hq _ _ _).2 h2⟩, if_pos ⟨h, h2⟩]
      · rw [if_neg fun h3 => h2 ((hq _ _ _).1 h3.2.2), if_neg fun h3 => h2 h3.2]
    · rw [if_neg h, if_neg fun h3 => h h3.1]
      exact ⟨_, _, false, rfl, by simp⟩
  · exact ⟨_, _, false, rfl, by simp⟩
section
variable {E : Env} (hE : E.P = Go.Proofs.Tryz.prog) (hZ : ∀ w, E.K w → KZ w)
include hE hZ
set_option maxHeartbeats 8000000 in
theorem readBound_ex (s : ByteArray) (hs : s.size ≤ 1073741823) : ∃ l h ok, Fx E 171 [] [.lit (.string s)] [] (.tup [bndV l h, .lit (.bool ok)]) ∧ accO s l h ok = partO s := by
  have go : ∀ {l h : ByteArray} {ok : Bool}, Xe E v171 ⟨enum 0 [.lit (.string s)], []⟩ (Fin [.b 2 true 2, .t 3] (.tup [bndV l h, .lit (.bool ok)]) []) .mk → Fx E 171 [] [.lit (.string s)] [] (.tup [bndV l h, .lit (.bool ok)]) := fun hx => (is171.to hE).fx [] (by simp) rfl rfl hx
  by_cases c0 : s = by8 "*"
  · refine ⟨by8 "", by8 "", true, go ?_, by rw [partO, if_pos c0, accO, opn]; simp [c0]⟩
    simp [v171, c0, okC, putElem, upd, fill]
    exact Fin_ret2 rfl rfl
  cases hr : readVer s with
  | some v =>
    refine ⟨s, exHigh v, true, go ?_, acc_ver hr⟩
    obtain ⟨ho, ht⟩ := ver_back hr
    simp [v171, c0, okC]
    refine vcall_go (implReadVer_fx hE hZ s (by omega)) (by simp) (by simp) (by simp) (by simp) ?_
    unfold verRes
    rw [hr]
    rcases apS_cases s with h | h
    all_goals
      simp [verSome, okC, putElem, upd, fill, h]
      refine vcall_go (implAlone_fx hE hZ v ho) (by simp [Ver.av, ro]) (by simp) (by simp) (by simp) ?_
      rw [ht]
      simp [bndV, okC, putElem, upd, fill]
      exact Fin_ret2 rfl rfl
  | none =>
    by_cases c1 : hasP s ge2 = true
    · obtain ⟨t, rfl⟩ := hasP_iff.1 c1
      have ht : trimP (ge2 ++ t) ge2 = t := by rw [trimP, if_pos c1, ext_app]
      have hz : (ge2 ++ t).size = 2 + t.size := by rw [ByteArray.size_append, ge2_size]
      have hx := part_sgn c0 (by omega) (.inl (ge_first (t := t)))
      have ho : opn (ge2 ++ t) = true := by simp [opn, c1]
      rcases index_cases t sl2 with ⟨hi, hn⟩ | ⟨i, hi, hle, he, hmin⟩
      · have hsg := sgn_cut_none hn
        refine ⟨t, by8 "", isVer t, go ?_, ?_⟩
        · simp [v171, c0, okC]
          refine vcall_go (implReadVer_fx hE hZ (ge2 ++ t) (by omega)) (by simp) (by simp) (by simp) (by simp) ?_
          unfold verRes
          rw [hr]
          simp [verNone, okC, putElem, upd, fill]
          refine vcall_go (cutPrefix_fx hE (ge2 ++ t) ge2) (by simp [ge2]) (by simp) (by simp) (by simp) ?_
          rw [ht, c1]
          simp
          refine vcall_go (cutS_fx hE hZ sl2 t (by omega)) (by simp [sl2]) (by simp) (by simp) (by simp) ?_
          rw [cutS, hi, if_neg (by omega)]
          simp [fill, okC, upd]
          refine vcall_go (isVersion_fx hE hZ t (by omega)) (by simp) (by simp) (by simp) (by simp) ?_
          cases hv : isVer t
          · simp [okC, putElem, upd, fill]
            exact Fin_ret2 rfl rfl
          · simp [okC, putElem, upd, fill]
            exact Fin_ret2 rfl rfl
        · rw [hx, hsg, accO, ho]
          cases isVer t <;> simp
      · obtain ⟨v, hv⟩ : ∃ v, t.extract 0 i = v := ⟨_, rfl⟩
        obtain ⟨w, hw⟩ : ∃ w, t.extract (i + sl2.size) t.size = w := ⟨_, rfl⟩
        have hvz : v.size ≤ t.size := by rw [← hv, ext_size]; omega
        have hwz : w.size ≤ t.size := by rw [← hw, ext_size]; omega
        have hvi : v.size = i := by rw [← hv, ext_size]; omega
        rw [hv, hw] at he
        have hsg := sgn_cut_some (v := v) (w := w) (fun a b e => by rw [← he] at e; rw [hvi]; exact hmin a b e)
        rw [← he] at hsg
        refine ⟨v, w, isVer v && isVer w, go ?_, ?_⟩
        · simp [v171, c0, okC]
          refine vcall_go (implReadVer_fx hE hZ (ge2 ++ t) (by omega)) (by simp) (by simp) (by simp) (by simp) ?_
          unfold verRes
          rw [hr]
          simp [verNone, okC, putElem, upd, fill]
          refine vcall_go (cutPrefix_fx hE (ge2 ++ t) ge2) (by simp [ge2]) (by simp) (by simp) (by simp) ?_
          rw [ht, c1]
          simp
          refine vcall_go (cutS_fx hE hZ sl2 t (by omega)) (by simp [sl2]) (by simp) (by simp) (by simp) ?_
          rw [cutS, hi, if_pos (by omega), Int.toNat_natCast, hv, hw]
          simp [fill, okC, upd]
          refine vcall_go (isVersion_fx hE hZ v (by omega)) (by simp) (by simp) (by simp) (by simp) ?_
          cases hv1 : isVer v
          · simp [okC, putElem, upd, fill]
            exact Fin_ret2 rfl rfl
          · simp [okC, putElem, upd, fill]
            refine vcall_go (isVersion_fx hE hZ w (by omega)) (by simp) (by simp) (by simp) (by simp) ?_
            cases hw1 : isVer w
            · simp [okC, putElem, upd, fill]
              exact Fin_ret2 rfl rfl
            · simp [okC, putElem, upd, fill]
              exact Fin_ret2 rfl rfl
        · rw [hx, hsg, accO, ho]
          cases isVer v <;> cases isVer w <;> simp
    · have c1 : hasP s ge2 = false := by simpa using c1
      have ht : trimP s ge2 = s := by rw [trimP, c1]; rfl
      by_cases c2 : hasP s lt1 = true
      · obtain ⟨t, rfl⟩ := hasP_iff.1 c2
        have ht2 : trimP (lt1 ++ t) lt1 = t := by rw [trimP, if_pos c2, ext_app]
        have hz : (lt1 ++ t).size = 1 + t.size := by rw [ByteArray.size_append]; rfl
        have hx := part_sgn c0 (by omega) (.inr (lt_first (t := t)))
        have ho : opn (lt1 ++ t) = true := by simp [opn, c2]
        refine ⟨by8 "", t, isVer t, go ?_, ?_⟩
        · simp [v171, c0, okC]
          refine vcall_go (implReadVer_fx hE hZ (lt1 ++ t) (by omega)) (by simp) (by simp) (by simp) (by simp) ?_
          unfold verRes
          rw [hr]
          simp [verNone, okC, putElem, upd, fill]
          refine vcall_go (cutPrefix_fx hE (lt1 ++ t) ge2) (by simp [ge2]) (by simp) (by simp) (by simp) ?_
          rw [ht, c1]
          simp
          refine vcall_go (cutPrefix_fx hE (lt1 ++ t) lt1) (by simp [lt1]) (by simp) (by simp) (by simp) ?_
          rw [ht2, c2]
          simp
          simp [fill, okC, upd]
          refine vcall_go (isVersion_fx hE hZ t (by omega)) (by simp) (by simp) (by simp) (by simp) ?_
          cases hv : isVer t
          · simp [okC, putElem, upd, fill]
            exact Fin_ret2 rfl rfl
          · simp [okC, putElem, upd, fill]
            exact Fin_ret2 rfl rfl
        · rw [hx, sgn_lt, accO, ho]
          cases isVer t <;> simp
      · have c2 : hasP s lt1 = false := by simpa using c2
        have ht2 : trimP s lt1 = s := by rw [trimP, c2]; rfl
        have ho := opn_no c0 c2 c1
        by_cases d : 0 < s.size ∧ (bt s 0 = 94 ∨ bt s 0 = 126)
        · have d0 := d.1
          have hx := part_car c0 d0 d.2
          have z : ¬ s = by8 "" := fun e => by rw [e, by8_nil] at d0; omega
          have ze : (s.extract 1 s.size).size = s.size - 1 := by rw [ext_size]; omega
          cases hv : readVer (s.extract 1 s.size) with
          | none =>
            have hc : carO s = none := by rw [carO, hv]
            rcases d.2 with e | e
            · refine ⟨s.extract 1 s.size, verT ⟨0, 0, 1, [by8 "0"]⟩, false, go ?_, by rw [hx, hc, accO]; simp⟩
              simp [v171, c0, okC]
              refine vcall_go (implReadVer_fx hE hZ s (by omega)) (by simp) (by simp) (by simp) (by simp) ?_
              unfold verRes
              rw [hr]
              simp [verNone, okC, putElem, upd, fill]
              refine vcall_go (cutPrefix_fx hE s ge2) (by simp [ge2]) (by simp) (by simp) (by simp) ?_
              rw [ht, c1]
              simp
              refine vcall_go (cutPrefix_fx hE s lt1) (by simp [lt1]) (by simp) (by simp) (by simp) ?_
              rw [ht2, c2]
              simp [z, d0, e]
              refine wh_l (l := 1) (k := .i64) rfl (by omega) (by omega) ?_
              simp
              refine vcall_go (implReadVer_fx hE hZ (s.extract 1 s.size) (by omega)) (by simp) (by simp) (by simp) (by simp) ?_
              unfold verRes
              rw [hv]
              simp [verNone, okC, putElem, upd, fill]
              rw [w64_1]
              refine vcall_go (zeroPre_fx hE hZ 0 1 0) (by simp) (by simp) (by simp) (by simp) ?_
              simp [d0, e]
              rw [w64_1]
              refine vcall_go (zeroPre_fx hE hZ 0 0 1) (by simp) (by simp) (by simp) (by simp) ?_
              simp
              refine wh_l (l := 1) (k := .i64) rfl (by omega) (by omega) ?_
              simp [bndV, okC, putElem, upd, fill]
              exact Fin_ret2 rfl rfl
            · refine ⟨s.extract 1 s.size, verT ⟨0, 1, 0, [by8 "0"]⟩, false, go ?_, by rw [hx, hc, accO]; simp⟩
              simp [v171, c0, okC]
              refine vcall_go (implReadVer_fx hE hZ s (by omega)) (by simp) (by simp) (by simp) (by simp) ?_
              unfold verRes
              rw [hr]
              simp [verNone, okC, putElem, upd, fill]
              refine vcall_go (cutPrefix_fx hE s ge2) (by simp [ge2]) (by simp) (by simp) (by simp) ?_
              rw [ht, c1]
              simp
              refine vcall_go (cutPrefix_fx hE s lt1) (by simp [lt1]) (by simp) (by simp) (by simp) ?_
              rw [ht2, c2]
              simp [z, d0, e]
              refine wh_l (l := 1) (k := .i64) rfl (by omega) (by omega) ?_
              simp
              refine vcall_go (implReadVer_fx hE hZ (s.extract 1 s.size) (by omega)) (by simp) (by simp) (by simp) (by simp) ?_
              unfold verRes
              rw [hv]
              simp [verNone, okC, putElem, upd, fill]
              rw [w64_1]
              refine vcall_go (zeroPre_fx hE hZ 0 1 0) (by simp) (by simp) (by simp) (by simp) ?_
              simp [d0, e]
              refine wh_l (l := 1) (k := .i64) rfl (by omega) (by omega) ?_
              simp [bndV, okC, putElem, upd, fill]
              exact Fin_ret2 rfl rfl
          | some v =>
            have hvi := isVer_of hv
            obtain ⟨hvo, hvt⟩ := ver_back hv
            obtain ⟨⟨a, e1, k1⟩, ⟨b, e2, k2⟩, ⟨c, e3, k3⟩, _, _⟩ := verOk_b hvo
            obtain ⟨maj, min, pat, vp⟩ := v
            simp only at e1 e2 e3
            subst e1 e2 e3
            have key : ∀ x y w : Int, nextV ⟨a, b, c, vp⟩ (carP s ⟨a, b, c, vp⟩) = ⟨x, y, w, []⟩ → accO s (s.extract 1 s.size) (verT ⟨x, y, w, [by8 "0"]⟩) true = partO s := fun x y w hN => by
              have hne : s.extract 1 s.size ≠ by8 "" := fun e => by rw [e, isVer_nil] at hvi; cases hvi
              rw [hx, carO, hv]
              simp only [hN]
              rw [accO, ho]
              by_cases h2 : verOk ⟨x, y, w, []⟩ = true
              · have h3 : verT ⟨x, y, w, [by8 "0"]⟩ ≠ by8 "" := verT_ne (by rw [verOk_pre0]; exact h2)
                rw [if_pos h2, if_pos ⟨rfl, .inr ⟨hne, h3⟩⟩]
              · have h3 : verT ⟨x, y, w, [by8 "0"]⟩ = by8 "" := verT_nil.2 (by rw [verOk_pre0]; simpa using h2)
                rw [if_neg h2, h3]; simp
            rcases d.2 with e | e
            · have hp : carP s ⟨a, b, c, vp⟩ = careV ⟨a, b, c, vp⟩ := by rw [carP, if_neg (by rw [e]; decide)]
              by_cases m0 : 0 < a
              · have m0' : (0 : Int) < a := by omega
                refine ⟨s.extract 1 s.size, verT ⟨(a : Int) + 1, 0, 0, [by8 "0"]⟩, true, go ?_, key _ _ _ (by rw [hp, careV, if_pos m0']; rfl)⟩
                simp [v171, c0, okC]
                refine vcall_go (implReadVer_fx hE hZ s (by omega)) (by simp) (by simp) (by simp) (by simp) ?_
                unfold verRes
                rw [hr]
                simp [verNone, okC, putElem, upd, fill]
                refine vcall_go (cutPrefix_fx hE s ge2) (by simp [ge2]) (by simp) (by simp) (by simp) ?_
                rw [ht, c1]
                simp
                refine vcall_go (cutPrefix_fx hE s lt1) (by simp [lt1]) (by simp) (by simp) (by simp) ?_
                rw [ht2, c2]
                simp [z, d0, e]
                refine wh_l (l := 1) (k := .i64) rfl (by omega) (by omega) ?_
                simp
                refine vcall_go (implReadVer_fx hE hZ (s.extract 1 s.size) (by omega)) (by simp) (by simp) (by simp) (by simp) ?_
                unfold verRes
                rw [hv]
                rcases apS_cases (s.extract 1 s.size) with ha | ha
                all_goals
                  simp [verSome, okC, putElem, upd, fill, ha]
                  rw [wrap_i64 (i := (b : Int) + 1) (by omega) (by omega)]
                  refine vcall_go (zeroPre_fx hE hZ a (b + 1) 0) (by simp) (by simp) (by simp) (by simp) ?_
                  simp [d0, e, m0]
                  rw [wrap_i64 (i := (a : Int) + 1) (by omega) (by omega)]
                  refine vcall_go (zeroPre_fx hE hZ (a + 1) 0 0) (by simp) (by simp) (by simp) (by simp) ?_
                  simp
                  refine wh_l (l := 1) (k := .i64) rfl (by omega) (by omega) ?_
                  simp [bndV, okC, putElem, upd, fill]
                  exact Fin_ret2 rfl rfl
              · have m0' : ¬ (0 : Int) < a := by omega
                by_cases m1 : b = 0
                · refine ⟨s.extract 1 s.size, verT ⟨0, 0, (c : Int) + 1, [by8 "0"]⟩, true, go ?_, key _ _ _ (by rw [hp, careV, if_neg m0', if_neg (by simp [m1]), show a = 0 by omega, m1]; rfl)⟩
                  simp [v171, c0, okC]
                  refine vcall_go (implReadVer_fx hE hZ s (by omega)) (by simp) (by simp) (by simp) (by simp) ?_
                  unfold verRes
                  rw [hr]
                  simp [verNone, okC, putElem, upd, fill]
                  refine vcall_go (cutPrefix_fx hE s ge2) (by simp [ge2]) (by simp) (by simp) (by simp) ?_
                  rw [ht, c1]
                  simp
                  refine vcall_go (cutPrefix_fx hE s lt1) (by simp [lt1]) (by simp) (by simp) (by simp) ?_
                  rw [ht2, c2]
                  simp [z, d0, e]
                  refine wh_l (l := 1) (k := .i64) rfl (by omega) (by omega) ?_
                  simp
                  refine vcall_go (implReadVer_fx hE hZ (s.extract 1 s.size) (by omega)) (by simp) (by simp) (by simp) (by simp) ?_
                  unfold verRes
                  rw [hv]
                  rcases apS_cases (s.extract 1 s.size) with ha | ha
                  all_goals
                    simp [verSome, okC, putElem, upd, fill, ha]
                    rw [wrap_i64 (i := (b : Int) + 1) (by omega) (by omega)]
                    refine vcall_go (zeroPre_fx hE hZ a (b + 1) 0) (by simp) (by simp) (by simp) (by simp) ?_
                    simp [d0, e, m0, m1]
                    rw [wrap_i64 (i := (c : Int) + 1) (by omega) (by omega)]
                    refine vcall_go (zeroPre_fx hE hZ 0 0 (c + 1)) (by simp) (by simp) (by simp) (by simp) ?_
                    simp
                    refine wh_l (l := 1) (k := .i64) rfl (by omega) (by omega) ?_
                    simp [bndV, okC, putElem, upd, fill]
                    exact Fin_ret2 rfl rfl
                · have m1' : (0 : Int) < b := by omega
                  refine ⟨s.extract 1 s.size, verT ⟨a, (b : Int) + 1, 0, [by8 "0"]⟩, true, go ?_, key _ _ _ (by rw [hp, careV, if_neg m0', if_pos m1']; rfl)⟩
                  simp [v171, c0, okC]
                  refine vcall_go (implReadVer_fx hE hZ s (by omega)) (by simp) (by simp) (by simp) (by simp) ?_
                  unfold verRes
                  rw [hr]
                  simp [verNone, okC, putElem, upd, fill]
                  refine vcall_go (cutPrefix_fx hE s ge2) (by simp [ge2]) (by simp) (by simp) (by simp) ?_
                  rw [ht, c1]
                  simp
                  refine vcall_go (cutPrefix_fx hE s lt1) (by simp [lt1]) (by simp) (by simp) (by simp) ?_
                  rw [ht2, c2]
                  simp [z, d0, e]
                  refine wh_l (l := 1) (k := .i64) rfl (by omega) (by omega) ?_
                  simp
                  refine vcall_go (implReadVer_fx hE hZ (s.extract 1 s.size) (by omega)) (by simp) (by simp) (by simp) (by simp) ?_
                  unfold verRes
                  rw [hv]
                  rcases apS_cases (s.extract 1 s.size) with ha | ha
                  all_goals
                    simp [verSome, okC, putElem, upd, fill, ha]
                    rw [wrap_i64 (i := (b : Int) + 1) (by omega) (by omega)]
                    refine vcall_go (zeroPre_fx hE hZ a (b + 1) 0) (by simp) (by simp) (by simp) (by simp) ?_
                    simp [d0, e, m0, m1]
                    refine wh_l (l := 1) (k := .i64) rfl (by omega) (by omega) ?_
                    simp [bndV, okC, putElem, upd, fill]
                    exact Fin_ret2 rfl rfl
            · have hp : carP s ⟨a, b, c, vp⟩ = 1 := by rw [carP, if_pos e]
              refine ⟨s.extract 1 s.size, verT ⟨a, (b : Int) + 1, 0, [by8 "0"]⟩, true, go ?_, key _ _ _ (by rw [hp]; rfl)⟩
              simp [v171, c0, okC]
              refine vcall_go (implReadVer_fx hE hZ s (by omega)) (by simp) (by simp) (by simp) (by simp) ?_
              unfold verRes
              rw [hr]
              simp [verNone, okC, putElem, upd, fill]
              refine vcall_go (cutPrefix_fx hE s ge2) (by simp [ge2]) (by simp) (by simp) (by simp) ?_
              rw [ht, c1]
              simp
              refine vcall_go (cutPrefix_fx hE s lt1) (by simp [lt1]) (by simp) (by simp) (by simp) ?_
              rw [ht2, c2]
              simp [z, d0, e]
              refine wh_l (l := 1) (k := .i64) rfl (by omega) (by omega) ?_
              simp
              refine vcall_go (implReadVer_fx hE hZ (s.extract 1 s.size) (by omega)) (by simp) (by simp) (by simp) (by simp) ?_
              unfold verRes
              rw [hv]
              rcases apS_cases (s.extract 1 s.size) with ha | ha
              all_goals
                simp [verSome, okC, putElem, upd, fill, ha]
                rw [wrap_i64 (i := (b : Int) + 1) (by omega) (by omega)]
                refine vcall_go (zeroPre_fx hE hZ a (b + 1) 0) (by simp) (by simp) (by simp) (by simp) ?_
                simp [d0, e]
                refine wh_l (l := 1) (k := .i64) rfl (by omega) (by omega) ?_
                simp [bndV, okC, putElem, upd, fill]
                exact Fin_ret2 rfl rfl
        · obtain ⟨l, h, ok, hp, hacc⟩ := par_acc s
          have hpf := partial_fx hE hZ s (by omega)
          rw [hp] at hpf
          refine ⟨l, h, ok, go ?_, ?_⟩
          · simp [v171, c0, okC]
            refine vcall_go (implReadVer_fx hE hZ s (by omega)) (by simp) (by simp) (by simp) (by simp) ?_
            unfold verRes
            rw [hr]
            simp [verNone, okC, putElem, upd, fill]
            refine vcall_go (cutPrefix_fx hE s ge2) (by simp [ge2]) (by simp) (by simp) (by simp) ?_
            rw [ht, c1]
            simp
            refine vcall_go (cutPrefix_fx hE s lt1) (by simp [lt1]) (by simp) (by simp) (by simp) ?_
            rw [ht2, c2]
            simp
            by_cases z : s = by8 ""
            · rw [z] at hpf
              simp [z]
              refine vcall_go hpf (by simp) (by simp) (by simp) (by simp) ?_
              simp [bndV, okC, putElem, upd, fill]
              exact Fin_ret2 rfl rfl
            · have z0 : 0 < s.size := by
                rcases Nat.eq_zero_or_pos s.size with h0 | h0
                · exact absurd (size_nil h0) z
                · exact h0
              have d1 : ¬ ((bt s 0).toNat : Int) = 94 := fun e => d ⟨z0, .inl (u8_eq.1 (e.trans rfl))⟩
              have d2 : ¬ ((bt s 0).toNat : Int) = 126 := fun e => d ⟨z0, .inr (u8_eq.1 (e.trans rfl))⟩
              simp [z, z0, d1, d2]
              refine vcall_go hpf (by simp) (by simp) (by simp) (by simp) ?_
              simp [bndV, okC, putElem, upd, fill]
              exact Fin_ret2 rfl rfl
          · have h1 : accO s l h ok = shortO s := by rw [← hacc, accO, ho]; simp
            rw [h1]
            by_cases e : 0 < s.size ∧ (bt s 0 = 62 ∨ bt s 0 = 60)
            · have h2 : sgnO s = none := sgn_else c1 c2
              have h3 : shortO s = none := by
                rcases e.2 with e2 | e2
                · exact (first_no (c := 62) (by decide) (by decide) (by decide) (by decide +kernel) e.1 e2).2
                · exact (first_no (c := 60) (by decide) (by decide) (by decide) (by decide +kernel) e.1 e2).2
              rw [part_sgn c0 e.1 e.2, h2, h3]
            · rw [part_last c0 (.inl d) e, lastO, exact_no hr]
end
end Go.Proofs.YtgegcfhifojjiaaGreatDoor.Vm
