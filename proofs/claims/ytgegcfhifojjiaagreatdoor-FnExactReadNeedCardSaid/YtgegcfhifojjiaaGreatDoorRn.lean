/- Needs, read: both sides. -/
import Derived.Test.YtgegcfhifojjiaaGreatDoorRk
namespace Go.Proofs.YtgegcfhifojjiaaGreatDoor.Vm
open Go Go.RowKit
set_option linter.unusedVariables false
set_option linter.unusedSimpArgs false
def v50 : VC := .seq (.reg false [⟨some 1, .box 2 (.t 0), none⟩, ⟨some 2, .as (.c (.lit (.bool false))), none⟩] [2]) (.seq (.reg false [⟨some 6, .fa 1 (.t 1), none⟩, ⟨some 7, .ld false 1 (.t 6), none⟩, ⟨some 8, .call false 122 [(.t 7)], none⟩, ⟨some 5, .mv (.t 8), none⟩, ⟨some 9, .ext (.t 5) 0, none⟩, ⟨some 10, .ext (.t 5) 1, none⟩, ⟨some 3, .as (.t 9), none⟩, ⟨some 4, .as (.t 10), none⟩] [6, 7, 8, 5, 9, 10, 3]) (.seq (.reg false [⟨some 11, .fa 0 (.t 1), none⟩, ⟨some 12, .ld false 1 (.t 11), none⟩, ⟨some 13, .call false 41 [(.t 12)], none⟩, ⟨some 14, .mv (.t 13), none⟩, ⟨some 15, .mv (.t 4), (some (14, true))⟩, ⟨some 16, .pick (.t 14) (.t 15) (.c (.lit (.bool false))), none⟩, ⟨some 2, .as (.t 16), none⟩] [11, 12, 13, 14, 15, 16]) (.ret)))
theorem is50 : Is Go.Proofs.Tryz.prog 50 17 v50 [.t 2] := ⟨Go.Proofs.Tryz.f50, dl [(0, [2]), (1, [6, 7, 8, 5, 9, 10, 3]), (2, [11, 12, 13, 14, 15, 16])], Go.Proofs.Tryz.func50, by kernel_rfl, by kernel_rfl, by kernel_rfl, by kernel_rfl⟩
def v13 : VC := .seq (.reg false [⟨some 2, .alloc (.agg [(.lit (.string (by8 ""))), (.lit (.string (by8 "")))]), none⟩, ⟨some 3, .as (.c (.lit (.bool false))), none⟩] [3]) (.seq (.seq (.reg false [⟨some 4, .as (.c (.lit (.int .i64 1))), none⟩] []) (.block 0 (.loop (.seq (.seq (.reg false [⟨some 6, .mv (.t 4), none⟩, ⟨some 7, .mv (.t 0), none⟩, ⟨some 8, .len true (.t 7), none⟩, ⟨some 9, .bin .lss 0 (.t 6) (.t 8), none⟩] [6, 7, 8]) (.cond (.t 9) (.skip) (.exit 0))) (.seq (.block 1 (.seq (.reg true [⟨some 12, .mv (.t 0), none⟩, ⟨some 13, .mv (.t 4), none⟩, ⟨some 14, .slS (.t 12) none (some (.t 13)), none⟩, ⟨some 15, .mv (.t 0), none⟩, ⟨some 16, .mv (.t 4), none⟩, ⟨some 17, .bin .add 0 (.t 16) (.c (.lit (.int .i64 1))), none⟩, ⟨some 18, .slS (.t 15) (some (.t 17)) none, none⟩, ⟨some 19, .bld [(.lit (.string (by8 ""))), (.lit (.string (by8 "")))] [(0, 1, (.t 14)), (1, 1, (.t 18))], none⟩, ⟨some 5, .alloc (.agg [(.lit (.string (by8 ""))), (.lit (.string (by8 "")))]), none⟩, ⟨none, .st 2 (.t 5) (.t 19), none⟩] [12, 13, 14, 15, 16, 17, 18, 19]) (.seq (.reg false [⟨some 20, .mv (.t 0), none⟩, ⟨some 21, .mv (.t 4), none⟩, ⟨some 22, .idx (.t 20) (.t 21), none⟩, ⟨some 23, .bin .eql 0 (.t 22) (.c (.lit (.int .u8 64))), none⟩, ⟨some 24, .mv (.t 23), none⟩, ⟨some 25, .ld true 2 (.t 5), (some (24, true))⟩, ⟨some 26, .call false 50 [(.t 25)], (some (24, true))⟩, ⟨some 27, .pick (.t 24) (.t 26) (.c (.lit (.bool false))), none⟩] [20, 21, 22, 23, 24, 25, 26]) (.cond (.t 27) (.seq (.reg false [⟨some 28, .ld true 2 (.t 5), none⟩, ⟨none, .st 2 (.t 2) (.t 28), none⟩, ⟨some 3, .as (.c (.lit (.bool true))), none⟩] [28]) (.ret)) (.skip))))) (.reg false [⟨some 10, .mv (.t 4), none⟩, ⟨some 11, .bin .add 0 (.t 10) (.c (.lit (.int .i64 1))), none⟩, ⟨some 4, .as (.t 11), none⟩] [10, 11])))))) (.seq (.reg false [⟨some 29, .bld [(.lit (.string (by8 ""))), (.lit (.string (by8 "")))] [], none⟩, ⟨none, .st 2 (.t 2) (.t 29), none⟩, ⟨some 3, .as (.c (.lit (.bool false))), none⟩] [29]) (.ret)))
theorem is13 : Is Go.Proofs.Tryz.prog 13 30 v13 [.b 2 true 2, .t 3] := ⟨Go.Proofs.Tryz.f13, dl [(0, [3]), (2, [6, 7, 8]), (4, [12, 13, 14, 15, 16, 17, 18, 19]), (5, [20, 21, 22, 23, 24, 25, 26]), (6, [28]), (3, [10, 11]), (7, [29])], Go.Proofs.Tryz.func13, by kernel_rfl, by kernel_rfl, by kernel_rfl, by kernel_rfl⟩
def v52 : VC := .seq (.reg false [⟨some 1, .box 2 (.t 0), none⟩, ⟨some 2, .as (.c (.lit (.bool false))), none⟩] [2]) (.seq (.reg false [⟨some 6, .fa 1 (.t 1), none⟩, ⟨some 7, .ld false 1 (.t 6), none⟩, ⟨some 8, .call false 124 [(.t 7)], none⟩, ⟨some 5, .mv (.t 8), none⟩, ⟨some 9, .ext (.t 5) 0, none⟩, ⟨some 10, .ext (.t 5) 1, none⟩, ⟨some 3, .as (.t 9), none⟩, ⟨some 4, .as (.t 10), none⟩] [6, 7, 8, 5, 9, 10, 3]) (.seq (.reg false [⟨some 11, .mv (.t 4), none⟩, ⟨some 12, .mv (.t 11), none⟩, ⟨some 13, .fa 0 (.t 1), (some (12, true))⟩, ⟨some 14, .ld false 1 (.t 13), (some (12, true))⟩, ⟨some 15, .call false 45 [(.t 14)], (some (12, true))⟩, ⟨some 16, .pick (.t 12) (.t 15) (.c (.lit (.bool false))), none⟩, ⟨some 2, .as (.t 16), none⟩] [11, 12, 13, 14, 15, 16]) (.ret)))
theorem is52 : Is Go.Proofs.Tryz.prog 52 17 v52 [.t 2] := ⟨Go.Proofs.Tryz.f52, dl [(0, [2]), (1, [6, 7, 8, 5, 9, 10, 3]), (2, [11, 12, 13, 14, 15, 16])], Go.Proofs.Tryz.func52, by kernel_rfl, by kernel_rfl, by kernel_rfl, by kernel_rfl⟩
def v53 : VC := .seq (.reg false [⟨some 1, .box 2 (.t 0), none⟩, ⟨some 2, .as (.c (.lit (.string (by8 "")))), none⟩] [2]) (.seq (.reg false [⟨some 3, .fa 0 (.t 1), none⟩, ⟨some 4, .ld false 1 (.t 3), none⟩, ⟨some 5, .bin .add 0 (.t 4) (.c (.lit (.string (by8 "@")))), none⟩, ⟨some 6, .fa 1 (.t 1), none⟩, ⟨some 7, .ld false 1 (.t 6), none⟩, ⟨some 8, .bin .add 0 (.t 5) (.t 7), none⟩, ⟨some 2, .as (.t 8), none⟩] [3, 4, 5, 6, 7, 8]) (.ret))
theorem is53 : Is Go.Proofs.Tryz.prog 53 9 v53 [.t 2] := ⟨Go.Proofs.Tryz.f53, dl [(0, [2]), (1, [3, 4, 5, 6, 7, 8])], Go.Proofs.Tryz.func53, by kernel_rfl, by kernel_rfl, by kernel_rfl, by kernel_rfl⟩
def v14 : VC := .seq (.reg false [⟨some 2, .alloc (.agg [(.lit (.string (by8 ""))), (.lit (.string (by8 "")))]), none⟩, ⟨some 3, .as (.c (.lit (.bool false))), none⟩] [3]) (.seq (.reg false [⟨some 8, .mv (.t 0), none⟩, ⟨some 9, .call false 51 [(.t 8)], none⟩, ⟨some 7, .mv (.t 9), none⟩, ⟨some 10, .ext (.t 7) 0, none⟩, ⟨some 11, .ext (.t 7) 1, none⟩, ⟨some 4, .as (.t 10), none⟩, ⟨some 5, .as (.t 11), none⟩] [8, 9, 7, 10, 11]) (.seq (.reg false [⟨some 12, .mv (.t 4), none⟩, ⟨some 13, .mv (.t 5), none⟩, ⟨some 14, .bld [(.lit (.string (by8 ""))), (.lit (.string (by8 "")))] [(0, 1, (.t 12)), (1, 1, (.t 13))], none⟩, ⟨some 6, .alloc (.agg [(.lit (.string (by8 ""))), (.lit (.string (by8 "")))]), none⟩, ⟨none, .st 2 (.t 6) (.t 14), none⟩] [12, 13, 14]) (.seq (.seq (.reg false [⟨some 15, .ld true 2 (.t 6), none⟩, ⟨some 16, .call false 52 [(.t 15)], none⟩, ⟨some 17, .un .not (.t 16), none⟩, ⟨some 18, .mv (.t 17), none⟩, ⟨some 19, .ld true 2 (.t 6), (some (18, false))⟩, ⟨some 20, .call false 53 [(.t 19)], (some (18, false))⟩, ⟨some 21, .mv (.t 0), (some (18, false))⟩, ⟨some 22, .bin .neq 0 (.t 20) (.t 21), (some (18, false))⟩, ⟨some 23, .pick (.t 18) (.c (.lit (.bool true))) (.t 22), none⟩] [15, 16, 17, 18, 19, 20, 21, 22]) (.cond (.t 23) (.seq (.reg false [⟨some 24, .bld [(.lit (.string (by8 ""))), (.lit (.string (by8 "")))] [], none⟩, ⟨none, .st 2 (.t 2) (.t 24), none⟩, ⟨some 3, .as (.c (.lit (.bool false))), none⟩] [24]) (.ret)) (.skip))) (.seq (.reg false [⟨some 25, .ld true 2 (.t 6), none⟩, ⟨none, .st 2 (.t 2) (.t 25), none⟩, ⟨some 3, .as (.c (.lit (.bool true))), none⟩] [25]) (.ret)))))
theorem is14 : Is Go.Proofs.Tryz.prog 14 26 v14 [.b 2 true 2, .t 3] := ⟨Go.Proofs.Tryz.f14, dl [(0, [3]), (1, [8, 9, 7, 10, 11]), (2, [12, 13, 14]), (3, [15, 16, 17, 18, 19, 20, 21, 22]), (4, [24]), (5, [25])], Go.Proofs.Tryz.func14, by kernel_rfl, by kernel_rfl, by kernel_rfl, by kernel_rfl⟩
noncomputable def needOk (a b : ByteArray) : Bool := nameOk a && (rngO b).isSome
noncomputable def needO (s : ByteArray) : Option (ByteArray × ByteArray) := if needOk (keyA s) (keyB s) = true then some (keyA s, keyB s) else none
theorem name_nil : nameOk (by8 "") = false := by decide +kernel
theorem need_nil (b : ByteArray) : needOk (by8 "") b = false := by rw [needOk, name_nil]; rfl
theorem need_at {s : ByteArray} {i : Nat} (hi : i < s.size) (hb : bt s i = 64) (h : needOk (s.extract 0 i) (s.extract (i + 1) s.size) = true) : needO s = some (s.extract 0 i, s.extract (i + 1) s.size) := by
  have hf : free 64 (s.extract (i + 1) s.size) := by
    rw [needOk, Bool.and_eq_true] at h
    obtain ⟨out, ho⟩ := Option.isSome_iff_exists.1 h.2
    exact rng_free ho
  have hl : lastC 64 s = i := lastC_hit hi hb fun j h1 h2 e => by
    have := hf (j - (i + 1)) (by rw [ext_size]; omega)
    rw [bt_ext (by omega), show i + 1 + (j - (i + 1)) = j by omega] at this
    exact this e
  have ha : keyA s = s.extract 0 i := by rw [keyA, hl, if_neg (by omega), Int.toNat_natCast]
  have hk : keyB s = s.extract (i + 1) s.size := by rw [keyB, hl, if_neg (by omega), Int.toNat_natCast]
  rw [needO, ha, hk, if_pos h]
theorem need_out {s : ByteArray} (h : ∀ j, 1 ≤ j → j < s.size → bt s j = 64 → needOk (s.extract 0 j) (s.extract (j + 1) s.size) = false) : needO s = none := by
  rcases lastC_cases 64 s with ⟨e, _⟩ | ⟨k, hk, hb, _, e⟩
  · have ha : keyA s = by8 "" := by rw [keyA, e, if_pos (by omega)]
    rw [needO, ha, need_nil]; rfl
  · have ha : keyA s = s.extract 0 k := by rw [keyA, e, if_neg (by omega), Int.toNat_natCast]
    have hkb : keyB s = s.extract (k + 1) s.size := by rw [keyB, e, if_neg (by omega), Int.toNat_natCast]
    rw [needO, ha, hkb]
    rcases Nat.eq_zero_or_pos k with rfl | h1
    · rw [show s.extract 0 0 = by8 "" from size_nil (by rw [ext_size]; omega), need_nil]; rfl
    · rw [h k h1 hk hb]; rfl
theorem key_join {s : ByteArray} (h : needOk (keyA s) (keyB s) = true) : keyA s ++ by8 "@" ++ keyB s = s := by
  rcases lastC_cases 64 s with ⟨e, _⟩ | ⟨k, hk, hb, _, e⟩
  · have ha : keyA s = by8 "" := by rw [keyA, e, if_pos (by omega)]
    rw [ha, need_nil] at h; cases h
  · have ha : keyA s = s.extract 0 k := by rw [keyA, e, if_neg (by omega), Int.toNat_natCast]
    have hkb : keyB s = s.extract (k + 1) s.size := by rw [keyB, e, if_neg (by omega), Int.toNat_natCast]
    have := ext_cut hk
    rw [hb] at this
    rw [ha, hkb]
    exact this
section
variable {E : Env} (hE : E.P = Go.Proofs.Tryz.prog) (hZ : ∀ w, E.K w → KZ w)
include hE
theorem specNeed_fx (a b : ByteArray) (ha : a.size ≤ 1073741823) (hb : b.size ≤ 1073741823) : Fx E 50 [] [bndV a b] [] (.lit (.bool (needOk a b))) := by
  refine (is50.to hE).fx [] (by simp [bndV]) rfl rfl ?_
  simp [v50, bndV, okC]
  refine vcall_go (specRange_fx hE b hb) (by simp) (by simp) (by simp) (by simp) ?_
  unfold rngRes
  cases hr : rngO b with
  | none =>
    simp
    refine vcall_go (specName_fx hE a (by omega)) (by simp) (by simp) (by simp) (by simp) ?_
    cases hn : nameOk a
    · simp
      exact Fin_ret rfl (by rw [needOk, hn]; rfl)
    · simp
      exact Fin_ret rfl (by rw [needOk, hn, hr]; rfl)
  | some l =>
    simp
    refine vcall_go (specName_fx hE a (by omega)) (by simp) (by simp) (by simp) (by simp) ?_
    cases hn : nameOk a
    · simp
      exact Fin_ret rfl (by rw [needOk, hn]; rfl)
    · simp
      exact Fin_ret rfl (by rw [needOk, hn, hr]; rfl)
set_option maxHeartbeats 4000000 in
theorem specReadNeed_fx (s : ByteArray) (hs : s.size ≤ 1073741823) : Fx E 13 [] [.lit (.string s)] [] (bndR (needO s)) := by
  refine (is13.to hE).fx [] (by simp) rfl (bndR_ok _) ?_
  simp [v13, okC]
  refine X_loop (τ := Nat) (fun i => ⟨[(0, .lit (.string s)), (2, .ptr 1002 0 0), (4, .lit (.int .i64 i))], [(1002, [bndV (by8 "") (by8 "")])]⟩) (fun i => 1 ≤ i ∧ (i ≤ s.size ∨ i = 1) ∧ ∀ j, 1 ≤ j → j < i → j < s.size → bt s j = 64 → needOk (s.extract 0 j) (s.extract (j + 1) s.size) = false) (fun i => s.size - i) 1 ⟨by omega, .inr rfl, fun j h1 h2 => by omega⟩ (Wk.both (by simp [wkL, wkV.same]) (by simp [wkB, bndV])) ?_
  rintro i ⟨h1, hi, hall⟩
  simp
  by_cases hlt : i < s.size
  · have nxt : (bt s i = 64 → needOk (s.extract 0 i) (s.extract (i + 1) s.size) = false) → ∀ j, 1 ≤ j → j < i + 1 → j < s.size → bt s j = 64 → needOk (s.extract 0 j) (s.extract (j + 1) s.size) = false := fun h j g1 g2 g3 g4 => by
      rcases Nat.lt_succ_iff_lt_or_eq.1 g2 with g | rfl
      · exact hall j g1 g g3 g4
      · exact h g4
    simp [hlt]
    refine wh_h (h := i) (k := .i64) rfl (by omega) (by omega) ?_
    simp
    rw [wrapN (by omega)]
    refine wh_l (l := (i + 1 : Nat)) (k := .i64) rfl (by omega) (by omega) ?_
    simp [okC, putElem, upd, fill, bndV]
    refine ⟨hlt, ?_⟩
    by_cases c : ((bt s i).toNat : Int) = 64
    · have c' : bt s i = 64 := u8_eq.1 (c.trans rfl)
      simp [c]
      refine vcall_go (specNeed_fx hE (s.extract 0 i) (s.extract (i + 1) s.size) (by rw [ext_size]; omega) (by rw [ext_size]; omega)) (by simp [bndV]) (by simp) (by simp) (by simp) ?_
      cases hk : needOk (s.extract 0 i) (s.extract (i + 1) s.size)
      · simp
        refine ⟨i + 1, ⟨by omega, .inl (by omega), nxt fun _ => hk⟩, by omega, Wk.both (by simp [wkL, wkV.same]; rw [wrapN (by omega)]; exact wkV.same _) (by simp [wkB, bndV])⟩
      · have hn := need_at hlt c' hk
        simp [okC, putElem, upd, fill]
        exact Fin_ret2 rfl (by rw [hn]; rfl)
    · have c' : ¬ bt s i = 64 := fun e => c (by rw [e]; rfl)
      simp [c]
      refine ⟨i + 1, ⟨by omega, .inl (by omega), nxt fun h => absurd h c'⟩, by omega, Wk.both (by simp [wkL, wkV.same]; rw [wrapN (by omega)]; exact wkV.same _) (by simp [wkB, bndV])⟩
  · simp [hlt, okC, putElem, upd, fill, bndV]
    have hn := need_out (s := s) fun j g1 g2 g3 => hall j g1 (by omega) g2 g3
    exact Fin_ret2 rfl (by rw [hn]; rfl)
include hZ in
theorem implNeed_fx (a b : ByteArray) (ha : a.size ≤ 1073741823) (hb : b.size ≤ 1073741823) : Fx E 52 [] [bndV a b] [] (.lit (.bool (needOk a b))) := by
  refine (is52.to hE).fx [] (by simp [bndV]) rfl rfl ?_
  simp [v52, bndV, okC]
  refine vcall_go (implRange_fx hE hZ b hb) (by simp) (by simp) (by simp) (by simp) ?_
  unfold rngRes
  cases hr : rngO b with
  | none =>
    simp
    exact Fin_ret rfl (by rw [needOk, hr]; simp [reC])
  | some l =>
    simp
    refine vcall_go (implName_fx hE hZ a (by omega)) (by simp) (by simp) (by simp) (by simp) ?_
    simp
    exact Fin_ret rfl (by rw [needOk, hr]; simp [reC])
theorem needText_fx (a b : ByteArray) (ha : a.size ≤ 1073741823) (hb : b.size ≤ 1073741823) : Fx E 53 [] [bndV a b] [] (.lit (.string (a ++ by8 "@" ++ b))) := by
  have e : (by8 "@").size = 1 := by decide +kernel
  refine (is53.to hE).fx [] (by simp [bndV]) rfl rfl ?_
  simp [v53, bndV, okC]
  refine ⟨by omega, by omega, ?_⟩
  exact Fin_ret rfl rfl
include hZ in
set_option maxHeartbeats 4000000 in
theorem implReadNeed_fx (s : ByteArray) (hs : s.size ≤ 1073741823) : Fx E 14 [] [.lit (.string s)] [] (bndR (needO s)) := by
  have za := keyA_size s
  have zb := keyB_size s
  refine (is14.to hE).fx [] (by simp) rfl (bndR_ok _) ?_
  simp [v14, okC]
  refine vcall_go (implSplit_fx hE s (by omega)) (by simp) (by simp) (by simp) (by simp) ?_
  unfold keyRes
  simp [okC, putElem, upd, fill]
  refine vcall_go (implNeed_fx hE hZ (keyA s) (keyB s) (by omega) (by omega)) (by simp [bndV]) (by simp) (by simp) (by simp) ?_
  cases hk : needOk (keyA s) (keyB s)
  · simp [okC, putElem, upd, fill]
    exact Fin_ret2 rfl (by rw [needO, hk]; rfl)
  · simp [okC, putElem, upd, fill]
    refine vcall_go (needText_fx hE (keyA s) (keyB s) (by omega) (by omega)) (by simp [bndV]) (by simp) (by simp) (by simp) ?_
    rw [key_join hk]
    simp [okC, putElem, upd, fill]
    exact Fin_ret2 rfl (by rw [needO, if_pos hk]; rfl)
end
end Go.Proofs.YtgegcfhifojjiaaGreatDoor.Vm
