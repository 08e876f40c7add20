/- The walks and laws of this claim: Rk2 Rm St0 Gd Gk B6 Bd Be Bf Ig Ih Il Im In Ip Mz Ez Us Vp. -/
import Derived.Test.YticockdhfglolaaGreatDoorProg
import Derived.Test.YticockdhfglolaaGreatDoorPa5
namespace Go.Proofs.YticockdhfglolaaGreatDoor.Vm
open Go Go.RowKit
set_option linter.unusedVariables false
set_option linter.unusedSimpArgs false
def v85 : VC := .seq (.reg false [⟨some 2, .as (.c (.sl ⟨.nl, true⟩ 1 [])), none⟩, ⟨some 3, .as (.c (.lit (.bool false))), none⟩] [2, 3]) (.seq (.seq (.reg false [⟨some 10, .mv (.t 0), none⟩, ⟨some 11, .len true (.t 10), none⟩, ⟨some 12, .bin .gtr 0 (.t 11) (.c (.lit (.int .i64 200))), none⟩] [10, 11]) (.cond (.t 12) (.seq (.reg false [⟨some 2, .as (.c (.sl ⟨.nl, true⟩ 1 [])), none⟩, ⟨some 3, .as (.c (.lit (.bool false))), none⟩] []) (.ret)) (.skip))) (.seq (.reg false [⟨some 13, .bsl 2 [], none⟩, ⟨some 4, .as (.t 13), none⟩] [13]) (.seq (.seq (.reg false [⟨some 14, .mv (.t 0), none⟩, ⟨some 15, .call false 138 [(.t 14), (.c (.lit (.string (by8 " || "))))], none⟩, ⟨some 16, .len false (.t 15), none⟩, ⟨some 17, .mv (.c (.lit (.int .i64 0))), none⟩] [14]) (.block 0 (.loop (.seq (.reg false [⟨some 18, .bin .lss 0 (.t 17) (.t 16), none⟩] []) (.seq (.cond (.t 18) (.skip) (.exit 0)) (.seq (.block 1 (.seq (.reg false [⟨some 19, .ia 1 (.t 15) (.t 17), none⟩, ⟨some 20, .ld false 1 (.t 19), none⟩, ⟨some 6, .as (.t 20), none⟩] [19, 20]) (.seq (.reg false [⟨some 22, .mv (.t 6), none⟩, ⟨some 23, .call false 139 [(.t 22)], none⟩, ⟨some 21, .mv (.t 23), none⟩, ⟨some 24, .ext (.t 21) 0, none⟩, ⟨some 25, .ext (.t 21) 1, none⟩, ⟨some 7, .alloc (.agg [(.lit (.string (by8 ""))), (.lit (.string (by8 "")))]), none⟩, ⟨none, .st 2 (.t 7) (.t 24), none⟩, ⟨some 8, .as (.t 25), none⟩] [22, 23, 21, 24, 25]) (.seq (.reg false [⟨some 26, .mv (.t 6), none⟩, ⟨some 27, .bin .eql 0 (.t 26) (.c (.lit (.string (by8 "*")))), none⟩, ⟨some 28, .mv (.t 27), none⟩, ⟨some 29, .mv (.t 6), (some (28, false))⟩, ⟨some 30, .call false 140 [(.t 29), (.c (.lit (.string (by8 "<"))))], (some (28, false))⟩, ⟨some 31, .pick (.t 28) (.c (.lit (.bool true))) (.t 30), none⟩, ⟨some 32, .mv (.t 31), none⟩, ⟨some 33, .mv (.t 6), (some (32, false))⟩, ⟨some 34, .call false 140 [(.t 33), (.c (.lit (.string (by8 ">="))))], (some (32, false))⟩, ⟨some 35, .pick (.t 32) (.c (.lit (.bool true))) (.t 34), none⟩, ⟨some 9, .as (.t 35), none⟩] [26, 27, 28, 29, 30, 31, 32, 33, 34, 35]) (.seq (.seq (.reg false [⟨some 36, .mv (.t 8), none⟩, ⟨some 37, .un .not (.t 36), none⟩, ⟨some 38, .mv (.t 37), none⟩, ⟨some 39, .mv (.t 9), (some (38, false))⟩, ⟨some 40, .un .not (.t 39), (some (38, false))⟩, ⟨some 41, .mv (.t 40), (some (38, false))⟩, ⟨some 42, .fa 0 (.t 7), (some (41, true))⟩, ⟨some 43, .ld false 1 (.t 42), (some (41, true))⟩, ⟨some 44, .bin .eql 0 (.t 43) (.c (.lit (.string (by8 "")))), (some (41, true))⟩, ⟨some 45, .mv (.t 44), (some (41, true))⟩, ⟨some 46, .fa 1 (.t 7), (some (45, false))⟩, ⟨some 47, .ld false 1 (.t 46), (some (45, false))⟩, ⟨some 48, .bin .eql 0 (.t 47) (.c (.lit (.string (by8 "")))), (some (45, false))⟩, ⟨some 49, .pick (.t 45) (.c (.lit (.bool true))) (.t 48), (some (41, true))⟩, ⟨some 50, .pick (.t 41) (.t 49) (.c (.lit (.bool false))), (some (38, false))⟩, ⟨some 51, .pick (.t 38) (.c (.lit (.bool true))) (.t 50), none⟩] [36, 37, 38, 39, 40, 41, 42, 43, 44, 45, 46, 47, 48, 49, 50]) (.cond (.t 51) (.seq (.reg false [⟨some 2, .as (.c (.sl ⟨.nl, true⟩ 1 [])), none⟩, ⟨some 3, .as (.c (.lit (.bool false))), none⟩] []) (.ret)) (.skip))) (.reg false [⟨some 52, .mv (.t 4), none⟩, ⟨some 53, .ld true 2 (.t 7), none⟩, ⟨some 54, .bsl 2 [(.t 53)], none⟩, ⟨some 55, .app 2 32 (.t 52) (.t 54), none⟩, ⟨some 4, .as (.t 55), none⟩] [52, 53, 54, 55])))))) (.reg false [⟨some 56, .bin .add 0 (.t 17) (.c (.lit (.int .i64 1))), none⟩, ⟨some 17, .mv (.t 56), none⟩] [56]))))))) (.seq (.seq (.reg false [⟨some 57, .mv (.t 4), none⟩, ⟨some 58, .call false 141 [(.t 57)], none⟩, ⟨some 59, .un .not (.t 58), none⟩] [57, 58]) (.cond (.t 59) (.seq (.reg false [⟨some 2, .as (.c (.sl ⟨.nl, true⟩ 1 [])), none⟩, ⟨some 3, .as (.c (.lit (.bool false))), none⟩] []) (.ret)) (.skip))) (.seq (.reg false [⟨some 60, .mv (.t 4), none⟩, ⟨some 2, .as (.t 60), none⟩, ⟨some 3, .as (.c (.lit (.bool true))), none⟩] [60]) (.ret))))))
theorem is85 : Is Go.Proofs.Tryz.prog 85 61 v85 [.t 2, .t 3] := ⟨Go.Proofs.Tryz.f85, dl [(0, [2, 3]), (1, [10, 11]), (3, [13]), (4, [14]), (6, [19, 20]), (7, [22, 23, 21, 24, 25]), (8, [26, 27, 28, 29, 30, 31, 32, 33, 34, 35]), (9, [36, 37, 38, 39, 40, 41, 42, 43, 44, 45, 46, 47, 48, 49, 50]), (11, [52, 53, 54, 55]), (12, [56]), (13, [57, 58]), (15, [60])], Go.Proofs.Tryz.func85, by kernel_rfl, by kernel_rfl, by kernel_rfl, by kernel_rfl⟩
theorem end_size {l : ByteArray} (h : l = by8 "" ∨ isVer l = true) : l.size ≤ 200 ∧ endOk l = true := by
  rcases h with rfl | h
  · exact ⟨by rw [by8_nil]; omega, end_nil⟩
  · refine ⟨?_, by simp [endOk, h]⟩
    unfold isVer at h
    obtain ⟨v, hv⟩ := Option.isSome_iff_exists.1 h
    rw [← (ver_back hv).2]
    exact verT_size v
theorem map_end {w : List ByteArray} {out : List (ByteArray × ByteArray)} (h : mapO w = some out) : ∀ b ∈ out, (b.1.size ≤ 200 ∧ endOk b.1 = true) ∧ b.2.size ≤ 200 ∧ endOk b.2 = true := fun b hb => by
  obtain ⟨p, _, hp⟩ := (mapO_mem h).2 b hb
  have := part_ok (l := b.1) (h := b.2) hp
  exact ⟨end_size this.low, end_size this.high⟩
theorem rngOk_of {out : List (ByteArray × ByteArray)} (h : ∀ b ∈ out, endOk b.1 = true ∧ endOk b.2 = true) : rngOk out = inR out.length 1 8 := by
  have : (List.range out.length).all (bndOk out) = true := by
    rw [List.all_eq_true]
    intro i hi
    have hi := List.mem_range.1 hi
    have := h _ (List.getElem_mem hi)
    unfold bndOk
    rw [show out.getD i (by8 "", by8 "") = out[i] by simp [List.getD, hi], this.1, this.2]; rfl
  rw [rngOk, this, Bool.true_and]
section
variable {E : Env} (hE : E.P = Go.Proofs.Tryz.prog) (hZ : ∀ w, E.K w → KZ w)
include hE hZ
set_option maxHeartbeats 8000000 in
theorem implRange_fx (s : ByteArray) (hs : s.size ≤ 1073741823) : Fx E 85 [] [.lit (.string s)] [] (rngRes s) := by
  refine (is85.to hE).fx [] (by simp) rfl (rngRes_ok _) ?_
  have hno : ∀ {b : Prop}, (rngO s = none) → rngRes s = .tup [.sl ⟨.no, true⟩ 2 [], .lit (.bool false)] := fun h => by rw [rngRes, h]
  simp [v85]
  by_cases c1 : (200 : Int) < s.size
  · have hn : rngO s = none := by rw [rngO, if_neg (by omega)]
    simp [c1]
    exact fin_nil2 (by decide) rfl rfl (hno (b := True) hn)
  simp [c1]
  refine vcall_go (split_fx hE hZ s barB (by omega) (by rw [barB_size]; omega)) (by simp [barB]) (by simp) (by simp) (by simp) ?_
  have hll := spB_len_le (sep := barB) (s := s) (by rw [barB_size]; omega)
  have hl1 := spB_len (sep := barB) (s := s) (by rw [barB_size]; omega)
  have hz : ∀ p ∈ spB barB s, p.size ≤ s.size := fun p hp => parts_size hp
  have hrg : rngO s = if s.size ≤ 200 ∧ (spB barB s).length ≤ 8 then mapO (spB barB s) else none := rfl
  obtain ⟨w, hw⟩ : ∃ w, spB barB s = w := ⟨_, rfl⟩
  rw [hw] at hll hz hrg hl1 ⊢
  simp
  refine X_loop (τ := Nat × List (ByteArray × ByteArray)) (fun p => ⟨[(0, .lit (.string s)), (4, .sl ⟨.cl 832, true⟩ 2 (p.2.map fun b => bndV b.1 b.2)), (15, .sl ⟨.no, true⟩ 1 (w.map fun x => .lit (.string x))), (16, .lit (.int .i64 w.length)), (17, .lit (.int .i64 p.1))], []⟩) (fun p => p.1 ≤ w.length ∧ mapO (w.take p.1) = some p.2) (fun p => w.length - p.1) (0, []) ⟨by omega, rfl⟩ (Wk.both (by simp [wkL, wkV.same, frA.frL]) trivial) ?_
  rintro ⟨i, out⟩ ⟨hi, hm⟩
  simp only at hi hm
  have hol := mapO_len hm
  rw [List.length_take] at hol
  simp
  by_cases hlt : i < w.length
  · have hpz := hz _ (List.getElem_mem hlt)
    obtain ⟨l, h, ok, hF, hacc⟩ := readBound_ex hE hZ w[i] (by omega)
    simp [hlt, mkF]
    refine vcall_go hF (by simp) (by simp) (by simp) (by simp) ?_
    simp [bndV, okC, putElem, upd, fill]
    by_cases p1 : w[i] = by8 "*"
    · have hop : opn w[i] = true := by simp [opn, p1]
      simp [p1]
      cases ok
      · have hp : partO w[i] = none := by rw [← hacc, accO]; simp
        simp [okC, putElem, upd, fill]
        exact fin_nil2 (by decide) rfl rfl (hno (b := True) (by rw [hrg]; split; exact mapO_none hlt hp; rfl))
      · have hp : partO w[i] = some (l, h) := by rw [← hacc, accO, hop]; simp
        simp [okC, putElem, upd, fill, frA, frA.frL, AS.dem, mapV, dem, dem.demL]
        refine ⟨by omega, i + 1, out ++ [(l, h)], ⟨by omega, mapO_next hlt hm hp⟩, by omega, Wk.both (by simp [wkL, wkV.same, bndV]; rw [wrapN (by omega)]; exact wkV.same _) (by simp [wkB])⟩
    simp [p1]
    refine vcall_go (hasPrefix_fx hE w[i] lt1) (by simp [lt1]) (by simp) (by simp) (by simp) ?_
    cases p2 : hasP w[i] lt1
    · simp
      refine vcall_go (hasPrefix_fx hE w[i] ge2) (by simp [ge2]) (by simp) (by simp) (by simp) ?_
      cases p3 : hasP w[i] ge2
      · have hop : opn w[i] = false := by simp [opn, p1, p2, p3]
        simp
        cases ok
        · have hp : partO w[i] = none := by rw [← hacc, accO]; simp
          simp [okC, putElem, upd, fill]
          exact fin_nil2 (by decide) rfl rfl (hno (b := True) (by rw [hrg]; split; exact mapO_none hlt hp; rfl))
        · by_cases z1 : l = by8 ""
          · have hp : partO w[i] = none := by rw [← hacc, accO, hop]; simp [z1]
            simp [z1, okC, putElem, upd, fill]
            exact fin_nil2 (by decide) rfl rfl (hno (b := True) (by rw [hrg]; split; exact mapO_none hlt hp; rfl))
          · by_cases z2 : h = by8 ""
            · have hp : partO w[i] = none := by rw [← hacc, accO, hop]; simp [z2]
              simp [z1, z2, okC, putElem, upd, fill]
              exact fin_nil2 (by decide) rfl rfl (hno (b := True) (by rw [hrg]; split; exact mapO_none hlt hp; rfl))
            · have hp : partO w[i] = some (l, h) := by rw [← hacc, accO, hop]; simp [z1, z2]
              simp [z1, z2, okC, putElem, upd, fill, frA, frA.frL, AS.dem, mapV, dem, dem.demL]
              refine ⟨by omega, i + 1, out ++ [(l, h)], ⟨by omega, mapO_next hlt hm hp⟩, by omega, Wk.both (by simp [wkL, wkV.same, bndV]; rw [wrapN (by omega)]; exact wkV.same _) (by simp [wkB])⟩
      · have hop : opn w[i] = true := by simp [opn, p3]
        simp
        cases ok
        · have hp : partO w[i] = none := by rw [← hacc, accO]; simp
          simp [okC, putElem, upd, fill]
          exact fin_nil2 (by decide) rfl rfl (hno (b := True) (by rw [hrg]; split; exact mapO_none hlt hp; rfl))
        · have hp : partO w[i] = some (l, h) := by rw [← hacc, accO, hop]; simp
          simp [okC, putElem, upd, fill, frA, frA.frL, AS.dem, mapV, dem, dem.demL]
          refine ⟨by omega, i + 1, out ++ [(l, h)], ⟨by omega, mapO_next hlt hm hp⟩, by omega, Wk.both (by simp [wkL, wkV.same, bndV]; rw [wrapN (by omega)]; exact wkV.same _) (by simp [wkB])⟩
    · have hop : opn w[i] = true := by simp [opn, p2]
      simp
      cases ok
      · have hp : partO w[i] = none := by rw [← hacc, accO]; simp
        simp [okC, putElem, upd, fill]
        exact fin_nil2 (by decide) rfl rfl (hno (b := True) (by rw [hrg]; split; exact mapO_none hlt hp; rfl))
      · have hp : partO w[i] = some (l, h) := by rw [← hacc, accO, hop]; simp
        simp [okC, putElem, upd, fill, frA, frA.frL, AS.dem, mapV, dem, dem.demL]
        refine ⟨by omega, i + 1, out ++ [(l, h)], ⟨by omega, mapO_next hlt hm hp⟩, by omega, Wk.both (by simp [wkL, wkV.same, bndV]; rw [wrapN (by omega)]; exact wkV.same _) (by simp [wkB])⟩
  · obtain rfl : i = w.length := by omega
    rw [List.take_length] at hm
    have he := map_end hm
    have hro := rngOk_of (out := out) fun b hb => ⟨(he b hb).1.2, (he b hb).2.2⟩
    simp
    refine vcall_go (implRngOk_fx hE hZ out (by omega) (fun b hb => by have := he b hb; omega)) (by simp [ro]) (by simp) (by simp) (by simp) ?_
    rw [hro]
    by_cases c2 : out.length ≤ 8
    · have hin : inR out.length 1 8 = true := by simp [inR]; omega
      rw [hin]
      simp
      exact fin_row2 (by decide) rfl rfl (by rw [rngRes, hrg, if_pos (by omega), hm])
    · have hin : inR out.length 1 8 = false := by simp [inR]; omega
      rw [hin]
      simp
      exact fin_nil2 (by decide) rfl rfl (hno (b := True) (by rw [hrg, if_neg (by omega)]))
end
end Go.Proofs.YticockdhfglolaaGreatDoor.Vm
namespace Go.Proofs.YticockdhfglolaaGreatDoor.Vm
open Go Go.RowKit
set_option linter.unusedVariables false
set_option linter.unusedSimpArgs false
def v79 : VC := .seq (.reg false [⟨some 1, .box 2 (.t 0), none⟩, ⟨some 2, .as (.c (.lit (.bool false))), none⟩] [2]) (.seq (.reg false [⟨some 6, .fa 1 (.t 1), none⟩, ⟨some 7, .ld false 1 (.t 6), none⟩, ⟨some 8, .call false 78 [(.t 7)], none⟩, ⟨some 5, .mv (.t 8), none⟩, ⟨some 9, .ext (.t 5) 0, none⟩, ⟨some 10, .ext (.t 5) 1, none⟩, ⟨some 3, .as (.t 9), none⟩, ⟨some 4, .as (.t 10), none⟩] [6, 7, 8, 5, 9, 10, 3]) (.seq (.reg false [⟨some 11, .fa 0 (.t 1), none⟩, ⟨some 12, .ld false 1 (.t 11), none⟩, ⟨some 13, .call false 112 [(.t 12)], none⟩, ⟨some 14, .mv (.t 13), none⟩, ⟨some 15, .mv (.t 4), (some (14, true))⟩, ⟨some 16, .pick (.t 14) (.t 15) (.c (.lit (.bool false))), none⟩, ⟨some 2, .as (.t 16), none⟩] [11, 12, 13, 14, 15, 16]) (.ret)))
theorem is79 : Is Go.Proofs.Tryz.prog 79 17 v79 [.t 2] := ⟨Go.Proofs.Tryz.f79, dl [(0, [2]), (1, [6, 7, 8, 5, 9, 10, 3]), (2, [11, 12, 13, 14, 15, 16])], Go.Proofs.Tryz.func79, by kernel_rfl, by kernel_rfl, by kernel_rfl, by kernel_rfl⟩
def v86 : VC := .seq (.reg false [⟨some 1, .box 2 (.t 0), none⟩, ⟨some 2, .as (.c (.lit (.bool false))), none⟩] [2]) (.seq (.reg false [⟨some 6, .fa 1 (.t 1), none⟩, ⟨some 7, .ld false 1 (.t 6), none⟩, ⟨some 8, .call false 85 [(.t 7)], none⟩, ⟨some 5, .mv (.t 8), none⟩, ⟨some 9, .ext (.t 5) 0, none⟩, ⟨some 10, .ext (.t 5) 1, none⟩, ⟨some 3, .as (.t 9), none⟩, ⟨some 4, .as (.t 10), none⟩] [6, 7, 8, 5, 9, 10, 3]) (.seq (.reg false [⟨some 11, .mv (.t 4), none⟩, ⟨some 12, .mv (.t 11), none⟩, ⟨some 13, .fa 0 (.t 1), (some (12, true))⟩, ⟨some 14, .ld false 1 (.t 13), (some (12, true))⟩, ⟨some 15, .call false 114 [(.t 14)], (some (12, true))⟩, ⟨some 16, .pick (.t 12) (.t 15) (.c (.lit (.bool false))), none⟩, ⟨some 2, .as (.t 16), none⟩] [11, 12, 13, 14, 15, 16]) (.ret)))
theorem is86 : Is Go.Proofs.Tryz.prog 86 17 v86 [.t 2] := ⟨Go.Proofs.Tryz.f86, dl [(0, [2]), (1, [6, 7, 8, 5, 9, 10, 3]), (2, [11, 12, 13, 14, 15, 16])], Go.Proofs.Tryz.func86, by kernel_rfl, by kernel_rfl, by kernel_rfl, by kernel_rfl⟩
def v49 : VC := .seq (.reg false [⟨some 1, .box 2 (.t 0), none⟩, ⟨some 2, .as (.c (.lit (.string (by8 "")))), none⟩] [2]) (.seq (.reg false [⟨some 3, .fa 0 (.t 1), none⟩, ⟨some 4, .ld false 1 (.t 3), none⟩, ⟨some 5, .bin .add 0 (.t 4) (.c (.lit (.string (by8 "@")))), none⟩, ⟨some 6, .fa 1 (.t 1), none⟩, ⟨some 7, .ld false 1 (.t 6), none⟩, ⟨some 8, .bin .add 0 (.t 5) (.t 7), none⟩, ⟨some 2, .as (.t 8), none⟩] [3, 4, 5, 6, 7, 8]) (.ret))
theorem is49 : Is Go.Proofs.Tryz.prog 49 9 v49 [.t 2] := ⟨Go.Proofs.Tryz.f49, dl [(0, [2]), (1, [3, 4, 5, 6, 7, 8])], Go.Proofs.Tryz.func49, by kernel_rfl, by kernel_rfl, by kernel_rfl, by kernel_rfl⟩
noncomputable def needOk (a b : ByteArray) : Bool := nameOk a && (rngO b).isSome
section
variable {E : Env} (hE : E.P = Go.Proofs.Tryz.prog) (hZ : ∀ w, E.K w → KZ w)
include hE
theorem specNeed_fx (a b : ByteArray) (ha : a.size ≤ 1073741823) (hb : b.size ≤ 1073741823) : Fx E 79 [] [bndV a b] [] (.lit (.bool (needOk a b))) := by
  refine (is79.to hE).fx [] (by simp [bndV]) rfl rfl ?_
  simp [v79, bndV, okC]
  refine vcall_go (specRange_fx hE b hb) (by simp) (by simp) (by simp) (by simp) ?_
  unfold rngRes
  cases hr : rngO b with
  | none =>
    simp
    refine vcall_go (specName_fx hE a (by omega)) (by simp) (by simp) (by simp) (by simp) ?_
    cases hn : nameOk a
    · simp
      exact Fin_ret rfl (by rw [needOk, hn]; rfl)
    · simp
      exact Fin_ret rfl (by rw [needOk, hn, hr]; rfl)
  | some l =>
    simp
    refine vcall_go (specName_fx hE a (by omega)) (by simp) (by simp) (by simp) (by simp) ?_
    cases hn : nameOk a
    · simp
      exact Fin_ret rfl (by rw [needOk, hn]; rfl)
    · simp
      exact Fin_ret rfl (by rw [needOk, hn, hr]; rfl)
include hZ in
theorem implNeed_fx (a b : ByteArray) (ha : a.size ≤ 1073741823) (hb : b.size ≤ 1073741823) : Fx E 86 [] [bndV a b] [] (.lit (.bool (needOk a b))) := by
  refine (is86.to hE).fx [] (by simp [bndV]) rfl rfl ?_
  simp [v86, bndV, okC]
  refine vcall_go (implRange_fx hE hZ b hb) (by simp) (by simp) (by simp) (by simp) ?_
  unfold rngRes
  cases hr : rngO b with
  | none =>
    simp
    exact Fin_ret rfl (by rw [needOk, hr]; simp [reC])
  | some l =>
    simp
    refine vcall_go (implName_fx hE hZ a (by omega)) (by simp) (by simp) (by simp) (by simp) ?_
    simp
    exact Fin_ret rfl (by rw [needOk, hr]; simp [reC])
theorem needText_fx (a b : ByteArray) (ha : a.size ≤ 1073741823) (hb : b.size ≤ 1073741823) : Fx E 49 [] [bndV a b] [] (.lit (.string (a ++ by8 "@" ++ b))) := by
  have e : (by8 "@").size = 1 := by decide +kernel
  refine (is49.to hE).fx [] (by simp [bndV]) rfl rfl ?_
  simp [v49, bndV, okC]
  refine ⟨by omega, by omega, ?_⟩
  exact Fin_ret rfl rfl
end
end Go.Proofs.YticockdhfglolaaGreatDoor.Vm
namespace Go.Proofs.YticockdhfglolaaGreatDoor.Vm
open Go Go.RowKit
set_option linter.unusedVariables false
set_option linter.unusedSimpArgs false
theorem szGo_bnd {α : Type} {f : α → Int → Int} (hf : ∀ x l, 0 ≤ l → f x l ≤ l) : ∀ {xs : List α} {l : Int}, 0 ≤ l → 0 ≤ szGo f xs l → ∀ x ∈ xs, ∃ m, 0 ≤ m ∧ m ≤ l ∧ 0 ≤ f x m
  | [], _, _, _, x, hx => by simp at hx
  | y :: xs, l, h0, h, x, hx => by
    simp only [szGo] at h
    split at h
    · omega
    · rename_i h1
      rcases List.mem_cons.1 hx with rfl | hx
      · exact ⟨l, h0, Int.le_refl l, by omega⟩
      · obtain ⟨m, m1, m2, m3⟩ := szGo_bnd hf (l := f y l) (by omega) h x hx
        have := hf y l h0
        exact ⟨m, m1, by omega, m3⟩
theorem szL_bnd {α : Type} {f : α → Int → Int} (hf : ∀ x l, 0 ≤ l → f x l ≤ l) {xs : List α} {l : Int} (h : 0 ≤ szL f xs l) : (xs.length : Int) ≤ l ∧ ∀ x ∈ xs, ∃ m, 0 ≤ m ∧ m ≤ l ∧ 0 ≤ f x m := by
  unfold szL at h
  split at h
  · omega
  · refine ⟨by omega, fun x hx => ?_⟩
    obtain ⟨m, m1, m2, m3⟩ := szGo_bnd hf (l := l - xs.length) (by omega) h x hx
    exact ⟨m, m1, by omega, m3⟩
theorem all2_same {α : Type} {p : α → α → Bool} (h : ∀ x, p x x = true) : ∀ (l : List α), all2 p l l = true
  | [] => rfl
  | a :: l => by simp [all2, h, all2_same h l]
def fidx {α : Type} (p : α → Bool) (l : List α) : Int := if l.findIdx p < l.length then (l.findIdx p : Nat) else -1
theorem fidx_found {α : Type} {p : α → Bool} {l : List α} {i : Nat} (h : i < l.length) (h1 : p l[i] = true) (h2 : ∀ (m : Nat) (g : α), m < i → l[m]? = some g → p g = false) : fidx p l = i := by
  have e : l.findIdx p = i := by
    rw [List.findIdx_eq h]
    exact ⟨h1, fun j hj => h2 j _ hj (List.getElem?_eq_getElem _)⟩
  unfold fidx
  rw [e, if_pos h]
theorem fidx_none {α : Type} {p : α → Bool} {l : List α} (h2 : ∀ (m : Nat) (g : α), l[m]? = some g → p g = false) : fidx p l = -1 := by
  have e : ¬ l.findIdx p < l.length := by
    rw [List.findIdx_lt_length]
    rintro ⟨x, hx, hp⟩
    obtain ⟨m, hm, rfl⟩ := List.getElem_of_mem hx
    rw [h2 m _ (List.getElem?_eq_getElem hm)] at hp; cases hp
  unfold fidx
  rw [if_neg e]
theorem fidx_has {α : Type} (p : α → Bool) (l : List α) : decide (0 ≤ fidx p l) = l.any p := by
  unfold fidx
  by_cases h : l.findIdx p < l.length
  · rw [if_pos h]
    have := List.findIdx_lt_length.1 h
    simp only [Int.natCast_nonneg, decide_true]
    exact (List.any_eq_true.2 (by obtain ⟨x, hx, hp⟩ := this; exact ⟨x, hx, hp⟩)).symm
  · rw [if_neg h]
    have h2 : ¬ ∃ x, x ∈ l ∧ p x = true := fun hh => h (List.findIdx_lt_length.2 (by obtain ⟨x, hx, hp⟩ := hh; exact ⟨x, hx, hp⟩))
    have : l.any p = false := by
      rw [List.any_eq_false]
      intro x hx hp
      exact h2 ⟨x, hx, hp⟩
    rw [this]; rfl
end Go.Proofs.YticockdhfglolaaGreatDoor.Vm
namespace Go.Proofs.YticockdhfglolaaGreatDoor.Vm
open Go Go.RowKit
set_option linter.unusedVariables false
set_option linter.unusedSimpArgs false
structure Sm where
  alg : ByteArray
  bytes : ByteArray
  deriving DecidableEq
structure Pk where
  name : ByteArray
  version : ByteArray
  source : ByteArray
  sums : List Sm
  dev : Bool
  needs : List ByteArray
  deriving DecidableEq
structure Gr where
  top : List ByteArray
  packs : List Pk
  deriving DecidableEq
def Sm.av (x : Sm) : List AV := [.lit (.string x.alg), .lit (.string x.bytes)]
theorem Sm.pl (x : Sm) : PlL x.av := by simp [Sm.av]
theorem Sm.len (x : Sm) : x.av.length = 2 := rfl
theorem Sm.ok (x : Sm) : x.av.all okC = true := rfl
@[simp] theorem Sm.noB (d : Nat) (x : Sm) : noB.noL d x.av = true := rfl
@[simp] theorem Sm.noC (d : Nat) (x : Sm) : noC.noL d x.av = true := rfl
def Pk.av (x : Pk) : List AV := [.lit (.string x.name), .lit (.string x.version), .lit (.string x.source), .sl ro 2 (x.sums.map fun x => .agg x.av), .lit (.bool x.dev), .sl ro 1 (x.needs.map fun x => .lit (.string x))]
theorem Pk.pl (x : Pk) : PlL x.av := by simp [Pk.av]
theorem Pk.len (x : Pk) : x.av.length = 6 := rfl
theorem Pk.ok (x : Pk) : x.av.all okC = true := rfl
@[simp] theorem Pk.noB (d : Nat) (x : Pk) : noB.noL d x.av = true := rfl
@[simp] theorem Pk.noC (d : Nat) (x : Pk) : noC.noL d x.av = true := rfl
def Gr.av (x : Gr) : List AV := [.sl ro 1 (x.top.map fun x => .lit (.string x)), .sl ro 6 (x.packs.map fun x => .agg x.av)]
theorem Gr.pl (x : Gr) : PlL x.av := by simp [Gr.av]
theorem Gr.len (x : Gr) : x.av.length = 2 := rfl
theorem Gr.ok (x : Gr) : x.av.all okC = true := rfl
@[simp] theorem Gr.noB (d : Nat) (x : Gr) : noB.noL d x.av = true := rfl
@[simp] theorem Gr.noC (d : Nat) (x : Gr) : noC.noL d x.av = true := rfl
def v59 : VC := .seq (.reg false [⟨some 1, .box 6 (.t 0), none⟩, ⟨some 2, .alloc (.agg [(.lit (.string (by8 ""))), (.lit (.string (by8 ""))), (.lit (.string (by8 ""))), (.sl ⟨.nl, true⟩ 1 []), (.lit (.bool false)), (.sl ⟨.nl, true⟩ 1 [])]), none⟩] []) (.seq (.reg false [⟨some 3, .alloc (.agg [(.lit (.string (by8 ""))), (.lit (.string (by8 ""))), (.lit (.string (by8 ""))), (.sl ⟨.nl, true⟩ 1 []), (.lit (.bool false)), (.sl ⟨.nl, true⟩ 1 [])]), none⟩] []) (.seq (.reg false [⟨some 4, .fa 0 (.t 1), none⟩, ⟨some 5, .ld false 1 (.t 4), none⟩, ⟨some 6, .fa 0 (.t 3), none⟩, ⟨none, .st 1 (.t 6) (.t 5), none⟩] [4, 5, 6]) (.seq (.reg false [⟨some 7, .fa 1 (.t 1), none⟩, ⟨some 8, .ld false 1 (.t 7), none⟩, ⟨some 9, .fa 1 (.t 3), none⟩, ⟨none, .st 1 (.t 9) (.t 8), none⟩] [7, 8, 9]) (.seq (.reg false [⟨some 10, .fa 2 (.t 1), none⟩, ⟨some 11, .ld false 1 (.t 10), none⟩, ⟨some 12, .fa 2 (.t 3), none⟩, ⟨none, .st 1 (.t 12) (.t 11), none⟩] [10, 11, 12]) (.seq (.reg false [⟨some 13, .fa 3 (.t 1), none⟩, ⟨some 14, .ld false 1 (.t 13), none⟩, ⟨some 15, .call false 106 [(.t 14)], none⟩, ⟨some 16, .fa 3 (.t 3), none⟩, ⟨none, .st 1 (.t 16) (.t 15), none⟩] [13, 14, 15, 16]) (.seq (.reg false [⟨some 17, .fa 4 (.t 1), none⟩, ⟨some 18, .ld false 1 (.t 17), none⟩, ⟨some 19, .fa 4 (.t 3), none⟩, ⟨none, .st 1 (.t 19) (.t 18), none⟩] [17, 18, 19]) (.seq (.reg false [⟨some 20, .fa 5 (.t 1), none⟩, ⟨some 21, .ld false 1 (.t 20), none⟩, ⟨some 22, .call false 18 [(.t 21)], none⟩, ⟨some 23, .fa 5 (.t 3), none⟩, ⟨none, .st 1 (.t 23) (.t 22), none⟩] [20, 21, 22, 23]) (.seq (.reg false [⟨some 24, .ld true 6 (.t 3), none⟩, ⟨none, .st 6 (.t 2) (.t 24), none⟩] [24]) (.ret)))))))))
def v7 : VC := .seq (.reg false [⟨some 2, .box 2 (.t 0), none⟩, ⟨some 4, .as (.c (.lit (.int .i64 0))), none⟩] [4]) (.seq (.reg false [⟨some 5, .fa 0 (.t 2), none⟩, ⟨some 6, .ld false 1 (.t 5), none⟩, ⟨some 7, .mv (.t 1), none⟩, ⟨some 8, .call false 16 [(.t 6), (.t 7)], none⟩, ⟨some 1, .as (.t 8), none⟩] [5, 6, 7, 8]) (.seq (.seq (.reg false [⟨some 9, .mv (.t 1), none⟩, ⟨some 10, .bin .lss 0 (.t 9) (.c (.lit (.int .i64 0))), none⟩] [9]) (.cond (.t 10) (.seq (.reg false [⟨some 4, .as (.c (.lit (.int .i64 (-1)))), none⟩] []) (.ret)) (.skip))) (.seq (.reg false [⟨some 11, .fa 1 (.t 2), none⟩, ⟨some 12, .ld false 1 (.t 11), none⟩, ⟨some 13, .mv (.t 1), none⟩, ⟨some 14, .call false 27 [(.t 12), (.t 13)], none⟩, ⟨some 1, .as (.t 14), none⟩] [11, 12, 13, 14]) (.seq (.seq (.reg false [⟨some 15, .mv (.t 1), none⟩, ⟨some 16, .bin .lss 0 (.t 15) (.c (.lit (.int .i64 0))), none⟩] [15]) (.cond (.t 16) (.seq (.reg false [⟨some 4, .as (.c (.lit (.int .i64 (-1)))), none⟩] []) (.ret)) (.skip))) (.seq (.reg false [⟨some 17, .mv (.t 1), none⟩, ⟨some 4, .as (.t 17), none⟩] [17]) (.ret))))))
def v9 : VC := .seq (.reg false [⟨some 1, .box 2 (.t 0), none⟩, ⟨some 2, .alloc (.agg [(.sl ⟨.nl, true⟩ 1 []), (.sl ⟨.nl, true⟩ 1 [])]), none⟩] []) (.seq (.reg false [⟨some 3, .alloc (.agg [(.sl ⟨.nl, true⟩ 1 []), (.sl ⟨.nl, true⟩ 1 [])]), none⟩] []) (.seq (.reg false [⟨some 4, .fa 0 (.t 1), none⟩, ⟨some 5, .ld false 1 (.t 4), none⟩, ⟨some 6, .call false 18 [(.t 5)], none⟩, ⟨some 7, .fa 0 (.t 3), none⟩, ⟨none, .st 1 (.t 7) (.t 6), none⟩] [4, 5, 6, 7]) (.seq (.reg false [⟨some 8, .fa 1 (.t 1), none⟩, ⟨some 9, .ld false 1 (.t 8), none⟩, ⟨some 10, .call false 29 [(.t 9)], none⟩, ⟨some 11, .fa 1 (.t 3), none⟩, ⟨none, .st 1 (.t 11) (.t 10), none⟩] [8, 9, 10, 11]) (.seq (.reg false [⟨some 12, .ld true 2 (.t 3), none⟩, ⟨none, .st 2 (.t 2) (.t 12), none⟩] [12]) (.ret)))))
def Sm.good (x : Sm) : Prop := x.alg.size ≤ 9223372036854775807 ∧ x.bytes.size ≤ 9223372036854775807
def Sm.small (x : Sm) : Prop := x.alg.size ≤ 1048576 ∧ x.bytes.size ≤ 1048576
def Sm.sz (x : Sm) (l : Int) : Int := szIf (l - x.alg.size) fun l => szIf (l - x.bytes.size) fun l => l
theorem Sm.sz_le (x : Sm) (l : Int) (h : 0 ≤ l) : x.sz l ≤ l := by
  unfold Sm.sz
  obtain ⟨l1, e1⟩ : ∃ y, l - x.alg.size = y := ⟨_, rfl⟩
  have k1 : l1 ≤ l := by omega
  rw [e1]
  refine szIf_le k1 h fun c1 => ?_
  obtain ⟨l2, e2⟩ : ∃ y, l1 - x.bytes.size = y := ⟨_, rfl⟩
  have k2 : l2 ≤ l := by omega
  rw [e2]
  refine szIf_le k2 h fun c2 => ?_
  omega
theorem Sm.small_of (x : Sm) (l : Int) (h : 0 ≤ l) (h2 : l ≤ 1048576) (hs : 0 ≤ x.sz l) : x.small := by
  unfold Sm.sz at hs
  obtain ⟨l1, e1⟩ : ∃ y, l - x.alg.size = y := ⟨_, rfl⟩
  rw [e1] at hs
  by_cases c1 : l1 < 0
  · rw [szIf_neg c1] at hs; omega
  rw [szIf_pos c1] at hs
  have s1 : x.alg.size ≤ 1048576 := by omega
  obtain ⟨l2, e2⟩ : ∃ y, l1 - x.bytes.size = y := ⟨_, rfl⟩
  rw [e2] at hs
  by_cases c2 : l2 < 0
  · rw [szIf_neg c2] at hs; omega
  rw [szIf_pos c2] at hs
  have s2 : x.bytes.size ≤ 1048576 := by omega
  exact ⟨s1, s2⟩
def Pk.good (x : Pk) : Prop := x.name.size ≤ 9223372036854775807 ∧ x.version.size ≤ 9223372036854775807 ∧ x.source.size ≤ 9223372036854775807 ∧ (x.sums.length ≤ 9223372036854775807 ∧ ∀ y ∈ x.sums, y.good) ∧ True ∧ (x.needs.length ≤ 9223372036854775807 ∧ ∀ y ∈ x.needs, y.size ≤ 9223372036854775807)
def Pk.small (x : Pk) : Prop := x.name.size ≤ 1048576 ∧ x.version.size ≤ 1048576 ∧ x.source.size ≤ 1048576 ∧ (x.sums.length ≤ 1048576 ∧ ∀ y ∈ x.sums, y.small) ∧ True ∧ (x.needs.length ≤ 1048576 ∧ ∀ y ∈ x.needs, y.size ≤ 1048576)
def Pk.sz (x : Pk) (l : Int) : Int := szIf (l - x.name.size) fun l => szIf (l - x.version.size) fun l => szIf (l - x.source.size) fun l => szIf (szL Sm.sz x.sums l) fun l => szIf (szL (fun (x : ByteArray) l => l - x.size) x.needs l) fun l => l
theorem Pk.sz_le (x : Pk) (l : Int) (h : 0 ≤ l) : x.sz l ≤ l := by
  unfold Pk.sz
  obtain ⟨l1, e1⟩ : ∃ y, l - x.name.size = y := ⟨_, rfl⟩
  have k1 : l1 ≤ l := by omega
  rw [e1]
  refine szIf_le k1 h fun c1 => ?_
  obtain ⟨l2, e2⟩ : ∃ y, l1 - x.version.size = y := ⟨_, rfl⟩
  have k2 : l2 ≤ l := by omega
  rw [e2]
  refine szIf_le k2 h fun c2 => ?_
  obtain ⟨l3, e3⟩ : ∃ y, l2 - x.source.size = y := ⟨_, rfl⟩
  have k3 : l3 ≤ l := by omega
  rw [e3]
  refine szIf_le k3 h fun c3 => ?_
  obtain ⟨l4, e4⟩ : ∃ y, szL Sm.sz x.sums l3 = y := ⟨_, rfl⟩
  have k4 : l4 ≤ l := by have := szL_le (f := Sm.sz) (xs := x.sums) (l := l3) (fun x _ l h => x.sz_le l h) c3; omega
  rw [e4]
  refine szIf_le k4 h fun c4 => ?_
  obtain ⟨l5, e5⟩ : ∃ y, szL (fun (x : ByteArray) l => l - x.size) x.needs l4 = y := ⟨_, rfl⟩
  have k5 : l5 ≤ l := by have := szL_le (f := (fun (x : ByteArray) l => l - x.size)) (xs := x.needs) (l := l4) (fun (x : ByteArray) _ l _ => by omega) c4; omega
  rw [e5]
  refine szIf_le k5 h fun c5 => ?_
  omega
theorem Pk.small_of (x : Pk) (l : Int) (h : 0 ≤ l) (h2 : l ≤ 1048576) (hs : 0 ≤ x.sz l) : x.small := by
  unfold Pk.sz at hs
  obtain ⟨l1, e1⟩ : ∃ y, l - x.name.size = y := ⟨_, rfl⟩
  rw [e1] at hs
  by_cases c1 : l1 < 0
  · rw [szIf_neg c1] at hs; omega
  rw [szIf_pos c1] at hs
  have s1 : x.name.size ≤ 1048576 := by omega
  obtain ⟨l2, e2⟩ : ∃ y, l1 - x.version.size = y := ⟨_, rfl⟩
  rw [e2] at hs
  by_cases c2 : l2 < 0
  · rw [szIf_neg c2] at hs; omega
  rw [szIf_pos c2] at hs
  have s2 : x.version.size ≤ 1048576 := by omega
  obtain ⟨l3, e3⟩ : ∃ y, l2 - x.source.size = y := ⟨_, rfl⟩
  rw [e3] at hs
  by_cases c3 : l3 < 0
  · rw [szIf_neg c3] at hs; omega
  rw [szIf_pos c3] at hs
  have s3 : x.source.size ≤ 1048576 := by omega
  obtain ⟨l4, e4⟩ : ∃ y, szL Sm.sz x.sums l3 = y := ⟨_, rfl⟩
  rw [e4] at hs
  by_cases c4 : l4 < 0
  · rw [szIf_neg c4] at hs; omega
  rw [szIf_pos c4] at hs
  have b4 := szL_bnd (f := Sm.sz) (xs := x.sums) (l := l3) Sm.sz_le (by omega)
  have k4 : l4 ≤ l3 := by rw [← e4]; exact szL_le (fun x _ l h => x.sz_le l h) (by omega)
  obtain ⟨l5, e5⟩ : ∃ y, szL (fun (x : ByteArray) l => l - x.size) x.needs l4 = y := ⟨_, rfl⟩
  rw [e5] at hs
  by_cases c5 : l5 < 0
  · rw [szIf_neg c5] at hs; omega
  rw [szIf_pos c5] at hs
  have b5 := szL_bnd (f := fun (x : ByteArray) l => l - x.size) (xs := x.needs) (l := l4) (fun x l h => by omega) (by omega)
  have k5 : l5 ≤ l4 := by rw [← e5]; exact szL_le (fun (x : ByteArray) _ l _ => by omega) (by omega)
  exact ⟨s1, s2, s3, ⟨by omega, fun y hy => by obtain ⟨m, m1, m2, m3⟩ := b4.2 y hy; exact y.small_of m m1 (by omega) m3⟩, trivial, ⟨by omega, fun y hy => by obtain ⟨m, m1, m2, m3⟩ := b5.2 y hy; omega⟩⟩
def Gr.good (x : Gr) : Prop := (x.top.length ≤ 9223372036854775807 ∧ ∀ y ∈ x.top, y.size ≤ 9223372036854775807) ∧ (x.packs.length ≤ 9223372036854775807 ∧ ∀ y ∈ x.packs, y.good)
def Gr.small (x : Gr) : Prop := (x.top.length ≤ 1048576 ∧ ∀ y ∈ x.top, y.size ≤ 1048576) ∧ (x.packs.length ≤ 1048576 ∧ ∀ y ∈ x.packs, y.small)
def Gr.sz (x : Gr) (l : Int) : Int := szIf (szL (fun (x : ByteArray) l => l - x.size) x.top l) fun l => szIf (szL Pk.sz x.packs l) fun l => l
theorem Gr.sz_le (x : Gr) (l : Int) (h : 0 ≤ l) : x.sz l ≤ l := by
  unfold Gr.sz
  obtain ⟨l1, e1⟩ : ∃ y, szL (fun (x : ByteArray) l => l - x.size) x.top l = y := ⟨_, rfl⟩
  have k1 : l1 ≤ l := by have := szL_le (f := (fun (x : ByteArray) l => l - x.size)) (xs := x.top) (l := l) (fun (x : ByteArray) _ l _ => by omega) h; omega
  rw [e1]
  refine szIf_le k1 h fun c1 => ?_
  obtain ⟨l2, e2⟩ : ∃ y, szL Pk.sz x.packs l1 = y := ⟨_, rfl⟩
  have k2 : l2 ≤ l := by have := szL_le (f := Pk.sz) (xs := x.packs) (l := l1) (fun x _ l h => x.sz_le l h) c1; omega
  rw [e2]
  refine szIf_le k2 h fun c2 => ?_
  omega
theorem Gr.small_of (x : Gr) (l : Int) (h : 0 ≤ l) (h2 : l ≤ 1048576) (hs : 0 ≤ x.sz l) : x.small := by
  unfold Gr.sz at hs
  obtain ⟨l1, e1⟩ : ∃ y, szL (fun (x : ByteArray) l => l - x.size) x.top l = y := ⟨_, rfl⟩
  rw [e1] at hs
  by_cases c1 : l1 < 0
  · rw [szIf_neg c1] at hs; omega
  rw [szIf_pos c1] at hs
  have b1 := szL_bnd (f := fun (x : ByteArray) l => l - x.size) (xs := x.top) (l := l) (fun x l h => by omega) (by omega)
  have k1 : l1 ≤ l := by rw [← e1]; exact szL_le (fun (x : ByteArray) _ l _ => by omega) (by omega)
  obtain ⟨l2, e2⟩ : ∃ y, szL Pk.sz x.packs l1 = y := ⟨_, rfl⟩
  rw [e2] at hs
  by_cases c2 : l2 < 0
  · rw [szIf_neg c2] at hs; omega
  rw [szIf_pos c2] at hs
  have b2 := szL_bnd (f := Pk.sz) (xs := x.packs) (l := l1) Pk.sz_le (by omega)
  have k2 : l2 ≤ l1 := by rw [← e2]; exact szL_le (fun x _ l h => x.sz_le l h) (by omega)
  exact ⟨⟨by omega, fun y hy => by obtain ⟨m, m1, m2, m3⟩ := b1.2 y hy; omega⟩, ⟨by omega, fun y hy => by obtain ⟨m, m1, m2, m3⟩ := b2.2 y hy; exact y.small_of m m1 (by omega) m3⟩⟩
section
variable {E : Env} (hE : E.P = Go.Proofs.Tryz.prog)
include hE
end
end Go.Proofs.YticockdhfglolaaGreatDoor.Vm
namespace Go.Proofs.YticockdhfglolaaGreatDoor.Vm
open Go Go.RowKit
set_option linter.unusedVariables false
set_option linter.unusedSimpArgs false
def v66 : VC := .seq (.reg false [⟨some 1, .box 6 (.t 0), none⟩, ⟨some 2, .as (.c (.lit (.bool false))), none⟩] [2]) (.seq (.seq (.reg false [⟨some 3, .as (.c (.lit (.int .i64 0))), none⟩] []) (.block 0 (.loop (.seq (.seq (.reg false [⟨some 4, .mv (.t 3), none⟩, ⟨some 5, .fa 3 (.t 1), none⟩, ⟨some 6, .ld false 1 (.t 5), none⟩, ⟨some 7, .len false (.t 6), none⟩, ⟨some 8, .bin .lss 0 (.t 4) (.t 7), none⟩] [4, 5, 6, 7]) (.cond (.t 8) (.skip) (.exit 0))) (.seq (.block 1 (.seq (.reg true [⟨some 11, .fa 3 (.t 1), none⟩, ⟨some 12, .ld false 1 (.t 11), none⟩, ⟨some 13, .mv (.t 3), none⟩, ⟨some 14, .ia 2 (.t 12) (.t 13), none⟩, ⟨some 15, .fa 0 (.t 14), none⟩, ⟨some 16, .ld false 1 (.t 15), none⟩, ⟨some 17, .call true 111 [(.t 16)], none⟩, ⟨some 18, .fa 3 (.t 1), none⟩, ⟨some 19, .ld false 1 (.t 18), none⟩, ⟨some 20, .mv (.t 3), none⟩, ⟨some 21, .ia 2 (.t 19) (.t 20), none⟩, ⟨some 22, .fa 1 (.t 21), none⟩, ⟨some 23, .ld false 1 (.t 22), none⟩, ⟨some 24, .len true (.t 23), none⟩, ⟨some 25, .bin .neq 0 (.t 17) (.t 24), none⟩, ⟨some 26, .mv (.t 25), none⟩, ⟨some 27, .mv (.t 3), (some (26, false))⟩, ⟨some 28, .bin .gtr 0 (.t 27) (.c (.lit (.int .i64 0))), (some (26, false))⟩, ⟨some 29, .mv (.t 28), (some (26, false))⟩, ⟨some 30, .fa 3 (.t 1), (some (29, true))⟩, ⟨some 31, .ld false 1 (.t 30), (some (29, true))⟩, ⟨some 32, .mv (.t 3), (some (29, true))⟩, ⟨some 33, .bin .sub 0 (.t 32) (.c (.lit (.int .i64 1))), (some (29, true))⟩, ⟨some 34, .ia 2 (.t 31) (.t 33), (some (29, true))⟩, ⟨some 35, .fa 0 (.t 34), (some (29, true))⟩, ⟨some 36, .ld false 1 (.t 35), (some (29, true))⟩, ⟨some 37, .fa 3 (.t 1), (some (29, true))⟩, ⟨some 38, .ld false 1 (.t 37), (some (29, true))⟩, ⟨some 39, .mv (.t 3), (some (29, true))⟩, ⟨some 40, .ia 2 (.t 38) (.t 39), (some (29, true))⟩, ⟨some 41, .fa 0 (.t 40), (some (29, true))⟩, ⟨some 42, .ld false 1 (.t 41), (some (29, true))⟩, ⟨some 43, .bin .geq 0 (.t 36) (.t 42), (some (29, true))⟩, ⟨some 44, .pick (.t 29) (.t 43) (.c (.lit (.bool false))), (some (26, false))⟩, ⟨some 45, .pick (.t 26) (.c (.lit (.bool true))) (.t 44), none⟩] [11, 12, 13, 14, 15, 16, 17, 18, 19, 20, 21, 22, 23, 24, 25, 26, 27, 28, 29, 30, 31, 32, 33, 34, 35, 36, 37, 38, 39, 40, 41, 42, 43, 44]) (.cond (.t 45) (.seq (.reg false [⟨some 2, .as (.c (.lit (.bool false))), none⟩] []) (.ret)) (.skip)))) (.reg false [⟨some 9, .mv (.t 3), none⟩, ⟨some 10, .bin .add 0 (.t 9) (.c (.lit (.int .i64 1))), none⟩, ⟨some 3, .as (.t 10), none⟩] [9, 10])))))) (.seq (.reg false [⟨some 46, .fa 0 (.t 1), none⟩, ⟨some 47, .ld false 1 (.t 46), none⟩, ⟨some 48, .call false 112 [(.t 47)], none⟩, ⟨some 49, .mv (.t 48), none⟩, ⟨some 50, .fa 1 (.t 1), (some (49, true))⟩, ⟨some 51, .ld false 1 (.t 50), (some (49, true))⟩, ⟨some 52, .call false 113 [(.t 51)], (some (49, true))⟩, ⟨some 53, .len false (.t 52), (some (49, true))⟩, ⟨some 54, .bin .eql 0 (.t 53) (.c (.lit (.int .i64 1))), (some (49, true))⟩, ⟨some 55, .pick (.t 49) (.t 54) (.c (.lit (.bool false))), none⟩, ⟨some 56, .mv (.t 55), none⟩, ⟨some 57, .fa 2 (.t 1), (some (56, true))⟩, ⟨some 58, .ld false 1 (.t 57), (some (56, true))⟩, ⟨some 59, .call false 83 [(.t 58)], (some (56, true))⟩, ⟨some 60, .pick (.t 56) (.t 59) (.c (.lit (.bool false))), none⟩, ⟨some 2, .as (.t 60), none⟩] [46, 47, 48, 49, 50, 51, 52, 53, 54, 55, 56, 57, 58, 59, 60]) (.ret)))
theorem is66 : Is Go.Proofs.Tryz.prog 66 61 v66 [.t 2] := ⟨Go.Proofs.Tryz.f66, dl [(0, [2]), (2, [4, 5, 6, 7]), (4, [11, 12, 13, 14, 15, 16, 17, 18, 19, 20, 21, 22, 23, 24, 25, 26, 27, 28, 29, 30, 31, 32, 33, 34, 35, 36, 37, 38, 39, 40, 41, 42, 43, 44]), (3, [9, 10]), (6, [46, 47, 48, 49, 50, 51, 52, 53, 54, 55, 56, 57, 58, 59, 60])], Go.Proofs.Tryz.func66, by kernel_rfl, by kernel_rfl, by kernel_rfl, by kernel_rfl⟩
def v111 : VC := .seq (.reg false [⟨some 2, .as (.c (.lit (.int .i64 0))), none⟩] [2]) (.seq (.seq (.reg false [⟨some 3, .mv (.t 0), none⟩] []) (.block 0 (.seq (.reg false [⟨some 5, .bin .eql 0 (.t 3) (.c (.lit (.string (by8 "sha1")))), none⟩, ⟨some 4, .as (.t 5), none⟩] [5]) (.cond (.t 4) (.seq (.reg false [⟨some 2, .as (.c (.lit (.int .i64 20))), none⟩] []) (.ret)) (.seq (.seq (.reg false [⟨some 7, .bin .eql 0 (.t 3) (.c (.lit (.string (by8 "sha256")))), none⟩, ⟨some 6, .as (.t 7), none⟩] [7]) (.cond (.t 6) (.skip) (.reg false [⟨some 8, .bin .eql 0 (.t 3) (.c (.lit (.string (by8 "h1")))), none⟩, ⟨some 6, .as (.t 8), none⟩] [8]))) (.cond (.t 6) (.seq (.reg false [⟨some 2, .as (.c (.lit (.int .i64 32))), none⟩] []) (.ret)) (.seq (.reg false [⟨some 10, .bin .eql 0 (.t 3) (.c (.lit (.string (by8 "sha512")))), none⟩, ⟨some 9, .as (.t 10), none⟩] [10]) (.cond (.t 9) (.seq (.reg false [⟨some 2, .as (.c (.lit (.int .i64 64))), none⟩] []) (.ret)) (.skip))))))))) (.seq (.reg false [⟨some 2, .as (.c (.lit (.int .i64 (-1)))), none⟩] []) (.ret)))
theorem is111 : Is Go.Proofs.Tryz.prog 111 11 v111 [.t 2] := ⟨Go.Proofs.Tryz.f111, dl [(0, [2]), (2, [5]), (4, [7]), (5, [8]), (7, [10])], Go.Proofs.Tryz.func111, by kernel_rfl, by kernel_rfl, by kernel_rfl, by kernel_rfl⟩
def v83 : VC := .seq (.reg false [⟨some 2, .as (.c (.lit (.bool false))), none⟩] [2]) (.seq (.seq (.reg false [⟨some 3, .as (.c (.lit (.int .i64 0))), none⟩] []) (.block 0 (.loop (.seq (.seq (.reg false [⟨some 4, .mv (.t 3), none⟩, ⟨some 5, .mv (.t 0), none⟩, ⟨some 6, .len true (.t 5), none⟩, ⟨some 7, .bin .lss 0 (.t 4) (.t 6), none⟩] [4, 5, 6]) (.cond (.t 7) (.skip) (.exit 0))) (.seq (.block 1 (.seq (.reg false [⟨some 10, .mv (.t 0), none⟩, ⟨some 11, .mv (.t 3), none⟩, ⟨some 12, .idx (.t 10) (.t 11), none⟩, ⟨some 13, .cvI .i64 (.t 12), none⟩, ⟨some 14, .call false 82 [(.t 13), (.c (.lit (.int .i64 33))), (.c (.lit (.int .i64 126)))], none⟩, ⟨some 15, .un .not (.t 14), none⟩, ⟨some 16, .mv (.t 15), none⟩, ⟨some 17, .mv (.t 0), (some (16, false))⟩, ⟨some 18, .mv (.t 3), (some (16, false))⟩, ⟨some 19, .idx (.t 17) (.t 18), (some (16, false))⟩, ⟨some 20, .bin .eql 0 (.t 19) (.c (.lit (.int .u8 34))), (some (16, false))⟩, ⟨some 21, .pick (.t 16) (.c (.lit (.bool true))) (.t 20), none⟩, ⟨some 22, .mv (.t 21), none⟩, ⟨some 23, .mv (.t 0), (some (22, false))⟩, ⟨some 24, .mv (.t 3), (some (22, false))⟩, ⟨some 25, .idx (.t 23) (.t 24), (some (22, false))⟩, ⟨some 26, .bin .eql 0 (.t 25) (.c (.lit (.int .u8 39))), (some (22, false))⟩, ⟨some 27, .pick (.t 22) (.c (.lit (.bool true))) (.t 26), none⟩, ⟨some 28, .mv (.t 27), none⟩, ⟨some 29, .mv (.t 0), (some (28, false))⟩, ⟨some 30, .mv (.t 3), (some (28, false))⟩, ⟨some 31, .idx (.t 29) (.t 30), (some (28, false))⟩, ⟨some 32, .bin .eql 0 (.t 31) (.c (.lit (.int .u8 44))), (some (28, false))⟩, ⟨some 33, .pick (.t 28) (.c (.lit (.bool true))) (.t 32), none⟩, ⟨some 34, .mv (.t 33), none⟩, ⟨some 35, .mv (.t 0), (some (34, false))⟩, ⟨some 36, .mv (.t 3), (some (34, false))⟩, ⟨some 37, .idx (.t 35) (.t 36), (some (34, false))⟩, ⟨some 38, .bin .eql 0 (.t 37) (.c (.lit (.int .u8 92))), (some (34, false))⟩, ⟨some 39, .pick (.t 34) (.c (.lit (.bool true))) (.t 38), none⟩] [10, 11, 12, 13, 14, 15, 16, 17, 18, 19, 20, 21, 22, 23, 24, 25, 26, 27, 28, 29, 30, 31, 32, 33, 34, 35, 36, 37, 38]) (.cond (.t 39) (.seq (.reg false [⟨some 2, .as (.c (.lit (.bool false))), none⟩] []) (.ret)) (.skip)))) (.reg false [⟨some 8, .mv (.t 3), none⟩, ⟨some 9, .bin .add 0 (.t 8) (.c (.lit (.int .i64 1))), none⟩, ⟨some 3, .as (.t 9), none⟩] [8, 9])))))) (.seq (.reg false [⟨some 40, .mv (.t 0), none⟩, ⟨some 41, .len true (.t 40), none⟩, ⟨some 42, .bin .leq 0 (.t 41) (.c (.lit (.int .i64 100))), none⟩, ⟨some 43, .mv (.t 42), none⟩, ⟨some 44, .mv (.t 0), (some (43, true))⟩, ⟨some 45, .len true (.t 44), (some (43, true))⟩, ⟨some 46, .bin .lss 0 (.t 45) (.c (.lit (.int .i64 20000))), (some (43, true))⟩, ⟨some 47, .pick (.t 43) (.t 46) (.c (.lit (.bool false))), none⟩, ⟨some 2, .as (.t 47), none⟩] [40, 41, 42, 43, 44, 45, 46, 47]) (.ret)))
theorem is83 : Is Go.Proofs.Tryz.prog 83 48 v83 [.t 2] := ⟨Go.Proofs.Tryz.f83, dl [(0, [2]), (2, [4, 5, 6]), (4, [10, 11, 12, 13, 14, 15, 16, 17, 18, 19, 20, 21, 22, 23, 24, 25, 26, 27, 28, 29, 30, 31, 32, 33, 34, 35, 36, 37, 38]), (3, [8, 9]), (6, [40, 41, 42, 43, 44, 45, 46, 47])], Go.Proofs.Tryz.func83, by kernel_rfl, by kernel_rfl, by kernel_rfl, by kernel_rfl⟩
def v177 : VC := .seq (.reg false [⟨some 2, .as (.c (.lit (.int .i64 0))), none⟩] [2]) (.seq (.seq (.reg false [⟨some 3, .mv (.t 0), none⟩] []) (.block 0 (.seq (.reg false [⟨some 5, .bin .eql 0 (.t 3) (.c (.lit (.string (by8 "sha1")))), none⟩, ⟨some 4, .as (.t 5), none⟩] [5]) (.cond (.t 4) (.seq (.reg false [⟨some 2, .as (.c (.lit (.int .i64 20))), none⟩] []) (.ret)) (.seq (.seq (.reg false [⟨some 7, .bin .eql 0 (.t 3) (.c (.lit (.string (by8 "sha256")))), none⟩, ⟨some 6, .as (.t 7), none⟩] [7]) (.cond (.t 6) (.skip) (.reg false [⟨some 8, .bin .eql 0 (.t 3) (.c (.lit (.string (by8 "h1")))), none⟩, ⟨some 6, .as (.t 8), none⟩] [8]))) (.cond (.t 6) (.seq (.reg false [⟨some 2, .as (.c (.lit (.int .i64 32))), none⟩] []) (.ret)) (.seq (.reg false [⟨some 10, .bin .eql 0 (.t 3) (.c (.lit (.string (by8 "sha512")))), none⟩, ⟨some 9, .as (.t 10), none⟩] [10]) (.cond (.t 9) (.seq (.reg false [⟨some 2, .as (.c (.lit (.int .i64 64))), none⟩] []) (.ret)) (.skip))))))))) (.seq (.reg false [⟨some 2, .as (.c (.lit (.int .i64 (-1)))), none⟩] []) (.ret)))
theorem is177 : Is Go.Proofs.Tryz.prog 177 11 v177 [.t 2] := ⟨Go.Proofs.Tryz.f177, dl [(0, [2]), (2, [5]), (4, [7]), (5, [8]), (7, [10])], Go.Proofs.Tryz.func177, by kernel_rfl, by kernel_rfl, by kernel_rfl, by kernel_rfl⟩
def v116 : VC := .seq (.reg false [⟨some 2, .as (.c (.lit (.bool false))), none⟩] [2]) (.seq (.seq (.reg false [⟨some 5, .mv (.t 0), none⟩, ⟨some 6, .len false (.t 5), none⟩, ⟨some 7, .mv (.c (.lit (.int .i64 0))), none⟩] []) (.block 0 (.loop (.seq (.reg false [⟨some 8, .bin .lss 0 (.t 7) (.t 6), none⟩] []) (.seq (.cond (.t 8) (.skip) (.exit 0)) (.seq (.block 1 (.seq (.reg false [⟨some 9, .mv (.t 7), none⟩, ⟨some 10, .ia 2 (.t 5) (.t 7), none⟩, ⟨some 11, .ld true 2 (.t 10), none⟩, ⟨some 4, .alloc (.agg [(.lit (.string (by8 ""))), (.lit (.string (by8 "")))]), none⟩, ⟨some 3, .as (.t 9), none⟩, ⟨none, .st 2 (.t 4) (.t 11), none⟩] [9, 10, 11]) (.seq (.reg true [⟨some 12, .fa 1 (.t 4), none⟩, ⟨some 13, .ld false 1 (.t 12), none⟩, ⟨some 14, .len true (.t 13), none⟩, ⟨some 15, .fa 0 (.t 4), none⟩, ⟨some 16, .ld false 1 (.t 15), none⟩, ⟨some 17, .call true 177 [(.t 16)], none⟩, ⟨some 18, .bin .neq 0 (.t 14) (.t 17), none⟩, ⟨some 19, .mv (.t 18), none⟩, ⟨some 20, .mv (.t 3), (some (19, false))⟩, ⟨some 21, .bin .gtr 0 (.t 20) (.c (.lit (.int .i64 0))), (some (19, false))⟩, ⟨some 22, .mv (.t 21), (some (19, false))⟩, ⟨some 23, .fa 0 (.t 4), (some (22, true))⟩, ⟨some 24, .ld false 1 (.t 23), (some (22, true))⟩, ⟨some 25, .mv (.t 0), (some (22, true))⟩, ⟨some 26, .mv (.t 3), (some (22, true))⟩, ⟨some 27, .bin .sub 0 (.t 26) (.c (.lit (.int .i64 1))), (some (22, true))⟩, ⟨some 28, .ia 2 (.t 25) (.t 27), (some (22, true))⟩, ⟨some 29, .fa 0 (.t 28), (some (22, true))⟩, ⟨some 30, .ld false 1 (.t 29), (some (22, true))⟩, ⟨some 31, .bin .leq 0 (.t 24) (.t 30), (some (22, true))⟩, ⟨some 32, .pick (.t 22) (.t 31) (.c (.lit (.bool false))), (some (19, false))⟩, ⟨some 33, .pick (.t 19) (.c (.lit (.bool true))) (.t 32), none⟩] [12, 13, 14, 15, 16, 17, 18, 19, 20, 21, 22, 23, 24, 25, 26, 27, 28, 29, 30, 31, 32]) (.cond (.t 33) (.seq (.reg false [⟨some 2, .as (.c (.lit (.bool false))), none⟩] []) (.ret)) (.skip))))) (.reg false [⟨some 34, .bin .add 0 (.t 7) (.c (.lit (.int .i64 1))), none⟩, ⟨some 7, .mv (.t 34), none⟩] [34]))))))) (.seq (.reg false [⟨some 2, .as (.c (.lit (.bool true))), none⟩] []) (.ret)))
theorem is116 : Is Go.Proofs.Tryz.prog 116 35 v116 [.t 2] := ⟨Go.Proofs.Tryz.f116, dl [(0, [2]), (3, [9, 10, 11]), (4, [12, 13, 14, 15, 16, 17, 18, 19, 20, 21, 22, 23, 24, 25, 26, 27, 28, 29, 30, 31, 32]), (6, [34])], Go.Proofs.Tryz.func116, by kernel_rfl, by kernel_rfl, by kernel_rfl, by kernel_rfl⟩
def v90 : VC := .seq (.reg false [⟨some 2, .as (.c (.lit (.bool false))), none⟩] [2]) (.seq (.reg false [⟨some 3, .mv (.t 0), none⟩, ⟨some 4, .len true (.t 3), none⟩, ⟨some 5, .bin .leq 0 (.t 4) (.c (.lit (.int .i64 100))), none⟩, ⟨some 6, .mv (.t 5), none⟩, ⟨some 7, .mv (.t 0), (some (6, true))⟩, ⟨some 8, .call false 146 [(.t 7), (.c (.fn 147 []))], (some (6, true))⟩, ⟨some 9, .pick (.t 6) (.t 8) (.c (.lit (.bool false))), none⟩, ⟨some 2, .as (.t 9), none⟩] [3, 4, 5, 6, 7, 8, 9]) (.ret))
theorem is90 : Is Go.Proofs.Tryz.prog 90 10 v90 [.t 2] := ⟨Go.Proofs.Tryz.f90, dl [(0, [2]), (1, [3, 4, 5, 6, 7, 8, 9])], Go.Proofs.Tryz.func90, by kernel_rfl, by kernel_rfl, by kernel_rfl, by kernel_rfl⟩
def v147 : VC := .seq (.reg false [⟨some 2, .as (.c (.lit (.bool false))), none⟩] [2]) (.seq (.reg false [⟨some 3, .mv (.t 0), none⟩, ⟨some 4, .bin .geq 0 (.t 3) (.c (.lit (.int .u8 33))), none⟩, ⟨some 5, .mv (.t 4), none⟩, ⟨some 6, .mv (.t 0), (some (5, true))⟩, ⟨some 7, .bin .leq 0 (.t 6) (.c (.lit (.int .u8 126))), (some (5, true))⟩, ⟨some 8, .pick (.t 5) (.t 7) (.c (.lit (.bool false))), none⟩, ⟨some 9, .mv (.t 8), none⟩, ⟨some 10, .mv (.t 0), (some (9, true))⟩, ⟨some 11, .bin .neq 0 (.t 10) (.c (.lit (.int .u8 34))), (some (9, true))⟩, ⟨some 12, .pick (.t 9) (.t 11) (.c (.lit (.bool false))), none⟩, ⟨some 13, .mv (.t 12), none⟩, ⟨some 14, .mv (.t 0), (some (13, true))⟩, ⟨some 15, .bin .neq 0 (.t 14) (.c (.lit (.int .u8 39))), (some (13, true))⟩, ⟨some 16, .pick (.t 13) (.t 15) (.c (.lit (.bool false))), none⟩, ⟨some 17, .mv (.t 16), none⟩, ⟨some 18, .mv (.t 0), (some (17, true))⟩, ⟨some 19, .bin .neq 0 (.t 18) (.c (.lit (.int .u8 44))), (some (17, true))⟩, ⟨some 20, .pick (.t 17) (.t 19) (.c (.lit (.bool false))), none⟩, ⟨some 21, .mv (.t 20), none⟩, ⟨some 22, .mv (.t 0), (some (21, true))⟩, ⟨some 23, .bin .neq 0 (.t 22) (.c (.lit (.int .u8 92))), (some (21, true))⟩, ⟨some 24, .pick (.t 21) (.t 23) (.c (.lit (.bool false))), none⟩, ⟨some 2, .as (.t 24), none⟩] [3, 4, 5, 6, 7, 8, 9, 10, 11, 12, 13, 14, 15, 16, 17, 18, 19, 20, 21, 22, 23, 24]) (.ret))
theorem is147 : Is Go.Proofs.Tryz.prog 147 25 v147 [.t 2] := ⟨Go.Proofs.Tryz.f147, dl [(0, [2]), (1, [3, 4, 5, 6, 7, 8, 9, 10, 11, 12, 13, 14, 15, 16, 17, 18, 19, 20, 21, 22, 23, 24])], Go.Proofs.Tryz.func147, by kernel_rfl, by kernel_rfl, by kernel_rfl, by kernel_rfl⟩
def v70 : VC := .seq (.reg false [⟨some 1, .box 6 (.t 0), none⟩, ⟨some 2, .as (.c (.lit (.string (by8 "")))), none⟩] [2]) (.seq (.reg false [⟨some 3, .fa 0 (.t 1), none⟩, ⟨some 4, .ld false 1 (.t 3), none⟩, ⟨some 5, .bin .add 0 (.t 4) (.c (.lit (.string (by8 "@")))), none⟩, ⟨some 6, .fa 1 (.t 1), none⟩, ⟨some 7, .ld false 1 (.t 6), none⟩, ⟨some 8, .bin .add 0 (.t 5) (.t 7), none⟩, ⟨some 2, .as (.t 8), none⟩] [3, 4, 5, 6, 7, 8]) (.ret))
def v72 : VC := .seq (.reg false [⟨some 4, .as (.c (.lit (.int .i64 0))), none⟩] [4]) (.seq (.seq (.reg false [⟨some 6, .mv (.t 0), none⟩, ⟨some 7, .len false (.t 6), none⟩, ⟨some 8, .mv (.c (.lit (.int .i64 0))), none⟩] [6]) (.block 0 (.loop (.seq (.reg false [⟨some 9, .bin .lss 0 (.t 8) (.t 7), none⟩] []) (.seq (.cond (.t 9) (.skip) (.exit 0)) (.seq (.block 1 (.seq (.reg false [⟨some 10, .mv (.t 8), none⟩, ⟨some 5, .as (.t 10), none⟩] [10]) (.seq (.reg false [⟨some 11, .mv (.t 1), none⟩, ⟨some 12, .mv (.t 0), none⟩, ⟨some 13, .mv (.t 5), none⟩, ⟨some 14, .ia 6 (.t 12) (.t 13), none⟩, ⟨some 15, .ld true 6 (.t 14), none⟩, ⟨some 16, .callv false (.t 11) [(.t 15)], none⟩] [11, 12, 13, 14, 15]) (.cond (.t 16) (.seq (.reg false [⟨some 17, .mv (.t 5), none⟩, ⟨some 4, .as (.t 17), none⟩] [17]) (.ret)) (.skip))))) (.reg false [⟨some 18, .bin .add 0 (.t 8) (.c (.lit (.int .i64 1))), none⟩, ⟨some 8, .mv (.t 18), none⟩] [18]))))))) (.seq (.reg false [⟨some 4, .as (.c (.lit (.int .i64 (-1)))), none⟩] []) (.ret)))
/-- all places below a number -/
def allN (n : Nat) (p : Nat → Bool) : Bool := (List.range n).all p
theorem allN_false {n i : Nat} {p : Nat → Bool} (h : i < n) (hp : p i = false) : allN n p = false := by
  unfold allN; rw [List.all_eq_false]; exact ⟨i, List.mem_range.2 h, by simp [hp]⟩
theorem allN_true {n : Nat} {p : Nat → Bool} (h : ∀ i, i < n → p i = true) : allN n p = true := by
  unfold allN; rw [List.all_eq_true]; exact fun i hi => h i (List.mem_range.1 hi)
/-- as far as a place -/
def upTo (p : Nat → Bool) (i : Nat) : Prop := ∀ k, k < i → p k = true
theorem upTo.zero (p : Nat → Bool) : upTo p 0 := fun k h => by omega
theorem upTo.next {p : Nat → Bool} {i : Nat} (h : upTo p i) (h2 : p i = true) : upTo p (i + 1) := fun k hk => by
  rcases Nat.lt_succ_iff_lt_or_eq.1 hk with h3 | rfl
  · exact h k h3
  · exact h2
theorem upTo.all {p : Nat → Bool} {n : Nat} (h : upTo p n) : allN n p = true := allN_true h
/-- the order of texts -/
theorem less_irr : ∀ (a : List UInt8), Op.bytesLess a a = false
  | [] => rfl
  | x :: a => by simp [Op.bytesLess, less_irr a]
theorem less_tri : ∀ (a b : List UInt8), (Op.bytesLess a b = true ∧ Op.bytesLess b a = false ∧ a ≠ b) ∨ (a = b) ∨ (Op.bytesLess b a = true ∧ Op.bytesLess a b = false ∧ a ≠ b)
  | [], [] => .inr (.inl rfl)
  | [], y :: b => .inl ⟨rfl, rfl, by simp⟩
  | x :: a, [] => .inr (.inr ⟨rfl, rfl, by simp⟩)
  | x :: a, y :: b => by
    rcases Nat.lt_trichotomy x.toNat y.toNat with h | h | h
    · have h1 : x < y := UInt8.lt_iff_toNat_lt.2 h
      have h2 : ¬ y < x := fun e => by have := UInt8.lt_iff_toNat_lt.1 e; omega
      have h3 : x ≠ y := fun e => by rw [e] at h; omega
      have h4 : (y == x) = false := by simpa using fun e => h3 e.symm
      exact .inl ⟨by simp [Op.bytesLess, h1], by simp [Op.bytesLess, h2, h4], by simp [h3]⟩
    · obtain rfl := UInt8.toNat_inj.1 h
      have h2 : ¬ x < x := fun e => by have := UInt8.lt_iff_toNat_lt.1 e; omega
      rcases less_tri a b with ⟨k1, k2, k3⟩ | rfl | ⟨k1, k2, k3⟩
      · exact .inl ⟨by simp [Op.bytesLess, h2, k1], by simp [Op.bytesLess, h2, k2], by simp [k3]⟩
      · exact .inr (.inl rfl)
      · exact .inr (.inr ⟨by simp [Op.bytesLess, h2, k1], by simp [Op.bytesLess, h2, k2], by simp [k3]⟩)
    · have h1 : y < x := UInt8.lt_iff_toNat_lt.2 h
      have h2 : ¬ x < y := fun e => by have := UInt8.lt_iff_toNat_lt.1 e; omega
      have h3 : x ≠ y := fun e => by rw [e] at h; omega
      have h4 : (x == y) = false := by simpa using h3
      exact .inr (.inr ⟨by simp [Op.bytesLess, h1], by simp [Op.bytesLess, h2, h4], by simp [h3]⟩)
theorem toList_eq (a : ByteArray) : a.toList = a.data.toList := Lib.toList_data a
theorem slt_tri (a b : ByteArray) : (slt a b = true ∧ slt b a = false ∧ a ≠ b) ∨ (a = b ∧ slt a b = false ∧ slt b a = false) ∨ (slt b a = true ∧ slt a b = false ∧ a ≠ b) := by
  unfold slt
  rw [toList_eq, toList_eq]
  rcases less_tri a.data.toList b.data.toList with ⟨h1, h2, h3⟩ | h | ⟨h1, h2, h3⟩
  · exact .inl ⟨h1, h2, fun e => h3 (by rw [e])⟩
  · obtain rfl := ba_ext h
    exact .inr (.inl ⟨rfl, less_irr _, less_irr _⟩)
  · exact .inr (.inr ⟨h1, h2, fun e => h3 (by rw [e])⟩)
theorem geq_slt (a b : ByteArray) : (slt b a || decide (b = a)) = !slt a b := by
  rcases slt_tri a b with ⟨h1, h2, h3⟩ | ⟨h1, h2, h3⟩ | ⟨h1, h2, h3⟩
  · have h4 : ¬ b = a := fun e => h3 e.symm
    simp [h1, h2, h4]
  · subst h1
    simp [h2]
  · simp [h1, h2]
/-- plain bytes -/
def plainB (u : UInt8) : Bool := inR u.toNat 33 126 && !isB u 34 && !isB u 39 && !isB u 44 && !isB u 92
def plainOk (s : ByteArray) : Bool := decide ((s.size : Int) ≤ 100) && allB plainB s
/-- how long a sum is -/
def sumLen (a : ByteArray) : Int := if a = by8 "sha1" then 20 else if a = by8 "sha256" then 32 else if a = by8 "h1" then 32 else if a = by8 "sha512" then 64 else -1
def sm0 : Sm := ⟨by8 "", by8 ""⟩
def sumAt (l : List Sm) (i : Nat) : Bool := decide (((l.getD i sm0).bytes.size : Int) = sumLen (l.getD i sm0).alg) && (decide (i = 0) || slt (l.getD (i - 1) sm0).alg (l.getD i sm0).alg)
def sumsOk (l : List Sm) : Bool := allN l.length (sumAt l)
noncomputable def packOk (p : Pk) : Bool := nameOk p.name && (exactO p.version).isSome && plainOk p.source && sumsOk p.sums
theorem getD_lt {α : Type} {l : List α} {i : Nat} {d : α} (h : i < l.length) : l.getD i d = l[i] := by simp [List.getD, h]
theorem exact_len (s : ByteArray) : ∃ ys : List AV, exactRes s = .sl ⟨.no, true⟩ 2 ys ∧ ys.length = if (exactO s).isSome = true then 1 else 0 := by
  unfold exactRes
  cases exactO s with
  | none => exact ⟨_, rfl, rfl⟩
  | some p => exact ⟨_, rfl, rfl⟩
section
variable {E : Env} (hE : E.P = Go.Proofs.Tryz.prog) (hZ : ∀ w, E.K w → KZ w)
include hE
theorem specLong_fx (a : ByteArray) : Fx E 111 [] [.lit (.string a)] [] (.lit (.int .i64 (sumLen a))) := by
  refine (is111.to hE).fx [] (by simp) rfl rfl ?_
  simp [v111]
  by_cases c1 : a = by8 "sha1"
  · simp [c1]
    exact Fin_ret rfl (by rw [sumLen, if_pos rfl]; rfl)
  simp [c1]
  by_cases c2 : a = by8 "sha256"
  · simp [c2]
    exact Fin_ret rfl (by rw [sumLen, if_neg (c2 ▸ c1), if_pos rfl]; rfl)
  simp [c2]
  by_cases c3 : a = by8 "h1"
  · simp [c3]
    exact Fin_ret rfl (by rw [sumLen, if_neg (c3 ▸ c1), if_neg (c3 ▸ c2), if_pos rfl]; rfl)
  simp [c3]
  by_cases c4 : a = by8 "sha512"
  · simp [c4]
    exact Fin_ret rfl (by rw [sumLen, if_neg (c4 ▸ c1), if_neg (c4 ▸ c2), if_neg (c4 ▸ c3), if_pos rfl]; rfl)
  · simp [c4]
    exact Fin_ret rfl (by rw [sumLen, if_neg c1, if_neg c2, if_neg c3, if_neg c4]; rfl)
theorem implLong_fx (a : ByteArray) : Fx E 177 [] [.lit (.string a)] [] (.lit (.int .i64 (sumLen a))) := by
  refine (is177.to hE).fx [] (by simp) rfl rfl ?_
  simp [v177]
  by_cases c1 : a = by8 "sha1"
  · simp [c1]
    exact Fin_ret rfl (by rw [sumLen, if_pos rfl]; rfl)
  simp [c1]
  by_cases c2 : a = by8 "sha256"
  · simp [c2]
    exact Fin_ret rfl (by rw [sumLen, if_neg (c2 ▸ c1), if_pos rfl]; rfl)
  simp [c2]
  by_cases c3 : a = by8 "h1"
  · simp [c3]
    exact Fin_ret rfl (by rw [sumLen, if_neg (c3 ▸ c1), if_neg (c3 ▸ c2), if_pos rfl]; rfl)
  simp [c3]
  by_cases c4 : a = by8 "sha512"
  · simp [c4]
    exact Fin_ret rfl (by rw [sumLen, if_neg (c4 ▸ c1), if_neg (c4 ▸ c2), if_neg (c4 ▸ c3), if_pos rfl]; rfl)
  · simp [c4]
    exact Fin_ret rfl (by rw [sumLen, if_neg c1, if_neg c2, if_neg c3, if_neg c4]; rfl)
set_option maxHeartbeats 1000000 in
theorem specPlain_fx (s : ByteArray) (hs : s.size ≤ 9223372036854775806) : Fx E 83 [] [.lit (.string s)] [] (.lit (.bool (plainOk s))) := by
  refine (is83.to hE).fx [] (by simp) rfl rfl ?_
  simp [v83]
  refine X_loop (τ := Nat) (fun i => ⟨[(0, .lit (.string s)), (3, .lit (.int .i64 i))], []⟩) (fun i => i ≤ s.size ∧ upTo (fun k => plainB (bt s k)) i) (fun i => s.size - i) 0 ⟨by omega, upTo.zero _⟩ (Wk.both (by simp [wkL, wkV.same]) trivial) ?_
  rintro i ⟨hi, hall⟩
  simp
  by_cases hlt : i < s.size
  · have hu := (bt s i).toNat_lt
    have no : plainB (bt s i) = false → plainOk s = false := fun h => by rw [plainOk, allB_false hlt h, Bool.and_false]
    simp [hlt]
    rw [wrap_i64 (by omega) (by omega)]
    refine vcall_go (l01In_fx hE (bt s i).toNat 33 126) (by simp) (by simp) (by simp) (by simp) ?_
    simp
    cases c1 : inR (bt s i).toNat 33 126
    · have := no (by simp [plainB, c1])
      simp
      exact Fin_ret rfl (by rw [this]; rfl)
    simp [hlt]
    by_cases c2 : ((bt s i).toNat : Int) = 34
    · have := no (by simp [plainB, isB, c2])
      simp [c2]
      exact Fin_ret rfl (by rw [this]; rfl)
    simp [c2, hlt]
    by_cases c3 : ((bt s i).toNat : Int) = 39
    · have := no (by simp [plainB, isB, c3])
      simp [c3]
      exact Fin_ret rfl (by rw [this]; rfl)
    simp [c3, hlt]
    by_cases c4 : ((bt s i).toNat : Int) = 44
    · have := no (by simp [plainB, isB, c4])
      simp [c4]
      exact Fin_ret rfl (by rw [this]; rfl)
    simp [c4, hlt]
    by_cases c5 : ((bt s i).toNat : Int) = 92
    · have := no (by simp [plainB, isB, c5])
      simp [c5]
      exact Fin_ret rfl (by rw [this]; rfl)
    · simp [c5]
      exact ⟨i + 1, ⟨by omega, hall.next (by simp [plainB, isB, c1, c2, c3, c4, c5])⟩, by omega, Wk.both (by simp [wkL, wkV.same]; rw [wrapN (by omega)]; exact wkV.same _) trivial⟩
  · obtain rfl : i = s.size := by omega
    have hp : allB plainB s = true := allB_true fun k hk => hall k hk
    simp
    by_cases c : (s.size : Int) ≤ 100
    · have c2 : (s.size : Int) < 20000 := by omega
      simp [c, c2]
      exact Fin_ret rfl (by simp [plainOk, hp, c, reC])
    · simp [c]
      exact Fin_ret rfl (by simp [plainOk, c, reC])
theorem plain1_fx (u : UInt8) : Fx E 147 [] [.lit (.int .u8 u.toNat)] [] (.lit (.bool (plainB u))) := by
  refine (is147.to hE).fx [] (by simp) rfl rfl ?_
  simp [v147]
  by_cases c1 : (33 : Int) ≤ u.toNat
  · simp [c1]
    by_cases c2 : (u.toNat : Int) ≤ 126
    · simp [c2]
      by_cases c3 : (u.toNat : Int) = 34
      · simp [c3]
        exact Fin_ret rfl (by simp [plainB, isB, c3, reC])
      simp [c3]
      by_cases c4 : (u.toNat : Int) = 39
      · simp [c4]
        exact Fin_ret rfl (by simp [plainB, isB, c4, reC])
      simp [c4]
      by_cases c5 : (u.toNat : Int) = 44
      · simp [c5]
        exact Fin_ret rfl (by simp [plainB, isB, c5, reC])
      simp [c5]
      by_cases c6 : (u.toNat : Int) = 92
      · simp [c6]
        exact Fin_ret rfl (by simp [plainB, isB, c6, reC])
      · simp [c6]
        exact Fin_ret rfl (by simp [plainB, isB, inR, c1, c2, c3, c4, c5, c6, reC])
    · simp [c2]
      exact Fin_ret rfl (by simp [plainB, inR, c2, reC])
  · simp [c1]
    exact Fin_ret rfl (by simp [plainB, inR, c1, reC])
theorem implPlain_fx (s : ByteArray) (hs : s.size ≤ 9223372036854775806) : Fx E 90 [] [.lit (.string s)] [] (.lit (.bool (plainOk s))) := by
  refine (is90.to hE).fx [] (by simp) rfl rfl ?_
  simp [v90]
  by_cases c : (s.size : Int) ≤ 100
  · simp [c]
    refine vcall_go (all_fx hE (g := 147) (hE ▸ (by kernel_rfl : fnOk Go.Proofs.Tryz.prog 147 = true)) (plain1_fx hE) s hs) (by simp [strip]) (by simp [argOk]) (by simp [ptrs]) (by simp) ?_
    simp
    exact Fin_ret rfl (by simp [plainOk, c, reC])
  · simp [c]
    exact Fin_ret rfl (by simp [plainOk, c, reC])
set_option maxHeartbeats 2000000 in
theorem implSums_fx (l : List Sm) (hl : l.length ≤ 2097152) (hx : ∀ s ∈ l, s.small) : Fx E 116 [] [.sl ro 2 (l.map fun x => .agg x.av)] [] (.lit (.bool (sumsOk l))) := by
  refine (is116.to hE).fx [] (by simp) rfl rfl ?_
  simp [v116]
  refine X_loop (τ := Nat) (fun i => ⟨[(0, .sl ro 2 (l.map fun x => .agg x.av)), (5, .sl ro 2 (l.map fun x => .agg x.av)), (6, .lit (.int .i64 l.length)), (7, .lit (.int .i64 i))], []⟩) (fun i => i ≤ l.length ∧ upTo (sumAt l) i) (fun i => l.length - i) 0 ⟨by omega, upTo.zero _⟩ (Wk.both (by simp [wkL, wkV.same]) (by simp [wkB])) ?_
  rintro i ⟨hi, hall⟩
  simp
  by_cases hlt : i < l.length
  · have hav : l[i].av = [.lit (.string l[i].alg), .lit (.string l[i].bytes)] := rfl
    have no : sumAt l i = false → sumsOk l = false := allN_false hlt
    have hat : sumAt l i = (decide ((l[i].bytes.size : Int) = sumLen l[i].alg) && (decide (i = 0) || slt (l.getD (i - 1) sm0).alg l[i].alg)) := by rw [sumAt, getD_lt hlt]
    simp [hlt, hav, ro, mkF, mkF.mkL, okC, putElem, upd]
    refine vcall_go (implLong_fx hE l[i].alg) (by simp) (by simp) (by simp) (by simp) ?_
    simp
    by_cases c1 : (l[i].bytes.size : Int) = sumLen l[i].alg
    · simp [c1]
      rcases Nat.eq_zero_or_pos i with rfl | h0
      · have hn := hall.next (by rw [hat]; simp [c1])
        simp
        exact ⟨1, ⟨by omega, hn⟩, by omega, Wk.both (by simp [wkL, wkV.same, ro]; rw [wrap_i64 (by omega) (by omega)]; exact wkV.same _) (by simp [wkB])⟩
      · obtain ⟨k, rfl⟩ : ∃ k, i = k + 1 := ⟨i - 1, by omega⟩
        have hk : k < l.length := by omega
        have hav2 : l[k].av = [.lit (.string l[k].alg), .lit (.string l[k].bytes)] := rfl
        have c2 : (0 : Int) < (k : Int) + 1 := by omega
        have hw : IntKind.i64.wrap (k : Int) = k := wrap_i64 (by omega) (by omega)
        rw [show k + 1 - 1 = k by omega, getD_lt hk] at hat
        simp [c2, hw, hk, hav2, mkF]
        rw [geq_slt]
        cases c3 : slt l[k].alg l[k + 1].alg
        · have := no (by rw [hat, c3]; simp)
          simp
          exact Fin_ret rfl (by rw [this]; rfl)
        · simp
          exact ⟨k + 1 + 1, ⟨by omega, hall.next (by rw [hat, c3]; simp [c1])⟩, by omega, Wk.both (by simp [wkL, wkV.same, ro]; rw [wrap_i64 (by omega) (by omega)]; exact wkV.same _) (by simp [wkB])⟩
    · have := no (by rw [hat]; simp [c1])
      simp [c1]
      exact Fin_ret rfl (by rw [this]; rfl)
  · obtain rfl : i = l.length := by omega
    simp
    exact Fin_ret rfl (by rw [sumsOk, hall.all]; rfl)
set_option maxHeartbeats 4000000 in
theorem specPack_fx (p : Pk) (hp : p.small) : Fx E 66 [] [.agg p.av] [] (.lit (.bool (packOk p))) := by
  obtain ⟨g1, g2, g3, ⟨g4, g5⟩, _, g6⟩ := hp
  have hpv : p.av = [.lit (.string p.name), .lit (.string p.version), .lit (.string p.source), .sl ro 2 (p.sums.map fun x => .agg x.av), .lit (.bool p.dev), .sl ro 1 (p.needs.map fun x => .lit (.string x))] := rfl
  refine (is66.to hE).fx [] (by simp) rfl rfl ?_
  simp [v66, hpv, okC]
  refine X_loop (τ := Nat) (fun i => ⟨[(1, .ptr 1000000000001 0 0), (3, .lit (.int .i64 i))], [(1000000000001, [.agg p.av])]⟩) (fun i => i ≤ p.sums.length ∧ upTo (sumAt p.sums) i) (fun i => p.sums.length - i) 0 ⟨by omega, upTo.zero _⟩ (Wk.both (by simp [wkL, wkV.same]) (by simp [wkB, hpv])) ?_
  rintro i ⟨hi, hall⟩
  simp [hpv]
  by_cases hlt : i < p.sums.length
  · have hav : p.sums[i].av = [.lit (.string p.sums[i].alg), .lit (.string p.sums[i].bytes)] := rfl
    have no : sumAt p.sums i = false → packOk p = false := fun h => by rw [packOk, sumsOk, allN_false hlt h, Bool.and_false]
    have hat : sumAt p.sums i = (decide ((p.sums[i].bytes.size : Int) = sumLen p.sums[i].alg) && (decide (i = 0) || slt (p.sums.getD (i - 1) sm0).alg p.sums[i].alg)) := by rw [sumAt, getD_lt hlt]
    simp [hlt, hav, ro, mkF, mkF.mkL]
    refine vcall_go (specLong_fx hE p.sums[i].alg) (by simp) (by simp) (by simp) (by simp) ?_
    simp [hlt, hav, ro, mkF, mkF.mkL]
    by_cases c1 : sumLen p.sums[i].alg = (p.sums[i].bytes.size : Int)
    · simp [c1]
      rcases Nat.eq_zero_or_pos i with rfl | h0
      · have hn := hall.next (by rw [hat]; simp [c1])
        simp
        exact ⟨1, ⟨by omega, hn⟩, by omega, Wk.both (by simp [wkL, wkV.same]; rw [wrap_i64 (by omega) (by omega)]; exact wkV.same _) (by simp [wkB, hpv, ro])⟩
      · obtain ⟨k, rfl⟩ : ∃ k, i = k + 1 := ⟨i - 1, by omega⟩
        have hk : k < p.sums.length := by omega
        have hav2 : p.sums[k].av = [.lit (.string p.sums[k].alg), .lit (.string p.sums[k].bytes)] := rfl
        have c2 : (0 : Int) < (k : Int) + 1 := by omega
        have hw : IntKind.i64.wrap (k : Int) = k := wrap_i64 (by omega) (by omega)
        have c4 : (0 : Int) ≤ (k : Int) + 1 := by omega
        have c5 : ((k : Int) + 1).toNat = k + 1 := by omega
        rw [show k + 1 - 1 = k by omega, getD_lt hk] at hat
        simp [c2, c4, c5, hw, hk, hlt, hav, hav2, mkF, ro]
        cases c3 : slt p.sums[k].alg p.sums[k + 1].alg
        · have := no (by rw [hat, c3]; simp)
          simp
          exact Fin_ret rfl (by rw [this]; rfl)
        · simp
          exact ⟨k + 1 + 1, ⟨by omega, hall.next (by rw [hat, c3]; simp [c1])⟩, by omega, Wk.both (by simp [wkL, wkV.same]; rw [wrap_i64 (by omega) (by omega)]; exact wkV.same _) (by simp [wkB, hpv, ro])⟩
    · have := no (by rw [hat]; simp; intro h; exact absurd h.symm c1)
      simp [c1]
      exact Fin_ret rfl (by rw [this]; rfl)
  · obtain rfl : i = p.sums.length := by omega
    have hsu : sumsOk p.sums = true := hall.all
    obtain ⟨ys, e1, e2⟩ := exact_len p.version
    have hxf := specExact_fx hE p.version (by omega)
    rw [e1] at hxf
    simp
    refine vcall_go (specName_fx hE p.name (by omega)) (by simp) (by simp) (by simp) (by simp) ?_
    simp
    cases c1 : nameOk p.name
    · simp
      exact Fin_ret rfl (by simp [packOk, c1, reC])
    simp
    refine vcall_go hxf (by simp) (by simp) (by simp) (by simp) ?_
    simp
    cases c2 : (exactO p.version).isSome
    · rw [c2, if_neg (by simp)] at e2
      simp [e2]
      exact Fin_ret rfl (by simp [packOk, c2, reC])
    rw [c2, if_pos rfl] at e2
    simp [e2]
    refine vcall_go (specPlain_fx hE p.source (by omega)) (by simp) (by simp) (by simp) (by simp) ?_
    simp
    exact Fin_ret rfl (by simp [packOk, c1, c2, hsu, reC])
end
end Go.Proofs.YticockdhfglolaaGreatDoor.Vm
namespace Go.Proofs.YticockdhfglolaaGreatDoor.Vm
open Go Go.RowKit
set_option linter.unusedVariables false
set_option linter.unusedSimpArgs false
def v189 : VC := .seq (.reg false [⟨some 0, .as (.c (.lit (.string (by8 "")))), none⟩] [0]) (.seq (.reg false [⟨some 0, .as (.c (.lit (.string (by8 "ABCDEFGHIJKLMNOPQRSTUVWXYZabcdefghijklmnopqrstuvwxyz0123456789+/")))), none⟩] []) (.ret))
theorem is189 : Is Go.Proofs.Tryz.prog 189 1 v189 [.t 0] := ⟨Go.Proofs.Tryz.f189, dl [(0, [0])], Go.Proofs.Tryz.func189, by kernel_rfl, by kernel_rfl, by kernel_rfl, by kernel_rfl⟩
def v190 : VC := .seq (.reg false [⟨some 2, .as (.c (.lit (.string (by8 "")))), none⟩] [2]) (.seq (.reg false [⟨some 10, .bsl 1 [], none⟩, ⟨some 3, .as (.t 10), none⟩] [10]) (.seq (.reg false [⟨some 11, .call false 189 [], none⟩, ⟨some 4, .as (.t 11), none⟩] [11]) (.seq (.seq (.reg false [⟨some 5, .as (.c (.lit (.int .i64 0))), none⟩] []) (.block 0 (.loop (.seq (.seq (.reg false [⟨some 12, .mv (.t 5), none⟩, ⟨some 13, .mv (.t 0), none⟩, ⟨some 14, .len true (.t 13), none⟩, ⟨some 15, .bin .lss 0 (.t 12) (.t 14), none⟩] [12, 13, 14]) (.cond (.t 15) (.skip) (.exit 0))) (.seq (.block 1 (.seq (.reg false [⟨some 6, .as (.c (.lit (.int .i64 0))), none⟩, ⟨some 7, .as (.c (.lit (.int .i64 0))), none⟩] []) (.seq (.seq (.reg false [⟨some 18, .mv (.t 5), none⟩, ⟨some 8, .as (.t 18), none⟩] [18]) (.block 2 (.loop (.seq (.seq (.reg false [⟨some 19, .mv (.t 8), none⟩, ⟨some 20, .mv (.t 5), none⟩, ⟨some 21, .bin .add 0 (.t 20) (.c (.lit (.int .i64 3))), none⟩, ⟨some 22, .bin .lss 0 (.t 19) (.t 21), none⟩] [19, 20, 21]) (.cond (.t 22) (.skip) (.exit 2))) (.seq (.block 3 (.seq (.reg false [⟨some 25, .mv (.t 6), none⟩, ⟨some 26, .bin .mul 0 (.t 25) (.c (.lit (.int .i64 256))), none⟩, ⟨some 6, .as (.t 26), none⟩] [25, 26]) (.seq (.reg false [⟨some 27, .mv (.t 8), none⟩, ⟨some 28, .mv (.t 0), none⟩, ⟨some 29, .len true (.t 28), none⟩, ⟨some 30, .bin .lss 0 (.t 27) (.t 29), none⟩] [27, 28, 29]) (.cond (.t 30) (.seq (.reg false [⟨some 31, .mv (.t 6), none⟩, ⟨some 32, .mv (.t 0), none⟩, ⟨some 33, .mv (.t 8), none⟩, ⟨some 34, .idx (.t 32) (.t 33), none⟩, ⟨some 35, .cvI .i64 (.t 34), none⟩, ⟨some 36, .bin .add 0 (.t 31) (.t 35), none⟩, ⟨some 6, .as (.t 36), none⟩] [31, 32, 33, 34, 35, 36]) (.reg false [⟨some 37, .mv (.t 7), none⟩, ⟨some 38, .bin .add 0 (.t 37) (.c (.lit (.int .i64 1))), none⟩, ⟨some 7, .as (.t 38), none⟩] [37, 38])) (.skip))))) (.reg false [⟨some 23, .mv (.t 8), none⟩, ⟨some 24, .bin .add 0 (.t 23) (.c (.lit (.int .i64 1))), none⟩, ⟨some 8, .as (.t 24), none⟩] [23, 24])))))) (.seq (.reg false [⟨some 9, .as (.c (.lit (.int .i64 0))), none⟩] []) (.block 4 (.loop (.seq (.seq (.reg false [⟨some 39, .mv (.t 9), none⟩, ⟨some 40, .bin .lss 0 (.t 39) (.c (.lit (.int .i64 4))), none⟩] [39]) (.cond (.t 40) (.skip) (.exit 4))) (.seq (.block 5 (.seq (.reg false [⟨some 43, .mv (.t 9), none⟩, ⟨some 44, .mv (.t 7), none⟩, ⟨some 45, .bin .gtr 0 (.t 43) (.t 44), none⟩] [43, 44]) (.cond (.t 45) (.reg false [⟨some 46, .mv (.t 3), none⟩, ⟨some 47, .bsl 1 [(.c (.lit (.int .u8 61)))], none⟩, ⟨some 48, .app 1 1 (.t 46) (.t 47), none⟩, ⟨some 3, .as (.t 48), none⟩] [46, 47, 48]) (.reg false [⟨some 49, .mv (.t 3), none⟩, ⟨some 50, .mv (.t 4), none⟩, ⟨some 51, .mv (.t 6), none⟩, ⟨some 52, .mv (.t 9), none⟩, ⟨some 53, .bin .mul 0 (.c (.lit (.int .i64 6))) (.t 52), none⟩, ⟨some 54, .bin .sub 0 (.c (.lit (.int .i64 18))) (.t 53), none⟩, ⟨some 55, .bin .shr 0 (.t 51) (.t 54), none⟩, ⟨some 56, .bin .and 0 (.t 55) (.c (.lit (.int .i64 63))), none⟩, ⟨some 57, .idx (.t 50) (.t 56), none⟩, ⟨some 58, .bsl 1 [(.t 57)], none⟩, ⟨some 59, .app 1 1 (.t 49) (.t 58), none⟩, ⟨some 3, .as (.t 59), none⟩] [49, 50, 51, 52, 53, 54, 55, 56, 57, 58, 59])))) (.reg false [⟨some 41, .mv (.t 9), none⟩, ⟨some 42, .bin .add 0 (.t 41) (.c (.lit (.int .i64 1))), none⟩, ⟨some 9, .as (.t 42), none⟩] [41, 42]))))))))) (.reg false [⟨some 16, .mv (.t 5), none⟩, ⟨some 17, .bin .add 0 (.t 16) (.c (.lit (.int .i64 3))), none⟩, ⟨some 5, .as (.t 17), none⟩] [16, 17])))))) (.seq (.reg false [⟨some 60, .mv (.t 3), none⟩, ⟨some 61, .b2s (.t 60), none⟩, ⟨some 2, .as (.t 61), none⟩] [60, 61]) (.ret)))))
theorem is190 : Is Go.Proofs.Tryz.prog 190 62 v190 [.t 2] := ⟨Go.Proofs.Tryz.f190, dl [(0, [2]), (1, [10]), (2, [11]), (4, [12, 13, 14]), (7, [18]), (8, [19, 20, 21]), (10, [25, 26]), (11, [27, 28, 29]), (12, [31, 32, 33, 34, 35, 36]), (13, [37, 38]), (9, [23, 24]), (15, [39]), (17, [43, 44]), (19, [49, 50, 51, 52, 53, 54, 55, 56, 57, 58, 59]), (18, [46, 47, 48]), (16, [41, 42]), (5, [16, 17]), (20, [60, 61])], Go.Proofs.Tryz.func190, by kernel_rfl, by kernel_rfl, by kernel_rfl, by kernel_rfl⟩
def v199 : VC := .seq (.reg false [⟨some 2, .as (.c (.lit (.string (by8 "")))), none⟩] [2]) (.seq (.reg false [⟨some 9, .bsl 1 [], none⟩, ⟨some 3, .as (.t 9), none⟩] [9]) (.seq (.seq (.reg false [⟨some 4, .as (.c (.lit (.int .i64 0))), none⟩] []) (.block 0 (.loop (.seq (.seq (.reg false [⟨some 10, .mv (.t 4), none⟩, ⟨some 11, .mv (.t 0), none⟩, ⟨some 12, .len true (.t 11), none⟩, ⟨some 13, .bin .lss 0 (.t 10) (.t 12), none⟩] [10, 11, 12]) (.cond (.t 13) (.skip) (.exit 0))) (.seq (.block 1 (.seq (.reg false [⟨some 16, .mv (.t 0), none⟩, ⟨some 17, .mv (.t 4), none⟩, ⟨some 18, .mv (.t 4), none⟩, ⟨some 19, .bin .add 0 (.t 18) (.c (.lit (.int .i64 3))), none⟩, ⟨some 20, .mv (.t 0), none⟩, ⟨some 21, .len true (.t 20), none⟩, ⟨some 22, .mn (.t 19) (.t 21), none⟩, ⟨some 23, .slS (.t 16) (some (.t 17)) (some (.t 22)), none⟩, ⟨some 5, .as (.t 23), none⟩] [16, 17, 18, 19, 20, 21, 22, 23]) (.seq (.reg false [⟨some 6, .as (.c (.lit (.int .i64 0))), none⟩] []) (.seq (.seq (.reg false [⟨some 24, .mv (.c (.lit (.int .i64 0))), none⟩] []) (.block 2 (.loop (.seq (.reg false [⟨some 25, .bin .lss 0 (.t 24) (.c (.lit (.int .i64 3))), none⟩] []) (.seq (.cond (.t 25) (.skip) (.exit 2)) (.seq (.block 3 (.seq (.reg false [⟨some 26, .mv (.t 24), none⟩, ⟨some 7, .as (.t 26), none⟩] [26]) (.seq (.reg false [⟨some 27, .mv (.t 6), none⟩, ⟨some 28, .bin .shl 0 (.t 27) (.c (.lit (.int .u64 8))), none⟩, ⟨some 6, .as (.t 28), none⟩] [27, 28]) (.seq (.reg false [⟨some 29, .mv (.t 7), none⟩, ⟨some 30, .mv (.t 5), none⟩, ⟨some 31, .len true (.t 30), none⟩, ⟨some 32, .bin .lss 0 (.t 29) (.t 31), none⟩] [29, 30, 31]) (.cond (.t 32) (.reg false [⟨some 33, .mv (.t 6), none⟩, ⟨some 34, .mv (.t 5), none⟩, ⟨some 35, .mv (.t 7), none⟩, ⟨some 36, .idx (.t 34) (.t 35), none⟩, ⟨some 37, .cvI .i64 (.t 36), none⟩, ⟨some 38, .bin .or 0 (.t 33) (.t 37), none⟩, ⟨some 6, .as (.t 38), none⟩] [33, 34, 35, 36, 37, 38]) (.skip)))))) (.reg false [⟨some 39, .bin .add 0 (.t 24) (.c (.lit (.int .i64 1))), none⟩, ⟨some 24, .mv (.t 39), none⟩] [39]))))))) (.seq (.reg false [⟨some 40, .mv (.c (.lit (.int .i64 0))), none⟩] []) (.block 4 (.loop (.seq (.reg false [⟨some 41, .bin .lss 0 (.t 40) (.c (.lit (.int .i64 4))), none⟩] []) (.seq (.cond (.t 41) (.skip) (.exit 4)) (.seq (.block 5 (.seq (.reg false [⟨some 42, .mv (.t 40), none⟩, ⟨some 8, .as (.t 42), none⟩] [42]) (.seq (.reg false [⟨some 43, .mv (.t 8), none⟩, ⟨some 44, .mv (.t 5), none⟩, ⟨some 45, .len true (.t 44), none⟩, ⟨some 46, .bin .leq 0 (.t 43) (.t 45), none⟩] [43, 44, 45]) (.cond (.t 46) (.reg false [⟨some 47, .mv (.t 3), none⟩, ⟨some 48, .mv (.t 6), none⟩, ⟨some 49, .mv (.t 8), none⟩, ⟨some 50, .bin .mul 0 (.c (.lit (.int .i64 6))) (.t 49), none⟩, ⟨some 51, .bin .sub 0 (.c (.lit (.int .i64 18))) (.t 50), none⟩, ⟨some 52, .bin .shr 0 (.t 48) (.t 51), none⟩, ⟨some 53, .bin .and 0 (.t 52) (.c (.lit (.int .i64 63))), none⟩, ⟨some 54, .idx (.c (.lit (.string (by8 "ABCDEFGHIJKLMNOPQRSTUVWXYZabcdefghijklmnopqrstuvwxyz0123456789+/")))) (.t 53), none⟩, ⟨some 55, .bsl 1 [(.t 54)], none⟩, ⟨some 56, .app 1 1 (.t 47) (.t 55), none⟩, ⟨some 3, .as (.t 56), none⟩] [47, 48, 49, 50, 51, 52, 53, 54, 55, 56]) (.reg false [⟨some 57, .mv (.t 3), none⟩, ⟨some 58, .bsl 1 [(.c (.lit (.int .u8 61)))], none⟩, ⟨some 59, .app 1 1 (.t 57) (.t 58), none⟩, ⟨some 3, .as (.t 59), none⟩] [57, 58, 59]))))) (.reg false [⟨some 60, .bin .add 0 (.t 40) (.c (.lit (.int .i64 1))), none⟩, ⟨some 40, .mv (.t 60), none⟩] [60]))))))))))) (.reg false [⟨some 14, .mv (.t 4), none⟩, ⟨some 15, .bin .add 0 (.t 14) (.c (.lit (.int .i64 3))), none⟩, ⟨some 4, .as (.t 15), none⟩] [14, 15])))))) (.seq (.reg false [⟨some 61, .mv (.t 3), none⟩, ⟨some 62, .b2s (.t 61), none⟩, ⟨some 2, .as (.t 62), none⟩] [61, 62]) (.ret))))
theorem is199 : Is Go.Proofs.Tryz.prog 199 63 v199 [.t 2] := ⟨Go.Proofs.Tryz.f199, dl [(0, [2]), (1, [9]), (3, [10, 11, 12]), (5, [16, 17, 18, 19, 20, 21, 22, 23]), (9, [26]), (10, [27, 28]), (11, [29, 30, 31]), (12, [33, 34, 35, 36, 37, 38]), (13, [39]), (16, [42]), (17, [43, 44, 45]), (19, [57, 58, 59]), (18, [47, 48, 49, 50, 51, 52, 53, 54, 55, 56]), (20, [60]), (4, [14, 15]), (21, [61, 62])], Go.Proofs.Tryz.func199, by kernel_rfl, by kernel_rfl, by kernel_rfl, by kernel_rfl⟩
def sgn : ByteArray := by8 "ABCDEFGHIJKLMNOPQRSTUVWXYZabcdefghijklmnopqrstuvwxyz0123456789+/"
theorem sgn_size : sgn.size = 64 := by decide +kernel
/-- the number of up to three bytes from a place -/
def nv (s : ByteArray) (i : Nat) : Nat → Nat
  | 0 => 0
  | k + 1 => nv s i k * 256 + (bt s (i + k)).toNat
theorem nv_lt (s : ByteArray) (i : Nat) : ∀ k, nv s i k < 256 ^ k
  | 0 => by simp [nv]
  | k + 1 => by
    have := nv_lt s i k
    have := (bt s (i + k)).toNat_lt
    simp only [nv, Nat.pow_succ]
    omega
/-- the sign at a place of a group of four -/
def ch (s : ByteArray) (i j : Nat) : UInt8 := if min 3 (s.size - i) < j then 61 else bt sgn (nv s i 3 / 2 ^ (18 - 6 * j) % 64)
def grp (s : ByteArray) (i j : Nat) : List UInt8 := (List.range j).map (ch s i)
theorem grp_succ (s : ByteArray) (i j : Nat) : grp s i (j + 1) = grp s i j ++ [ch s i j] := by simp [grp, List.range_succ]
theorem grp_len (s : ByteArray) (i j : Nat) : (grp s i j).length = j := by simp [grp]
def b6 (s : ByteArray) : Nat → List UInt8
  | 0 => []
  | k + 1 => b6 s k ++ grp s (3 * k) 4
theorem b6_len (s : ByteArray) : ∀ k, (b6 s k).length = 4 * k
  | 0 => rfl
  | k + 1 => by simp only [b6, List.length_append, b6_len s k, grp_len]; omega
def b64 (s : ByteArray) : ByteArray := ⟨(b6 s ((s.size + 2) / 3)).toArray⟩
theorem b64_size (s : ByteArray) : (b64 s).size = 4 * ((s.size + 2) / 3) := by
  have e : (b64 s).size = (b6 s ((s.size + 2) / 3)).length := List.size_toArray
  rw [e, b6_len]
theorem or_byte (a b : Nat) (ha : a < 65536) (hb : b < 256) : IntKind.i64.wrap ((((a : Int) * 256 % 2 ^ IntKind.i64.bits).toNat ||| ((b : Int) % 2 ^ IntKind.i64.bits).toNat : Nat) : Int) = ((a * 256 + b : Nat) : Int) := by
  rw [show ((2 : Int) ^ IntKind.i64.bits) = 18446744073709551616 from rfl, show ((a : Int) * 256 % 18446744073709551616).toNat = a * 256 by omega, show ((b : Int) % 18446744073709551616).toNat = b by omega]
  have := Nat.shiftLeft_add_eq_or_of_lt (b := b) (i := 8) (by omega) a
  rw [Nat.shiftLeft_eq, show 2 ^ 8 = 256 from rfl] at this
  rw [← this, wrap_i64 (by omega) (by omega)]
theorem fdivN (a b : Nat) : (a : Int).fdiv (b : Int) = ((a / b : Nat) : Int) := by
  rw [Int.fdiv_eq_ediv_of_nonneg _ (by omega)]; rfl
theorem six_bits (v j : Nat) (hv : v < 16777216) (hj : j < 4) : IntKind.i64.wrap ((((((v : Int).fdiv (2 ^ min (18 - 6 * (j : Int)).toNat IntKind.i64.bits) % 2 ^ IntKind.i64.bits).toNat &&& 63 % 2 ^ IntKind.i64.bits) : Nat)) : Int) = ((v / 2 ^ (18 - 6 * j) % 64 : Nat) : Int) := by
  have hb : IntKind.i64.bits = 64 := rfl
  rw [hb, show min (18 - 6 * (j : Int)).toNat 64 = 18 - 6 * j by omega, show ((2 : Int) ^ (18 - 6 * j)) = ((2 ^ (18 - 6 * j) : Nat) : Int) by simp, fdivN]
  have h1 : v / 2 ^ (18 - 6 * j) ≤ v := Nat.div_le_self _ _
  obtain ⟨q, hq⟩ : ∃ q, v / 2 ^ (18 - 6 * j) = q := ⟨_, rfl⟩
  rw [hq] at h1 ⊢
  have h2 : (((q : Nat) : Int) % 2 ^ 64).toNat = q := by
    rw [show ((2 : Int) ^ 64) = 18446744073709551616 from rfl]; omega
  rw [h2, show (63 : Nat) % 2 ^ 64 = 2 ^ 6 - 1 from rfl, Nat.and_two_pow_sub_one_eq_mod]
  have h3 : q % 2 ^ 6 < 64 := Nat.mod_lt _ (by decide)
  rw [wrap_i64 (by omega) (by omega)]
theorem bt_out {s : ByteArray} {i : Nat} (h : s.size ≤ i) : bt s i = 0 := by
  unfold bt
  rw [List.getD_eq_getElem?_getD, List.getElem?_eq_none (by simpa using h)]; rfl
section
variable {E : Env} (hE : E.P = Go.Proofs.Tryz.prog)
include hE
theorem signs_fx : Fx E 189 [] [] [] (.lit (.string sgn)) := by
  refine (is189.to hE).fx [] (by simp) rfl rfl ?_
  simp [v189]
  exact Fin_ret rfl rfl
set_option maxHeartbeats 2000000 in
theorem specB64_fx (s : ByteArray) (hs : s.size ≤ 1099511627776) : Fx E 190 [] [.lit (.string s)] [] (.lit (.string (b64 s))) := by
  refine (is190.to hE).fx [] (by simp) rfl rfl ?_
  simp [v190]
  refine vcall_go (signs_fx hE) (by simp) (by simp) (by simp) (by simp) ?_
  simp
  refine X_loop (τ := Nat) (fun k => ⟨[(0, .lit (.string s)), (3, .sl ⟨.cl 640, true⟩ 1 ((b6 s k).map fun b : UInt8 => .lit (.int .u8 b.toNat))), (4, .lit (.string sgn)), (5, .lit (.int .i64 (3 * k : Nat)))], []⟩) (fun k => k ≤ (s.size + 2) / 3) (fun k => s.size - k) 0 (Nat.zero_le _) (Wk.both (by simp [wkL, wkV.same, frA.frL, b6]) trivial) ?_
  intro k hk
  have hol := b6_len s k
  simp
  by_cases hlt : 3 * k < s.size
  · have hlt' : (3 * (k : Int) < s.size) := by omega
    simp [hlt']
    refine X_loop (τ := Nat) (fun j => ⟨[(0, .lit (.string s)), (3, .sl ⟨.cl 640, true⟩ 1 ((b6 s k).map fun b : UInt8 => .lit (.int .u8 b.toNat))), (4, .lit (.string sgn)), (5, .lit (.int .i64 (3 * k : Nat))), (6, .lit (.int .i64 (nv s (3 * k) j))), (7, .lit (.int .i64 (min j (s.size - 3 * k) : Nat))), (8, .lit (.int .i64 (3 * k + j : Nat)))], []⟩) (fun j => j ≤ 3) (fun j => 3 - j) 0 (by omega) (Wk.both (by simp [wkL, wkV.same, nv]) trivial) ?_
    intro j hj
    have hv := nv_lt s (3 * k) j
    have hv3 : nv s (3 * k) j ≤ 16777216 := by
      have : 256 ^ j ≤ 256 ^ 3 := Nat.pow_le_pow_right (by omega) hj
      omega
    simp
    rw [wrap_i64 (i := 3 * (k : Int) + 3) (by omega) (by omega)]
    by_cases h3 : j < 3
    · have h3' : (3 * (k : Int) + j < 3 * k + 3) := by omega
      have hv2 : nv s (3 * k) j < 65536 := by
        have : 256 ^ j ≤ 256 ^ 2 := Nat.pow_le_pow_right (by omega) (by omega)
        omega
      simp [h3']
      rw [wrap_i64 (i := (nv s (3 * k) j : Int) * 256) (by omega) (by omega)]
      by_cases c : 3 * k + j < s.size
      · have c' : (3 * (k : Int) + j < s.size) := by omega
        have hb := (bt s (3 * k + j)).toNat_lt
        simp [c', show (3 * (k : Int) + j).toNat = 3 * k + j by omega]
        have e1 : IntKind.i64.wrap (↑(nv s (3 * k) j) * 256 + IntKind.i64.wrap ↑(bt s (3 * k + j)).toNat) = (nv s (3 * k) (j + 1) : Nat) := by
          rw [wrap_i64 (i := ((bt s (3 * k + j)).toNat : Int)) (by omega) (by omega), wrap_i64 (by omega) (by omega)]; rfl
        have e2 : IntKind.i64.wrap (↑(min j (s.size - 3 * k)) + 1) = (min (j + 1) (s.size - 3 * k) : Nat) := by
          rw [wrap_i64 (by omega) (by omega)]; omega
        have e3 : IntKind.i64.wrap (3 * ↑k + ↑j + 1) = 3 * ↑k + ((j + 1 : Nat) : Int) := by
          rw [wrap_i64 (by omega) (by omega)]; omega
        rw [e1, e2, e3]
        exact ⟨by omega, j + 1, by omega, by omega, Wk.both (by simp [wkL, wkV.same]) trivial⟩
      · have c' : ¬ (3 * (k : Int) + j < s.size) := by omega
        simp [c']
        have e1 : ((nv s (3 * k) j : Nat) : Int) * 256 = (nv s (3 * k) (j + 1) : Nat) := by
          simp [nv, bt_out (s := s) (i := 3 * k + j) (by omega)]
        have e2 : min j (s.size - 3 * k) = min (j + 1) (s.size - 3 * k) := by omega
        have e3 : IntKind.i64.wrap (3 * ↑k + ↑j + 1) = 3 * ↑k + ((j + 1 : Nat) : Int) := by
          rw [wrap_i64 (by omega) (by omega)]; omega
        rw [e1, e3]
        exact ⟨j + 1, by omega, by omega, Wk.both (by simp only [← e2]; simp [wkL, wkV.same]) trivial⟩
    · obtain rfl : j = 3 := by omega
      simp
      refine X_loop (τ := Nat) (fun j => ⟨[(0, .lit (.string s)), (3, .sl ⟨.cl 640, true⟩ 1 ((b6 s k ++ grp s (3 * k) j).map fun b : UInt8 => .lit (.int .u8 b.toNat))), (4, .lit (.string sgn)), (5, .lit (.int .i64 (3 * k : Nat))), (6, .lit (.int .i64 (nv s (3 * k) 3))), (7, .lit (.int .i64 (min 3 (s.size - 3 * k) : Nat))), (9, .lit (.int .i64 j))], []⟩) (fun j => j ≤ 4) (fun j => 4 - j) 0 (by omega) (Wk.both (by simp [wkL, wkV.same, nv, grp]) trivial) ?_
      intro j hj
      have hgl := grp_len s (3 * k) j
      simp
      by_cases h4 : j < 4
      · have h4' : (j : Int) < 4 := by omega
        simp [h4']
        by_cases c : min 3 (s.size - 3 * k) < j
        · rw [decide_eq_true c]
          simp [okC, frA, frA.frL, AS.dem, mapV, dem, dem.demL]
          have e1 : ch s (3 * k) j = 61 := by rw [ch, if_pos c]
          refine ⟨by omega, j + 1, by omega, by omega, Wk.both (by simp [wkL, wkV.same, grp_succ, e1]; rw [wrap_i64 (by omega) (by omega)]; exact wkV.same _) trivial⟩
        · rw [decide_eq_false c]
          simp
          rw [wrap_i64 (i := 6 * (j : Int)) (by omega) (by omega), wrap_i64 (i := 18 - 6 * (j : Int)) (by omega) (by omega)]
          simp [show ¬ (18 - 6 * (j : Int) < 0) by omega]
          simp [okC, frA, frA.frL, AS.dem, mapV, dem, dem.demL]
          have h64 : nv s (3 * k) 3 / 2 ^ (18 - 6 * j) % 64 < 64 := Nat.mod_lt _ (by decide)
          have hsz := sgn_size
          rw [six_bits _ _ (by omega) h4, show (((nv s (3 * k) 3 / 2 ^ (18 - 6 * j) % 64 : Nat) : Int)).toNat = nv s (3 * k) 3 / 2 ^ (18 - 6 * j) % 64 from rfl]
          have e1 : ch s (3 * k) j = bt sgn (nv s (3 * k) 3 / 2 ^ (18 - 6 * j) % 64) := by rw [ch, if_neg c]
          refine ⟨by omega, by omega, by omega, j + 1, by omega, by omega, Wk.both (by simp [wkL, wkV.same, grp_succ, e1]; rw [wrap_i64 (by omega) (by omega)]; exact wkV.same _) trivial⟩
      · obtain rfl : j = 4 := by omega
        simp
        exact ⟨k + 1, by omega, by omega, Wk.both (by simp [wkL, wkV.same, b6]; rw [wrap_i64 (by omega) (by omega)]; exact .inl (by simp; omega)) trivial⟩
  · have hlt' : ¬ (3 * (k : Int) < s.size) := by omega
    simp [hlt']
    refine Xa_b2s (l := b6 s k) rfl ?_
    simp
    refine Fin_ret rfl ?_
    rw [show k = (s.size + 2) / 3 by omega]
    rfl
set_option maxHeartbeats 2000000 in
theorem implB64_fx (s : ByteArray) (hs : s.size ≤ 1099511627776) : Fx E 199 [] [.lit (.string s)] [] (.lit (.string (b64 s))) := by
  refine (is199.to hE).fx [] (by simp) rfl rfl ?_
  simp [v199]
  refine X_loop (τ := Nat) (fun k => ⟨[(0, .lit (.string s)), (3, .sl ⟨.cl 576, true⟩ 1 ((b6 s k).map fun b : UInt8 => .lit (.int .u8 b.toNat))), (4, .lit (.int .i64 (3 * k : Nat)))], []⟩) (fun k => k ≤ (s.size + 2) / 3) (fun k => s.size - k) 0 (Nat.zero_le _) (Wk.both (by simp [wkL, wkV.same, frA.frL, b6]) trivial) ?_
  intro k hk
  have hol := b6_len s k
  simp
  by_cases hlt : 3 * k < s.size
  · have hlt' : (3 * (k : Int) < s.size) := by omega
    simp [hlt']
    rw [wrap_i64 (i := 3 * (k : Int) + 3) (by omega) (by omega)]
    obtain ⟨m, hm⟩ : ∃ m, min (3 * k + 3) s.size = m := ⟨_, rfl⟩
    refine wh_ll (l := (3 * k : Nat)) (h := (m : Nat)) (k' := .i64) rfl (by simp; omega) (by omega) (by omega) (by omega) ?_
    obtain ⟨y, hy⟩ : ∃ y, s.extract (3 * k) m = y := ⟨_, rfl⟩
    have hyz : y.size = m - 3 * k := by rw [← hy, ext_size]; omega
    have hyb : ∀ j, j < y.size → bt y j = bt s (3 * k + j) := fun j hj => by rw [← hy]; exact bt_ext (by omega)
    simp [hy, show (3 * (k : Int)).toNat = 3 * k by omega]
    refine X_loop (τ := Nat) (fun j => ⟨[(0, .lit (.string s)), (3, .sl ⟨.cl 576, true⟩ 1 ((b6 s k).map fun b : UInt8 => .lit (.int .u8 b.toNat))), (4, .lit (.int .i64 (3 * k : Nat))), (5, .lit (.string y)), (6, .lit (.int .i64 (nv s (3 * k) j))), (24, .lit (.int .i64 j))], []⟩) (fun j => j ≤ 3) (fun j => 3 - j) 0 (by omega) (Wk.both (by simp [wkL, wkV.same, nv]) trivial) ?_
    intro j hj
    have hv := nv_lt s (3 * k) j
    have hv3 : nv s (3 * k) j ≤ 16777216 := by
      have : 256 ^ j ≤ 256 ^ 3 := Nat.pow_le_pow_right (by omega) hj
      omega
    simp
    by_cases h3 : j < 3
    · have h3' : ((j : Int) < 3) := by omega
      have hv2 : nv s (3 * k) j < 65536 := by
        have : 256 ^ j ≤ 256 ^ 2 := Nat.pow_le_pow_right (by omega) (by omega)
        omega
      simp [h3']
      rw [show ((2 : Int) ^ min 8 IntKind.i64.bits) = 256 from rfl, wrap_i64 (i := (nv s (3 * k) j : Int) * 256) (by omega) (by omega)]
      by_cases c : j < y.size
      · have hb := (bt s (3 * k + j)).toNat_lt
        simp [c, hyb j c]
        rw [wrap_i64 (i := ((bt s (3 * k + j)).toNat : Int)) (by omega) (by omega)]
        have e1 := or_byte (nv s (3 * k) j) (bt s (3 * k + j)).toNat hv2 hb
        have e3 : IntKind.i64.wrap (↑j + 1) = ((j + 1 : Nat) : Int) := by
          rw [wrap_i64 (by omega) (by omega)]; omega
        rw [e1, e3]
        exact ⟨j + 1, by omega, by omega, Wk.both (by simp [wkL, wkV.same, nv]) trivial⟩
      · simp [c]
        have e1 : ((nv s (3 * k) j : Nat) : Int) * 256 = (nv s (3 * k) (j + 1) : Nat) := by
          simp [nv, bt_out (s := s) (i := 3 * k + j) (by omega)]
        have e3 : IntKind.i64.wrap (↑j + 1) = ((j + 1 : Nat) : Int) := by
          rw [wrap_i64 (by omega) (by omega)]; omega
        rw [e1, e3]
        exact ⟨j + 1, by omega, by omega, Wk.both (by simp [wkL, wkV.same]) trivial⟩
    · obtain rfl : j = 3 := by omega
      simp
      refine X_loop (τ := Nat) (fun j => ⟨[(0, .lit (.string s)), (3, .sl ⟨.cl 576, true⟩ 1 ((b6 s k ++ grp s (3 * k) j).map fun b : UInt8 => .lit (.int .u8 b.toNat))), (4, .lit (.int .i64 (3 * k : Nat))), (5, .lit (.string y)), (6, .lit (.int .i64 (nv s (3 * k) 3))), (40, .lit (.int .i64 j))], []⟩) (fun j => j ≤ 4) (fun j => 4 - j) 0 (by omega) (Wk.both (by simp [wkL, wkV.same, nv, grp]) trivial) ?_
      intro j hj
      have hgl := grp_len s (3 * k) j
      simp
      by_cases h4 : j < 4
      · have h4' : (j : Int) < 4 := by omega
        simp [h4']
        by_cases c : y.size < j
        · simp [c, show ¬ j ≤ y.size by omega]
          simp [okC, frA, frA.frL, AS.dem, mapV, dem, dem.demL]
          have e1 : ch s (3 * k) j = 61 := by rw [ch, if_pos (by omega)]
          refine ⟨by omega, j + 1, by omega, by omega, Wk.both (by simp [wkL, wkV.same, grp_succ, e1]; rw [wrap_i64 (by omega) (by omega)]; exact wkV.same _) trivial⟩
        · simp [c, show j ≤ y.size by omega]
          rw [wrap_i64 (i := 6 * (j : Int)) (by omega) (by omega), wrap_i64 (i := 18 - 6 * (j : Int)) (by omega) (by omega)]
          simp [show ¬ (18 - 6 * (j : Int) < 0) by omega]
          simp [okC, frA, frA.frL, AS.dem, mapV, dem, dem.demL]
          have h64 : nv s (3 * k) 3 / 2 ^ (18 - 6 * j) % 64 < 64 := Nat.mod_lt _ (by decide)
          have hsz := sgn_size
          rw [six_bits _ _ (by omega) h4, show (((nv s (3 * k) 3 / 2 ^ (18 - 6 * j) % 64 : Nat) : Int)).toNat = nv s (3 * k) 3 / 2 ^ (18 - 6 * j) % 64 from rfl, show (by8 "ABCDEFGHIJKLMNOPQRSTUVWXYZabcdefghijklmnopqrstuvwxyz0123456789+/") = sgn from rfl]
          have e1 : ch s (3 * k) j = bt sgn (nv s (3 * k) 3 / 2 ^ (18 - 6 * j) % 64) := by rw [ch, if_neg (by omega)]
          refine ⟨by omega, by omega, by omega, j + 1, by omega, by omega, Wk.both (by simp [wkL, wkV.same, grp_succ, e1]; rw [wrap_i64 (by omega) (by omega)]; exact wkV.same _) trivial⟩
      · obtain rfl : j = 4 := by omega
        simp
        exact ⟨k + 1, by omega, by omega, Wk.both (by simp [wkL, wkV.same, b6]; rw [wrap_i64 (by omega) (by omega)]; exact .inl (by simp; omega)) trivial⟩
  · have hlt' : ¬ (3 * (k : Int) < s.size) := by omega
    simp [hlt']
    refine Xa_b2s (l := b6 s k) rfl ?_
    simp
    refine Fin_ret rfl ?_
    rw [show k = (s.size + 2) / 3 by omega]
    rfl
end
end Go.Proofs.YticockdhfglolaaGreatDoor.Vm
namespace Go.Proofs.YticockdhfglolaaGreatDoor.Vm
open Go Go.RowKit
set_option linter.unusedVariables false
set_option linter.unusedSimpArgs false
/-- how many signs there are for so many bytes -/
def sgnN (m : Nat) : Nat := m + (m + 2) / 3
/-- six bits at a place -/
def six (b : ByteArray) (i : Nat) : Nat := nv b (3 * (i / 4)) 3 / 2 ^ (18 - 6 * (i % 4)) % 64
theorem six_lt (b : ByteArray) (i : Nat) : six b i < 64 := Nat.mod_lt _ (by decide)
theorem b6_get (s : ByteArray) : ∀ (k i : Nat), i < 4 * k → (b6 s k)[i]? = some (ch s (3 * (i / 4)) (i % 4))
  | 0, i, h => by omega
  | k + 1, i, h => by
    have hl := b6_len s k
    simp only [b6]
    by_cases h1 : i < 4 * k
    · rw [List.getElem?_append_left (by omega)]; exact b6_get s k i h1
    · rw [List.getElem?_append_right (by omega), hl, grp, List.getElem?_map, List.getElem?_range (by omega)]
      simp only [Option.map_some]
      rw [show i / 4 = k by omega, show i % 4 = i - 4 * k by omega]
theorem b64_bt (b : ByteArray) {i : Nat} (h : i < (b64 b).size) : bt (b64 b) i = ch b (3 * (i / 4)) (i % 4) := by
  have h1 := bt_get h
  have h2 : (b64 b).data.toList = b6 b ((b.size + 2) / 3) := rfl
  rw [h2, b6_get b _ i (by rw [b64_size] at h; exact h)] at h1
  exact (Option.some.inj h1).symm
theorem sgnN_le (m : Nat) : sgnN m ≤ 4 * ((m + 2) / 3) := by unfold sgnN; omega
theorem b64_sign (b : ByteArray) {i : Nat} (h : i < sgnN b.size) : bt (b64 b) i = bt sgn (six b i) := by
  have h0 := sgnN_le b.size
  rw [b64_bt b (by rw [b64_size]; omega), ch, if_neg (by unfold sgnN at h; omega)]
  rfl
theorem b64_pad (b : ByteArray) {i : Nat} (h : sgnN b.size ≤ i) (h2 : i < (b64 b).size) : bt (b64 b) i = 61 := by
  rw [b64_bt b h2]
  rw [b64_size] at h2
  rw [ch, if_pos (by unfold sgnN at h; omega)]
theorem sgn_idx : ∀ x : _root_.Fin 64, Lib.indexB sgn (one (bt sgn x.val)) = x.val := by decide +kernel
theorem sgn_idx' {x : Nat} (h : x < 64) : Lib.indexB sgn (one (bt sgn x)) = x := sgn_idx ⟨x, h⟩
theorem sgn_pad : Lib.indexB sgn (one 61) = -1 := by decide +kernel
theorem sgn_not_pad : ∀ x : _root_.Fin 64, bt sgn x.val ≠ 61 := by decide +kernel
/-- three bytes out of four sixes -/
theorem nv3 (b : ByteArray) (i : Nat) : nv b i 3 = (bt b i).toNat * 65536 + (bt b (i + 1)).toNat * 256 + (bt b (i + 2)).toNat := by
  simp only [nv, Nat.add_zero]; omega
theorem byte_out (b : ByteArray) {i : Nat} (hr : i % 4 ≠ 0) {x : Nat} (hx : x % 4096 = six b (i - 1) * 64 + six b i) : x / 2 ^ (2 * (3 - i % 4)) % 256 = (bt b (3 * (i / 4) + i % 4 - 1)).toNat := by
  have h3 := nv3 b (3 * (i / 4))
  have u0 := (bt b (3 * (i / 4))).toNat_lt
  have u1 := (bt b (3 * (i / 4) + 1)).toNat_lt
  have u2 := (bt b (3 * (i / 4) + 2)).toNat_lt
  have hq : (i - 1) / 4 = i / 4 := by omega
  unfold six at hx
  rw [hq, h3] at hx
  have : i % 4 = 1 ∨ i % 4 = 2 ∨ i % 4 = 3 := by omega
  rcases this with e | e | e
  · rw [show (i - 1) % 4 = 0 by omega, e] at hx
    rw [e, show 3 * (i / 4) + 1 - 1 = 3 * (i / 4) by omega]
    simp only [Nat.reduceMul, Nat.reduceSub, Nat.reducePow] at hx ⊢
    omega
  · rw [show (i - 1) % 4 = 1 by omega, e] at hx
    rw [e, show 3 * (i / 4) + 2 - 1 = 3 * (i / 4) + 1 by omega]
    simp only [Nat.reduceMul, Nat.reduceSub, Nat.reducePow] at hx ⊢
    omega
  · rw [show (i - 1) % 4 = 2 by omega, e] at hx
    rw [e, show 3 * (i / 4) + 3 - 1 = 3 * (i / 4) + 2 by omega]
    simp only [Nat.reduceMul, Nat.reduceSub, Nat.reducePow] at hx ⊢
    omega
end Go.Proofs.YticockdhfglolaaGreatDoor.Vm
namespace Go.Proofs.YticockdhfglolaaGreatDoor.Vm
open Go Go.RowKit
set_option linter.unusedVariables false
set_option linter.unusedSimpArgs false
def v134 : VC := .seq (.reg false [⟨some 2, .as (.c (.lit (.string (by8 "")))), none⟩, ⟨some 3, .as (.c (.lit (.bool false))), none⟩] [2, 3]) (.seq (.reg false [⟨some 10, .bsl 1 [], none⟩, ⟨some 4, .as (.t 10), none⟩] [10]) (.seq (.reg false [⟨some 5, .as (.c (.lit (.int .i64 0))), none⟩, ⟨some 6, .as (.c (.lit (.int .i64 0))), none⟩] []) (.seq (.seq (.reg false [⟨some 7, .as (.c (.lit (.int .i64 0))), none⟩] []) (.block 0 (.loop (.seq (.seq (.reg false [⟨some 11, .mv (.t 7), none⟩, ⟨some 12, .mv (.t 0), none⟩, ⟨some 13, .len true (.t 12), none⟩, ⟨some 14, .bin .lss 0 (.t 11) (.t 13), none⟩] [11, 12, 13]) (.cond (.t 14) (.skip) (.exit 0))) (.seq (.block 1 (.seq (.reg true [⟨some 17, .call true 189 [], none⟩, ⟨some 18, .mv (.t 0), none⟩, ⟨some 19, .mv (.t 7), none⟩, ⟨some 20, .idx (.t 18) (.t 19), none⟩, ⟨some 21, .call true 100 [(.t 17), (.t 20)], none⟩, ⟨some 8, .as (.t 21), none⟩] [17, 18, 19, 20, 21]) (.seq (.seq (.reg false [⟨some 22, .mv (.t 8), none⟩, ⟨some 23, .bin .lss 0 (.t 22) (.c (.lit (.int .i64 0))), none⟩] [22]) (.cond (.t 23) (.exit 0) (.skip))) (.seq (.reg false [⟨some 24, .mv (.t 5), none⟩, ⟨some 25, .bin .shl 0 (.t 24) (.c (.lit (.int .u64 6))), none⟩, ⟨some 26, .bin .and 0 (.t 25) (.c (.lit (.int .i64 16777215))), none⟩, ⟨some 27, .mv (.t 8), none⟩, ⟨some 28, .bin .add 0 (.t 26) (.t 27), none⟩, ⟨some 5, .as (.t 28), none⟩] [24, 25, 26, 27, 28]) (.seq (.reg false [⟨some 29, .mv (.t 6), none⟩, ⟨some 30, .bin .add 0 (.t 29) (.c (.lit (.int .i64 1))), none⟩, ⟨some 6, .as (.t 30), none⟩] [29, 30]) (.seq (.reg false [⟨some 31, .mv (.t 6), none⟩, ⟨some 32, .bin .rem 0 (.t 31) (.c (.lit (.int .i64 4))), none⟩, ⟨some 33, .bin .neq 0 (.t 32) (.c (.lit (.int .i64 1))), none⟩] [31, 32]) (.cond (.t 33) (.reg false [⟨some 34, .mv (.t 4), none⟩, ⟨some 35, .mv (.t 5), none⟩, ⟨some 36, .mv (.t 6), none⟩, ⟨some 37, .bin .sub 0 (.t 36) (.c (.lit (.int .i64 1))), none⟩, ⟨some 38, .bin .rem 0 (.t 37) (.c (.lit (.int .i64 4))), none⟩, ⟨some 39, .bin .sub 0 (.c (.lit (.int .i64 3))) (.t 38), none⟩, ⟨some 40, .bin .mul 0 (.c (.lit (.int .i64 2))) (.t 39), none⟩, ⟨some 41, .bin .shr 0 (.t 35) (.t 40), none⟩, ⟨some 42, .cvI .u8 (.t 41), none⟩, ⟨some 43, .bsl 1 [(.t 42)], none⟩, ⟨some 44, .app 1 1 (.t 34) (.t 43), none⟩, ⟨some 4, .as (.t 44), none⟩] [34, 35, 36, 37, 38, 39, 40, 41, 42, 43, 44]) (.skip)))))))) (.reg false [⟨some 15, .mv (.t 7), none⟩, ⟨some 16, .bin .add 0 (.t 15) (.c (.lit (.int .i64 1))), none⟩, ⟨some 7, .as (.t 16), none⟩] [15, 16])))))) (.seq (.reg false [⟨some 45, .mv (.t 4), none⟩, ⟨some 46, .b2s (.t 45), none⟩, ⟨some 9, .as (.t 46), none⟩] [45, 46]) (.seq (.seq (.reg false [⟨some 47, .mv (.t 9), none⟩, ⟨some 48, .call false 190 [(.t 47)], none⟩, ⟨some 49, .mv (.t 0), none⟩, ⟨some 50, .bin .neq 0 (.t 48) (.t 49), none⟩] [47, 48, 49]) (.cond (.t 50) (.seq (.reg false [⟨some 2, .as (.c (.lit (.string (by8 "")))), none⟩, ⟨some 3, .as (.c (.lit (.bool false))), none⟩] []) (.ret)) (.skip))) (.seq (.reg false [⟨some 51, .mv (.t 9), none⟩, ⟨some 2, .as (.t 51), none⟩, ⟨some 3, .as (.c (.lit (.bool true))), none⟩] [51]) (.ret)))))))
theorem is134 : Is Go.Proofs.Tryz.prog 134 52 v134 [.t 2, .t 3] := ⟨Go.Proofs.Tryz.f134, dl [(0, [2, 3]), (1, [10]), (4, [11, 12, 13]), (6, [17, 18, 19, 20, 21]), (7, [22]), (8, [24, 25, 26, 27, 28]), (9, [29, 30]), (10, [31, 32]), (11, [34, 35, 36, 37, 38, 39, 40, 41, 42, 43, 44]), (5, [15, 16]), (12, [45, 46]), (13, [47, 48, 49]), (15, [51])], Go.Proofs.Tryz.func134, by kernel_rfl, by kernel_rfl, by kernel_rfl, by kernel_rfl⟩
noncomputable def unB (s : ByteArray) : Option ByteArray := @dite _ (∃ b, b64 b = s) (Classical.propDecidable _) (fun h => some h.choose) fun _ => none
noncomputable def unRes (s : ByteArray) : AV := match unB s with
  | some b => .tup [.lit (.string b), .lit (.bool true)]
  | none => .tup [.lit (.string (by8 "")), .lit (.bool false)]
theorem unRes_ok (s : ByteArray) : resOk (unRes s) = true := by unfold unRes; cases unB s <;> rfl
theorem un_yes {s B : ByteArray} (h : ∀ b, s = b64 b → B = b) (h2 : b64 B = s) : unRes s = .tup [.lit (.string B), .lit (.bool true)] := by
  have he : ∃ b, b64 b = s := ⟨B, h2⟩
  have : unB s = some he.choose := by unfold unB; rw [dif_pos he]
  rw [unRes, this, ← h _ he.choose_spec.symm]
theorem un_no {s B : ByteArray} (h : ∀ b, s = b64 b → B = b) (h2 : ¬ b64 B = s) : unRes s = .tup [.lit (.string (by8 "")), .lit (.bool false)] := by
  have he : ¬ ∃ b, b64 b = s := fun ⟨b, hb⟩ => h2 (by rw [h b hb.symm, hb])
  have : unB s = none := by unfold unB; rw [dif_neg he]
  rw [unRes, this]
theorem un_none {s : ByteArray} (h : ∀ b, s ≠ b64 b) : unRes s = .tup [.lit (.string (by8 "")), .lit (.bool false)] := by
  have he : ¬ ∃ b, b64 b = s := fun ⟨b, hb⟩ => h b hb.symm
  have : unB s = none := by unfold unB; rw [dif_neg he]
  rw [unRes, this]
def sm (b : ByteArray) : Nat → Nat
  | 0 => 0
  | i + 1 => sm b i * 64 % 16777216 + six b i
theorem sm_mod (b : ByteArray) {i : Nat} (h : i ≠ 0) : sm b i % 64 = six b (i - 1) := by
  obtain ⟨k, rfl⟩ : ∃ k, i = k + 1 := ⟨i - 1, by omega⟩
  have := six_lt b k
  simp only [sm, Nat.add_sub_cancel]
  omega
theorem sm_two (b : ByteArray) {i : Nat} (h : i ≠ 0) : sm b (i + 1) % 4096 = six b (i - 1) * 64 + six b i := by
  have h1 := sm_mod b h
  have h2 := six_lt b i
  have h3 := six_lt b (i - 1)
  simp only [sm]
  omega
/-- how many bytes are out behind so many signs -/
def outN (i : Nat) : Nat := i - (i + 3) / 4
theorem outN_all (m : Nat) : outN (sgnN m) = m := by unfold outN sgnN; omega
/-- as far as a place -/
structure B6At (s : ByteArray) (i sum : Nat) (out : List UInt8) : Prop where
  at' : ∀ b, s = b64 b → i ≤ sgnN b.size ∧ sum = sm b i ∧ out = b.data.toList.take (outN i)
theorem B6At.end' {s : ByteArray} {i sum : Nat} {out : List UInt8} (h : B6At s i sum out) (he : i = s.size ∨ (i < s.size ∧ Lib.indexB sgn (one (bt s i)) = -1)) : ∀ b, s = b64 b → (⟨out.toArray⟩ : ByteArray) = b := by
  rintro b rfl
  obtain ⟨h1, _, h3⟩ := h.at' b rfl
  have hz := b64_size b
  have hn := sgnN_le b.size
  have hi : i = sgnN b.size := by
    rcases he with he | ⟨he, h4⟩
    · omega
    · rcases Nat.lt_or_ge i (sgnN b.size) with h5 | h5
      · rw [b64_sign b h5, sgn_idx' (six_lt b i)] at h4
        omega
      · omega
  rw [hi, outN_all] at h3
  refine ba_ext ?_
  rw [h3, List.take_of_length_le (by simp)]
theorem B6At.sign {s : ByteArray} {i sum x : Nat} {out : List UInt8} (h : B6At s i sum out) (hi : i < s.size) (hx : Lib.indexB sgn (one (bt s i)) = x) : ∀ b, s = b64 b → i < sgnN b.size ∧ x = six b i := by
  rintro b rfl
  obtain ⟨h1, _, h3⟩ := h.at' b rfl
  have h5 : i < sgnN b.size := by
    rcases Nat.lt_or_ge i (sgnN b.size) with h5 | h5
    · exact h5
    · rw [b64_pad b h5 hi, sgn_pad] at hx; omega
  rw [b64_sign b h5, sgn_idx' (six_lt b i)] at hx
  exact ⟨h5, by omega⟩
theorem take_bt {b : ByteArray} {k : Nat} (h : k < b.size) : b.data.toList.take (k + 1) = b.data.toList.take k ++ [bt b k] := by
  have hl : k < b.data.toList.length := by simpa using h
  rw [List.take_succ_eq_append_getElem hl]
  have := bt_get h
  rw [List.getElem?_eq_getElem hl] at this
  rw [Option.some.inj this]
theorem B6At.next0 {s : ByteArray} {i sum x : Nat} {out : List UInt8} (h : B6At s i sum out) (hi : i < s.size) (hx : Lib.indexB sgn (one (bt s i)) = x) (hr : i % 4 = 0) : B6At s (i + 1) (sum * 64 % 16777216 + x) out := ⟨fun b hb => by
  obtain ⟨h1, h2, h3⟩ := h.at' b hb
  obtain ⟨h4, h5⟩ := h.sign hi hx b hb
  exact ⟨h4, by rw [sm, ← h2, ← h5], by rw [h3, show outN (i + 1) = outN i by unfold outN; omega]⟩⟩
theorem B6At.next {s : ByteArray} {i sum x : Nat} {out : List UInt8} (h : B6At s i sum out) (hi : i < s.size) (hx : Lib.indexB sgn (one (bt s i)) = x) (hr : i % 4 ≠ 0) : B6At s (i + 1) (sum * 64 % 16777216 + x) (out ++ [UInt8.ofNat ((sum * 64 % 16777216 + x) / 2 ^ (2 * (3 - i % 4)))]) := ⟨fun b hb => by
  obtain ⟨h1, h2, h3⟩ := h.at' b hb
  obtain ⟨h4, h5⟩ := h.sign hi hx b hb
  have h6 : sum * 64 % 16777216 + x = sm b (i + 1) := by rw [sm, ← h2, ← h5]
  have h7 := byte_out b hr (sm_two b (i := i) (by omega))
  have hk : outN i < b.size := by unfold outN; unfold sgnN at h4; omega
  refine ⟨h4, h6, ?_⟩
  rw [h6, h3, show outN (i + 1) = outN i + 1 by unfold outN; omega, take_bt hk]
  congr 2
  have e : 3 * (i / 4) + i % 4 - 1 = outN i := by unfold outN; omega
  rw [e] at h7
  exact UInt8.toNat_inj.1 (by rw [UInt8.toNat_ofNat', h7])⟩
theorem acc24 (sum x : Nat) (hs : sum < 16777216) (hx : x < 64) : IntKind.i64.wrap (IntKind.i64.wrap (((IntKind.i64.wrap ((sum : Int) * 2 ^ min 6 IntKind.i64.bits) % 2 ^ IntKind.i64.bits).toNat &&& 16777215 % 2 ^ IntKind.i64.bits : Nat) : Int) + x) = ((sum * 64 % 16777216 + x : Nat) : Int) := by
  rw [show ((2 : Int) ^ min 6 IntKind.i64.bits) = 64 from rfl, wrap_i64 (i := (sum : Int) * 64) (by omega) (by omega), show ((2 : Int) ^ IntKind.i64.bits) = 18446744073709551616 from rfl, show (((sum : Int) * 64) % 18446744073709551616).toNat = sum * 64 by omega, show (16777215 % 2 ^ IntKind.i64.bits : Nat) = 2 ^ 24 - 1 from rfl, Nat.and_two_pow_sub_one_eq_mod, show (2 ^ 24 : Nat) = 16777216 from rfl]
  have h : sum * 64 % 16777216 < 16777216 := Nat.mod_lt _ (by decide)
  rw [wrap_i64 (i := ((sum * 64 % 16777216 : Nat) : Int)) (by omega) (by omega), wrap_i64 (by omega) (by omega)]
  omega
section
variable {E : Env} (hE : E.P = Go.Proofs.Tryz.prog)
include hE
set_option maxHeartbeats 4000000 in
theorem specGet64_fx (s : ByteArray) (hs : s.size ≤ 1099511627776) : Fx E 134 [] [.lit (.string s)] [] (unRes s) := by
  refine (is134.to hE).fx [] (by simp) rfl (unRes_ok s) ?_
  simp [v134]
  refine X_loop (τ := Nat × Nat × List UInt8) (fun p => ⟨[(0, .lit (.string s)), (4, .sl ⟨.cl 640, true⟩ 1 (p.2.2.map fun b : UInt8 => .lit (.int .u8 b.toNat))), (5, .lit (.int .i64 p.2.1)), (6, .lit (.int .i64 p.1)), (7, .lit (.int .i64 p.1))], []⟩) (fun p => p.1 ≤ s.size ∧ p.2.1 < 16777216 ∧ p.2.2.length ≤ p.1 ∧ B6At s p.1 p.2.1 p.2.2) (fun p => s.size - p.1) (0, 0, []) ⟨Nat.zero_le _, by decide, by simp, ⟨fun b hb => ⟨Nat.zero_le _, rfl, rfl⟩⟩⟩ (Wk.both (by simp [wkL, wkV.same, frA.frL]) trivial) ?_
  rintro ⟨i, sum, out⟩ ⟨hi, hsum, hol, hat⟩
  simp only at hi hsum hol hat
  simp
  by_cases hlt : i < s.size
  · simp [hlt]
    refine vcall_go (signs_fx hE) (by simp) (by simp) (by simp) (by simp) ?_
    simp [hlt]
    refine vcall_go (l01At_fx hE sgn (bt s i) (by rw [sgn_size]; omega)) (by simp) (by simp) (by simp) (by simp) ?_
    rcases idx_cases (bt s i) sgn with ⟨hx, _⟩ | ⟨x, hx1, _, _, hx⟩
    · have hend := hat.end' (.inr ⟨hlt, hx⟩)
      rw [hx]
      simp
      refine Xa_b2s (l := out) rfl ?_
      simp
      have hzb : ({ data := out.toArray } : ByteArray).size = out.length := List.size_toArray
      refine vcall_go (specB64_fx hE ⟨out.toArray⟩ (by omega)) (by simp) (by simp) (by simp) (by simp) ?_
      simp
      by_cases cb : b64 ⟨out.toArray⟩ = s
      · simp [cb]
        exact Fin_ret2 rfl (by rw [un_yes hend cb]; rfl)
      · simp [cb]
        exact Fin_ret2 rfl (by rw [un_no hend cb]; rfl)
    · rw [sgn_size] at hx1
      rw [hx]
      have hx0 : ¬ ((x : Int) < 0) := by omega
      simp [hx0]
      have hs2 : sum * 64 % 16777216 + x < 16777216 := by omega
      rw [acc24 sum x hsum hx1]
      obtain ⟨y, hy⟩ : ∃ y, sum * 64 % 16777216 + x = y := ⟨_, rfl⟩
      rw [hy] at hs2 ⊢
      have hw : IntKind.i64.wrap ((i : Int) + 1) = ((i + 1 : Nat) : Int) := wrapN (by omega)
      have hm4 : (((i + 1 : Nat) : Int)).tmod 4 = (((i + 1) % 4 : Nat) : Int) := tmodN (i + 1) 4
      rw [hw, hm4]
      by_cases r : i % 4 = 0
      · have hn := hat.next0 hlt hx r
        rw [hy] at hn
        have r1 : (i + 1) % 4 = 1 := by omega
        rw [r1]
        simp
        exact ⟨i + 1, y, out, ⟨by omega, hs2, by omega, hn⟩, by omega, Wk.both (by simp [wkL, wkV.same]; rw [wrapN (by omega)]; exact wkV.same _) trivial⟩
      · have hn := hat.next hlt hx r
        rw [hy] at hn
        have r1 : ¬ (((i + 1) % 4 : Nat) : Int) = 1 := by omega
        rw [decide_eq_false r1]
        simp
        rw [show IntKind.i64.wrap (i : Int) = i from wrap_i64 (by omega) (by omega), show ((i : Int)).tmod 4 = ((i % 4 : Nat) : Int) from tmodN i 4]
        obtain ⟨k, hk⟩ : ∃ k, 2 * (3 - i % 4) = k := ⟨_, rfl⟩
        have hk2 : IntKind.i64.wrap (2 * IntKind.i64.wrap (3 - ((i % 4 : Nat) : Int))) = (k : Nat) := by
          rw [wrap_i64 (i := 3 - ((i % 4 : Nat) : Int)) (by omega) (by omega), wrap_i64 (by omega) (by omega)]; omega
        have hk6 : k ≤ 6 := by omega
        have e1 : (y : Int).fdiv (2 ^ min ((k : Nat) : Int).toNat IntKind.i64.bits) = ((y / 2 ^ k : Nat) : Int) := by
          rw [show IntKind.i64.bits = 64 from rfl, show min ((k : Nat) : Int).toNat 64 = k by omega, show ((2 : Int) ^ k) = ((2 ^ k : Nat) : Int) by simp, fdivN]
        have e2 : IntKind.u8.wrap ((y / 2 ^ k : Nat) : Int) = ((UInt8.ofNat (y / 2 ^ k)).toNat : Int) := by
          rw [IntKind.wrap_u8, UInt8.toNat_ofNat']; omega
        rw [hk] at hn
        rw [hk2, if_neg (by omega), e1]
        simp
        rw [show ((y : Int) / 2 ^ k) = ((y / 2 ^ k : Nat) : Int) by simp, e2]
        simp [okC, frA, frA.frL, AS.dem, mapV, dem, dem.demL]
        exact ⟨by omega, i + 1, y, out ++ [UInt8.ofNat (y / 2 ^ k)], ⟨by omega, hs2, by simp; omega, hn⟩, by omega, Wk.both (by simp [wkL, wkV.same]; rw [wrapN (by omega)]; exact wkV.same _) trivial⟩
  · obtain rfl : i = s.size := by omega
    have hend := hat.end' (.inl rfl)
    simp
    refine Xa_b2s (l := out) rfl ?_
    simp
    have hzb : ({ data := out.toArray } : ByteArray).size = out.length := List.size_toArray
    refine vcall_go (specB64_fx hE ⟨out.toArray⟩ (by omega)) (by simp) (by simp) (by simp) (by simp) ?_
    simp
    by_cases cb : b64 ⟨out.toArray⟩ = s
    · simp [cb]
      exact Fin_ret2 rfl (by rw [un_yes hend cb]; rfl)
    · simp [cb]
      exact Fin_ret2 rfl (by rw [un_no hend cb]; rfl)
end
end Go.Proofs.YticockdhfglolaaGreatDoor.Vm
namespace Go.Proofs.YticockdhfglolaaGreatDoor.Vm
open Go Go.RowKit
set_option linter.unusedVariables false
set_option linter.unusedSimpArgs false
def v144 : VC := .seq (.reg false [⟨some 2, .as (.c (.lit (.string (by8 "")))), none⟩, ⟨some 3, .as (.c (.lit (.bool false))), none⟩] [2, 3]) (.seq (.reg false [⟨some 9, .bsl 1 [], none⟩, ⟨some 4, .as (.t 9), none⟩, ⟨some 5, .as (.c (.lit (.int .i64 0))), none⟩, ⟨some 6, .as (.c (.lit (.int .i64 0))), none⟩] [9]) (.seq (.seq (.reg false [⟨some 10, .mv (.t 0), none⟩, ⟨some 11, .call false 197 [(.t 10), (.c (.lit (.string (by8 "="))))], none⟩, ⟨some 12, .len true (.t 11), none⟩, ⟨some 13, .mv (.c (.lit (.int .i64 0))), none⟩] [10, 11]) (.block 0 (.loop (.seq (.reg false [⟨some 14, .bin .lss 0 (.t 13) (.t 12), none⟩] []) (.seq (.cond (.t 14) (.skip) (.exit 0)) (.seq (.block 1 (.seq (.reg false [⟨some 15, .mv (.t 13), none⟩, ⟨some 7, .as (.t 15), none⟩] [15]) (.seq (.reg false [⟨some 16, .mv (.t 0), none⟩, ⟨some 17, .mv (.t 7), none⟩, ⟨some 18, .idx (.t 16) (.t 17), none⟩, ⟨some 19, .call false 198 [(.c (.lit (.string (by8 "ABCDEFGHIJKLMNOPQRSTUVWXYZabcdefghijklmnopqrstuvwxyz0123456789+/")))), (.t 18)], none⟩, ⟨some 8, .as (.t 19), none⟩] [16, 17, 18, 19]) (.seq (.seq (.reg false [⟨some 20, .mv (.t 8), none⟩, ⟨some 21, .bin .lss 0 (.t 20) (.c (.lit (.int .i64 0))), none⟩] [20]) (.cond (.t 21) (.seq (.reg false [⟨some 2, .as (.c (.lit (.string (by8 "")))), none⟩, ⟨some 3, .as (.c (.lit (.bool false))), none⟩] []) (.ret)) (.skip))) (.seq (.reg false [⟨some 22, .mv (.t 5), none⟩, ⟨some 23, .bin .shl 0 (.t 22) (.c (.lit (.int .u64 6))), none⟩, ⟨some 24, .mv (.t 8), none⟩, ⟨some 25, .bin .or 0 (.t 23) (.t 24), none⟩, ⟨some 26, .mv (.t 6), none⟩, ⟨some 27, .bin .add 0 (.t 26) (.c (.lit (.int .i64 6))), none⟩, ⟨some 5, .as (.t 25), none⟩, ⟨some 6, .as (.t 27), none⟩] [22, 23, 24, 25, 26, 27]) (.seq (.reg false [⟨some 28, .mv (.t 6), none⟩, ⟨some 29, .bin .geq 0 (.t 28) (.c (.lit (.int .i64 8))), none⟩] [28]) (.cond (.t 29) (.seq (.reg false [⟨some 30, .mv (.t 6), none⟩, ⟨some 31, .bin .sub 0 (.t 30) (.c (.lit (.int .i64 8))), none⟩, ⟨some 6, .as (.t 31), none⟩] [30, 31]) (.seq (.reg false [⟨some 32, .mv (.t 4), none⟩, ⟨some 33, .mv (.t 5), none⟩, ⟨some 34, .mv (.t 6), none⟩, ⟨some 35, .bin .shr 0 (.t 33) (.t 34), none⟩, ⟨some 36, .cvI .u8 (.t 35), none⟩, ⟨some 37, .bsl 1 [(.t 36)], none⟩, ⟨some 38, .app 1 1 (.t 32) (.t 37), none⟩, ⟨some 4, .as (.t 38), none⟩] [32, 33, 34, 35, 36, 37, 38]) (.reg false [⟨some 39, .mv (.t 5), none⟩, ⟨some 40, .mv (.t 6), none⟩, ⟨some 41, .bin .shl 0 (.c (.lit (.int .i64 1))) (.t 40), none⟩, ⟨some 42, .bin .sub 0 (.t 41) (.c (.lit (.int .i64 1))), none⟩, ⟨some 43, .bin .and 0 (.t 39) (.t 42), none⟩, ⟨some 5, .as (.t 43), none⟩] [39, 40, 41, 42, 43]))) (.skip)))))))) (.reg false [⟨some 44, .bin .add 0 (.t 13) (.c (.lit (.int .i64 1))), none⟩, ⟨some 13, .mv (.t 44), none⟩] [44]))))))) (.seq (.seq (.reg false [⟨some 45, .mv (.t 4), none⟩, ⟨some 46, .b2s (.t 45), none⟩, ⟨some 47, .call false 199 [(.t 46)], none⟩, ⟨some 48, .mv (.t 0), none⟩, ⟨some 49, .bin .neq 0 (.t 47) (.t 48), none⟩] [45, 46, 47, 48]) (.cond (.t 49) (.seq (.reg false [⟨some 2, .as (.c (.lit (.string (by8 "")))), none⟩, ⟨some 3, .as (.c (.lit (.bool false))), none⟩] []) (.ret)) (.skip))) (.seq (.reg false [⟨some 50, .mv (.t 4), none⟩, ⟨some 51, .b2s (.t 50), none⟩, ⟨some 2, .as (.t 51), none⟩, ⟨some 3, .as (.c (.lit (.bool true))), none⟩] [50, 51]) (.ret)))))
theorem is144 : Is Go.Proofs.Tryz.prog 144 52 v144 [.t 2, .t 3] := ⟨Go.Proofs.Tryz.f144, dl [(0, [2, 3]), (1, [9]), (2, [10, 11]), (4, [15]), (5, [16, 17, 18, 19]), (6, [20]), (8, [22, 23, 24, 25, 26, 27]), (9, [28]), (10, [30, 31]), (11, [32, 33, 34, 35, 36, 37, 38]), (12, [39, 40, 41, 42, 43]), (13, [44]), (14, [45, 46, 47, 48]), (16, [50, 51])], Go.Proofs.Tryz.func144, by kernel_rfl, by kernel_rfl, by kernel_rfl, by kernel_rfl⟩
def bN (i : Nat) : Nat := if i % 4 = 0 then 0 else 8 - 2 * (i % 4)
def trimN (s : ByteArray) : Nat := (Lib.trimRightB s.data.toList 61).length
theorem trimN_le (s : ByteArray) : trimN s ≤ s.size := by
  have h1 : s.data.toList.length = s.size := by simp
  unfold trimN Lib.trimRightB
  rw [List.length_reverse]
  have := (List.dropWhile_suffix (l := s.data.toList.reverse) (· == 61)).length_le
  rw [List.length_reverse] at this
  omega
theorem trimN_b64 (b : ByteArray) : trimN (b64 b) = sgnN b.size := by
  have hz := b64_size b
  have hn := sgnN_le b.size
  have hl : (b64 b).data.toList.length = (b64 b).size := by simp
  unfold trimN
  rw [Lib.trimRightB_take _ _ (sgnN b.size) (by omega) (fun j c hj hc => ?_) (fun c h0 hc => ?_)]
  · rw [List.length_take]; omega
  · obtain ⟨h1, rfl⟩ := bt_some hc
    exact b64_pad b hj h1
  · obtain ⟨h1, rfl⟩ := bt_some hc
    rw [b64_sign b (by omega)]
    exact sgn_not_pad ⟨_, six_lt b _⟩
structure B7At (s : ByteArray) (i sum : Nat) (out : List UInt8) : Prop where
  at' : ∀ b, s = b64 b → i ≤ sgnN b.size ∧ (i % 4 ≠ 0 → sum = six b (i - 1) % 2 ^ bN i) ∧ out = b.data.toList.take (outN i)
theorem B7At.end' {s : ByteArray} {i sum : Nat} {out : List UInt8} (h : B7At s i sum out) (he : i = trimN s) : ∀ b, s = b64 b → (⟨out.toArray⟩ : ByteArray) = b := by
  rintro b rfl
  obtain ⟨h1, _, h3⟩ := h.at' b rfl
  rw [he, trimN_b64, outN_all] at h3
  refine ba_ext ?_
  rw [h3, List.take_of_length_le (by simp)]
theorem B7At.sign {s : ByteArray} {i sum : Nat} {out : List UInt8} (h : B7At s i sum out) (hi : i < trimN s) : ∀ b, s = b64 b → i < sgnN b.size ∧ Lib.indexB sgn (one (bt s i)) = six b i := by
  rintro b rfl
  rw [trimN_b64] at hi
  exact ⟨hi, by rw [b64_sign b hi, sgn_idx' (six_lt b i)]⟩
theorem B7At.next0 {s : ByteArray} {i sum x : Nat} {out : List UInt8} (h : B7At s i sum out) (hi : i < trimN s) (hx : Lib.indexB sgn (one (bt s i)) = x) (hr : i % 4 = 0) : B7At s (i + 1) x out := ⟨fun b hb => by
  obtain ⟨h1, h2, h3⟩ := h.at' b hb
  obtain ⟨h4, h5⟩ := h.sign hi b hb
  rw [hx] at h5
  have h6 := six_lt b i
  have h7 : bN (i + 1) = 6 := by unfold bN; rw [if_neg (by omega)]; omega
  refine ⟨h4, fun _ => ?_, by rw [h3, show outN (i + 1) = outN i by unfold outN; omega]⟩
  rw [h7, Nat.add_sub_cancel, Nat.mod_eq_of_lt h6]
  omega⟩
theorem B7At.next {s : ByteArray} {i sum x : Nat} {out : List UInt8} (h : B7At s i sum out) (hi : i < trimN s) (hx : Lib.indexB sgn (one (bt s i)) = x) (hr : i % 4 ≠ 0) : B7At s (i + 1) ((sum * 64 + x) % 2 ^ (6 - 2 * (i % 4))) (out ++ [UInt8.ofNat ((sum * 64 + x) / 2 ^ (6 - 2 * (i % 4)))]) := ⟨fun b hb => by
  obtain ⟨h1, h2, h3⟩ := h.at' b hb
  obtain ⟨h4, h5⟩ := h.sign hi b hb
  rw [hx] at h5
  have h6 := six_lt b i
  have h6' := six_lt b (i - 1)
  have h2 := h2 hr
  have h7 := byte_out b hr (x := six b (i - 1) * 64 + six b i) (by omega)
  have hk : outN i < b.size := by unfold outN; unfold sgnN at h4; omega
  have e : 3 * (i / 4) + i % 4 - 1 = outN i := by unfold outN; omega
  have hxx : x = six b i := by omega
  rw [e] at h7
  have hb2 : bN i = 8 - 2 * (i % 4) := by unfold bN; rw [if_neg hr]
  rw [hb2] at h2
  have h8 : (sum * 64 + x) / 2 ^ (6 - 2 * (i % 4)) % 256 = (bt b (outN i)).toNat ∧ ((i + 1) % 4 ≠ 0 → (sum * 64 + x) % 2 ^ (6 - 2 * (i % 4)) = six b i % 2 ^ bN (i + 1)) := by
    have : i % 4 = 1 ∨ i % 4 = 2 ∨ i % 4 = 3 := by omega
    rcases this with q | q | q
    · have hb3 : bN (i + 1) = 4 := by unfold bN; rw [if_neg (by omega)]; omega
      rw [q] at h2 h7
      rw [q, hb3, ← h7]
      simp only [Nat.reduceMul, Nat.reduceSub, Nat.reducePow] at h2 ⊢
      omega
    · have hb3 : bN (i + 1) = 2 := by unfold bN; rw [if_neg (by omega)]; omega
      rw [q] at h2 h7
      rw [q, hb3, ← h7]
      simp only [Nat.reduceMul, Nat.reduceSub, Nat.reducePow] at h2 ⊢
      omega
    · rw [q] at h2 h7
      rw [q, ← h7]
      simp only [Nat.reduceMul, Nat.reduceSub, Nat.reducePow] at h2 ⊢
      omega
  refine ⟨h4, fun hr2 => by rw [Nat.add_sub_cancel]; exact h8.2 hr2, ?_⟩
  rw [h3, show outN (i + 1) = outN i + 1 by unfold outN; omega, take_bt hk]
  congr 2
  exact UInt8.toNat_inj.1 (by rw [UInt8.toNat_ofNat', h8.1])⟩
theorem or_six' (sum x : Nat) (hs : sum < 64) (hx : x < 64) : IntKind.i64.wrap (((IntKind.i64.wrap ((sum : Int) * 2 ^ min 6 IntKind.i64.bits) % 2 ^ IntKind.i64.bits).toNat ||| x % 2 ^ IntKind.i64.bits : Nat) : Int) = ((sum * 64 + x : Nat) : Int) := by
  rw [show ((2 : Int) ^ min 6 IntKind.i64.bits) = 64 from rfl, wrap_i64 (i := (sum : Int) * 64) (by omega) (by omega), show ((2 : Int) ^ IntKind.i64.bits) = 18446744073709551616 from rfl, show (((sum : Int) * 64) % 18446744073709551616).toNat = sum * 64 by omega, show (x % 2 ^ IntKind.i64.bits : Nat) = x from Nat.mod_eq_of_lt (by show x < 18446744073709551616; omega)]
  have := Nat.shiftLeft_add_eq_or_of_lt (b := x) (i := 6) (by omega) sum
  rw [Nat.shiftLeft_eq, show 2 ^ 6 = 64 from rfl] at this
  rw [← this, wrap_i64 (by omega) (by omega)]
theorem by61 : by8 "=" = one 61 := by decide +kernel
theorem bN_le (i : Nat) : bN i ≤ 6 := by unfold bN; split <;> omega
section
variable {E : Env} (hE : E.P = Go.Proofs.Tryz.prog)
include hE
theorem idxSgn_fx (u : UInt8) : Fx E 198 [] [.lit (.string sgn), .lit (.int .u8 u.toNat)] [] (.lit (.int .i64 (Lib.indexB sgn (one u)))) := by
  have h := idxByte_fx hE sgn u
  have e : Lib.indexByte sgn.data.toList u = Lib.indexB sgn (one u) := by
    have key : ∀ u : _root_.Fin 256, Lib.indexByte sgn.data.toList (UInt8.ofNat u.val) = Lib.indexB sgn (one (UInt8.ofNat u.val)) := by decide +kernel
    have := key ⟨u.toNat, u.toNat_lt⟩
    simpa using this
  rw [e] at h
  exact h
theorem trimRight_fx (s : ByteArray) (hs : s.size ≤ 9223372036854775807) : Fx E 197 [] [.lit (.string s), .lit (.string (one 61))] [] (.lit (.string ⟨(Lib.trimRightB s.data.toList 61).toArray⟩)) :=
  Fx_lit (args := [.string s, .string (one 61)]) rfl fun w hw => by
    rw [hE]
    refine (Go.Proofs.Tryz.strings_TrimRight_one s 61 (by decide) w hs).mono ?_
    rintro e w' ⟨rfl, rfl⟩
    exact ⟨rfl, Below.refl _ _⟩
set_option maxHeartbeats 4000000 in
theorem implGet64_fx (s : ByteArray) (hs : s.size ≤ 1099511627776) : Fx E 144 [] [.lit (.string s)] [] (unRes s) := by
  have htn := trimN_le s
  have htz : ({ data := (Lib.trimRightB s.data.toList 61).toArray } : ByteArray).size = trimN s := List.size_toArray
  refine (is144.to hE).fx [] (by simp) rfl (unRes_ok s) ?_
  simp [v144]
  refine vcall_go (trimRight_fx hE s (by omega)) (by rw [← by61]; rfl) (by simp) (by simp) (by simp) ?_
  simp
  rw [htz]
  refine X_loop (τ := Nat × Nat × List UInt8) (fun p => ⟨[(0, .lit (.string s)), (4, .sl ⟨.cl 576, true⟩ 1 (p.2.2.map fun b : UInt8 => .lit (.int .u8 b.toNat))), (5, .lit (.int .i64 p.2.1)), (6, .lit (.int .i64 (bN p.1))), (12, .lit (.int .i64 (trimN s))), (13, .lit (.int .i64 p.1))], []⟩) (fun p => p.1 ≤ trimN s ∧ p.2.1 < 2 ^ bN p.1 ∧ p.2.2.length ≤ p.1 ∧ B7At s p.1 p.2.1 p.2.2) (fun p => trimN s - p.1) (0, 0, []) ⟨Nat.zero_le _, by decide, by simp, ⟨fun b hb => ⟨Nat.zero_le _, fun h => absurd rfl h, rfl⟩⟩⟩ (Wk.both (by simp [wkL, wkV.same, frA.frL, bN]) trivial) ?_
  rintro ⟨i, sum, out⟩ ⟨hi, hsum, hol, hat⟩
  simp only at hi hsum hol hat
  have hb6 := bN_le i
  have hsum6 : sum < 64 := by
    have : 2 ^ bN i ≤ 2 ^ 6 := Nat.pow_le_pow_right (by omega) hb6
    omega
  simp
  by_cases hlt : i < trimN s
  · have hlt' : (i : Int) < trimN s := by omega
    have hlt2 : i < s.size := by omega
    simp [hlt', hlt, hlt2]
    refine vcall_go (idxSgn_fx hE (bt s i)) (by simp [sgn]) (by simp) (by simp) (by simp) ?_
    rcases idx_cases (bt s i) sgn with ⟨hx, _⟩ | ⟨x, hx1, _, _, hx⟩
    · have hn : ∀ b, s ≠ b64 b := fun b hb => by
        have := (hat.sign hlt b hb).2
        rw [hx] at this; omega
      rw [hx]
      simp
      exact Fin_ret2 rfl (by rw [un_none hn]; rfl)
    · rw [sgn_size] at hx1
      rw [hx]
      have hx0 : ¬ ((x : Int) < 0) := by omega
      simp [hx0]
      rw [or_six' sum x hsum6 hx1, wrap_i64 (i := (bN i : Int) + 6) (by omega) (by omega)]
      obtain ⟨y, hy⟩ : ∃ y, sum * 64 + x = y := ⟨_, rfl⟩
      rw [hy]
      by_cases r : i % 4 = 0
      · have hb0 : bN i = 0 := by unfold bN; rw [if_pos r]
        rw [hb0] at hsum
        have hn := hat.next0 hlt hx r
        have hb1 : bN (i + 1) = 6 := by unfold bN; rw [if_neg (by omega)]; omega
        obtain rfl : y = x := by simp at hsum; omega
        rw [hb0]
        simp
        exact ⟨i + 1, y, out, ⟨by omega, by rw [hb1]; omega, by omega, hn⟩, by omega, Wk.both (by simp [wkL, wkV.same, hb1]; rw [wrapN (by omega)]; exact wkV.same _) trivial⟩
      · obtain ⟨m, hm⟩ : ∃ m, 6 - 2 * (i % 4) = m := ⟨_, rfl⟩
        have hbm : bN i = m + 2 := by unfold bN; rw [if_neg r]; omega
        have hb1 : bN (i + 1) = m := by
          unfold bN; split
          · omega
          · omega
        have hn := hat.next hlt hx r
        rw [hm, hy] at hn
        have hy2 : y < 4096 := by omega
        have hm4 : m ≤ 4 := by omega
        have g1 : (8 : Int) ≤ ((m + 2 : Nat) : Int) + 6 := by omega
        have g2 : IntKind.i64.wrap ((m : Int) + 2 + 6 - 8) = (m : Nat) := by rw [wrap_i64 (by omega) (by omega)]; omega
        have e1 : (y : Int).fdiv (2 ^ min ((m : Nat) : Int).toNat IntKind.i64.bits) = ((y / 2 ^ m : Nat) : Int) := by
          rw [show IntKind.i64.bits = 64 from rfl, show min ((m : Nat) : Int).toNat 64 = m by omega, show ((2 : Int) ^ m) = ((2 ^ m : Nat) : Int) by simp, fdivN]
        have e2 : IntKind.u8.wrap ((y / 2 ^ m : Nat) : Int) = ((UInt8.ofNat (y / 2 ^ m)).toNat : Int) := by
          rw [IntKind.wrap_u8, UInt8.toNat_ofNat']; omega
        rw [hbm, decide_eq_true g1]
        simp
        rw [g2, if_neg (by omega), e1]
        simp
        rw [show ((y : Int) / 2 ^ m) = ((y / 2 ^ m : Nat) : Int) by simp, e2]
        simp [okC, frA, frA.frL, AS.dem, mapV, dem, dem.demL]
        refine ⟨by omega, ?_⟩
        have hp : 2 ^ m ≤ 16 := by
          have : 2 ^ m ≤ 2 ^ 4 := Nat.pow_le_pow_right (by omega) hm4
          omega
        have hp0 : 0 < 2 ^ m := Nat.two_pow_pos m
        obtain ⟨z, hz⟩ : ∃ z, 2 ^ m = z := ⟨_, rfl⟩
        have e3 : IntKind.i64.wrap (2 ^ min m IntKind.i64.bits) = (z : Nat) := by
          rw [show IntKind.i64.bits = 64 from rfl, show min m 64 = m by omega, show ((2 : Int) ^ m) = ((2 ^ m : Nat) : Int) by simp, hz, wrap_i64 (by omega) (by omega)]
        rw [if_neg (by omega), e3]
        simp
        rw [wrap_i64 (i := (z : Int) - 1) (by omega) (by omega)]
        have e4 : IntKind.i64.wrap (((y % 2 ^ IntKind.i64.bits &&& (((z : Int) - 1) % 2 ^ IntKind.i64.bits).toNat : Nat)) : Int) = ((y % 2 ^ m : Nat) : Int) := by
          rw [show ((2 : Int) ^ IntKind.i64.bits) = 18446744073709551616 from rfl, show (((z : Int) - 1) % 18446744073709551616).toNat = 2 ^ m - 1 by omega, show (y % 2 ^ IntKind.i64.bits : Nat) = y from Nat.mod_eq_of_lt (by show y < 18446744073709551616; omega), Nat.and_two_pow_sub_one_eq_mod]
          have := Nat.mod_le y (2 ^ m)
          rw [wrap_i64 (by omega) (by omega)]
        rw [e4]
        have hlt3 : y % 2 ^ m < 2 ^ m := Nat.mod_lt _ hp0
        exact ⟨i + 1, y % 2 ^ m, out ++ [UInt8.ofNat (y / 2 ^ m)], ⟨by omega, by rw [hb1]; exact hlt3, by simp; omega, hn⟩, by omega, Wk.both (by simp [wkL, wkV.same, hb1]; rw [wrapN (by omega)]; exact wkV.same _) trivial⟩
  · obtain rfl : i = trimN s := by omega
    have hend := hat.end' rfl
    have hzb : ({ data := out.toArray } : ByteArray).size = out.length := List.size_toArray
    simp
    refine Xa_b2s (l := out) rfl ?_
    simp
    refine vcall_go (implB64_fx hE ⟨out.toArray⟩ (by omega)) (by simp) (by simp) (by simp) (by simp) ?_
    simp
    by_cases cb : b64 ⟨out.toArray⟩ = s
    · simp [cb]
      refine Xa_b2s (l := out) rfl ?_
      simp
      exact Fin_ret2 rfl (by rw [un_yes hend cb]; rfl)
    · simp [cb]
      exact Fin_ret2 rfl (by rw [un_no hend cb]; rfl)
end
end Go.Proofs.YticockdhfglolaaGreatDoor.Vm
namespace Go.Proofs.YticockdhfglolaaGreatDoor.Vm
open Go Go.RowKit
set_option linter.unusedVariables false
set_option linter.unusedSimpArgs false
def v136 : VC := .seq (.reg false [⟨some 2, .as (.c (.lit (.string (by8 "")))), none⟩] [2]) (.seq (.reg false [⟨some 3, .as (.c (.lit (.string (by8 "")))), none⟩] []) (.seq (.seq (.reg false [⟨some 4, .as (.c (.lit (.int .i64 0))), none⟩] []) (.block 0 (.loop (.seq (.seq (.reg false [⟨some 5, .mv (.t 4), none⟩, ⟨some 6, .mv (.t 0), none⟩, ⟨some 7, .len false (.t 6), none⟩, ⟨some 8, .bin .lss 0 (.t 5) (.t 7), none⟩] [5, 6, 7]) (.cond (.t 8) (.skip) (.exit 0))) (.seq (.block 1 (.seq (.seq (.reg false [⟨some 11, .mv (.t 0), none⟩, ⟨some 12, .mv (.t 4), none⟩, ⟨some 13, .ia 2 (.t 11) (.t 12), none⟩, ⟨some 14, .fa 0 (.t 13), none⟩, ⟨some 15, .ld false 1 (.t 14), none⟩, ⟨some 16, .bin .eql 0 (.t 15) (.c (.lit (.string (by8 "h1")))), none⟩, ⟨some 17, .mv (.t 16), none⟩, ⟨some 18, .mv (.t 0), (some (17, false))⟩, ⟨some 19, .mv (.t 4), (some (17, false))⟩, ⟨some 20, .ia 2 (.t 18) (.t 19), (some (17, false))⟩, ⟨some 21, .fa 0 (.t 20), (some (17, false))⟩, ⟨some 22, .ld false 1 (.t 21), (some (17, false))⟩, ⟨some 23, .call false 111 [(.t 22)], (some (17, false))⟩, ⟨some 24, .bin .lss 0 (.t 23) (.c (.lit (.int .i64 0))), (some (17, false))⟩, ⟨some 25, .pick (.t 17) (.c (.lit (.bool true))) (.t 24), none⟩] [11, 12, 13, 14, 15, 16, 17, 18, 19, 20, 21, 22, 23, 24]) (.cond (.t 25) (.exit 1) (.skip))) (.seq (.seq (.reg false [⟨some 26, .mv (.t 3), none⟩, ⟨some 27, .bin .neq 0 (.t 26) (.c (.lit (.string (by8 "")))), none⟩] [26]) (.cond (.t 27) (.reg false [⟨some 28, .mv (.t 3), none⟩, ⟨some 29, .bin .add 0 (.t 28) (.c (.lit (.string (by8 " ")))), none⟩, ⟨some 3, .as (.t 29), none⟩] [28, 29]) (.skip))) (.reg true [⟨some 30, .mv (.t 3), none⟩, ⟨some 31, .mv (.t 0), none⟩, ⟨some 32, .mv (.t 4), none⟩, ⟨some 33, .ia 2 (.t 31) (.t 32), none⟩, ⟨some 34, .fa 0 (.t 33), none⟩, ⟨some 35, .ld false 1 (.t 34), none⟩, ⟨some 36, .bin .add 0 (.t 30) (.t 35), none⟩, ⟨some 37, .bin .add 0 (.t 36) (.c (.lit (.string (by8 "-")))), none⟩, ⟨some 38, .mv (.t 0), none⟩, ⟨some 39, .mv (.t 4), none⟩, ⟨some 40, .ia 2 (.t 38) (.t 39), none⟩, ⟨some 41, .fa 1 (.t 40), none⟩, ⟨some 42, .ld false 1 (.t 41), none⟩, ⟨some 43, .call true 190 [(.t 42)], none⟩, ⟨some 44, .bin .add 0 (.t 37) (.t 43), none⟩, ⟨some 3, .as (.t 44), none⟩] [30, 31, 32, 33, 34, 35, 36, 37, 38, 39, 40, 41, 42, 43, 44])))) (.reg false [⟨some 9, .mv (.t 4), none⟩, ⟨some 10, .bin .add 0 (.t 9) (.c (.lit (.int .i64 1))), none⟩, ⟨some 4, .as (.t 10), none⟩] [9, 10])))))) (.seq (.reg false [⟨some 45, .mv (.t 3), none⟩, ⟨some 2, .as (.t 45), none⟩] [45]) (.ret))))
theorem is136 : Is Go.Proofs.Tryz.prog 136 46 v136 [.t 2] := ⟨Go.Proofs.Tryz.f136, dl [(0, [2]), (3, [5, 6, 7]), (5, [11, 12, 13, 14, 15, 16, 17, 18, 19, 20, 21, 22, 23, 24]), (6, [26]), (7, [28, 29]), (8, [30, 31, 32, 33, 34, 35, 36, 37, 38, 39, 40, 41, 42, 43, 44]), (4, [9, 10]), (9, [45])], Go.Proofs.Tryz.func136, by kernel_rfl, by kernel_rfl, by kernel_rfl, by kernel_rfl⟩
def kwn (a : ByteArray) : Bool := decide (a = by8 "sha1") || decide (a = by8 "sha256") || decide (a = by8 "sha512")
def wrd (x : Sm) : ByteArray := x.alg ++ by8 "-" ++ b64 x.bytes
def pig (l : List Sm) : ByteArray := joinB ((l.filter fun x => kwn x.alg).map wrd) (by8 " ")
theorem kwn_iff (a : ByteArray) : kwn a = !(decide (a = by8 "h1") || decide (sumLen a < 0)) := by
  have d1 : ¬ by8 "sha1" = by8 "h1" := by decide +kernel
  have d2 : ¬ by8 "sha256" = by8 "h1" := by decide +kernel
  have d3 : ¬ by8 "sha512" = by8 "h1" := by decide +kernel
  have e1 : sumLen (by8 "sha1") = 20 := by decide +kernel
  have e2 : sumLen (by8 "sha256") = 32 := by decide +kernel
  have e3 : sumLen (by8 "sha512") = 64 := by decide +kernel
  have e4 : kwn (by8 "h1") = false := by decide +kernel
  by_cases c1 : a = by8 "sha1"
  · subst c1; simp [kwn, d1, e1]
  by_cases c2 : a = by8 "sha256"
  · subst c2; simp [kwn, d2, e2]
  by_cases c3 : a = by8 "sha512"
  · subst c3; simp [kwn, d3, e3]
  by_cases c4 : a = by8 "h1"
  · subst c4; rw [e4]; simp
  · have : sumLen a = -1 := by rw [sumLen, if_neg c1, if_neg c2, if_neg c4, if_neg c3]
    simp [kwn, c1, c2, c3, this]
theorem wrd_pos (x : Sm) : 0 < (wrd x).size := by
  have e : (by8 "-").size = 1 := by decide +kernel
  rw [wrd, ByteArray.size_append, ByteArray.size_append, e]; omega
theorem pig_nil {l : List Sm} : pig l = by8 "" ↔ (l.filter fun x => kwn x.alg) = [] := by
  unfold pig
  constructor
  · intro h
    generalize (l.filter fun x => kwn x.alg) = m at h
    cases m with
    | nil => rfl
    | cons x r =>
      have hx := wrd_pos x
      have hz := congrArg ByteArray.size h
      rw [by8_nil, List.map_cons] at hz
      cases r with
      | nil => rw [List.map_nil, joinB_one] at hz; omega
      | cons y r => rw [List.map_cons, joinB_cons, ByteArray.size_append, ByteArray.size_append] at hz; omega
  · intro h; rw [h, List.map_nil, joinB_nil]
theorem pig_skip {l : List Sm} {i : Nat} (h : i < l.length) (hk : kwn l[i].alg = false) : pig (l.take (i + 1)) = pig (l.take i) := by
  unfold pig
  rw [List.take_succ_eq_append_getElem h, List.filter_append]
  simp [hk]
theorem pig_add {l : List Sm} {i : Nat} (h : i < l.length) (hk : kwn l[i].alg = true) : pig (l.take (i + 1)) = (if pig (l.take i) = by8 "" then by8 "" else pig (l.take i) ++ by8 " ") ++ wrd l[i] := by
  have e : pig (l.take (i + 1)) = joinB (((l.take i).filter fun x => kwn x.alg).map wrd ++ [wrd l[i]]) (by8 " ") := by
    unfold pig
    rw [List.take_succ_eq_append_getElem h, List.filter_append]
    simp [hk]
  rw [e]
  by_cases c : pig (l.take i) = by8 ""
  · rw [if_pos c, pig_nil.1 c, List.map_nil, List.nil_append, joinB_one, nil_app]
  · rw [if_neg c, joinB_snoc _ _ (fun h2 => c (pig_nil.2 (List.map_eq_nil_iff.1 h2)))]
    rfl
theorem pig_step {l : List Sm} {i K : Nat} (hx : ∀ s ∈ l, s.small) (ih : (pig (l.take i)).size ≤ K) : (pig (l.take (i + 1))).size ≤ K + 4194304 := by
  have es : (by8 " ").size = 1 := by decide +kernel
  have e : (by8 "-").size = 1 := by decide +kernel
  obtain ⟨p, hp⟩ : ∃ p, pig (l.take i) = p := ⟨_, rfl⟩
  by_cases h : i < l.length
  · obtain ⟨g1, g2⟩ := hx _ (List.getElem_mem h)
    cases hk : kwn l[i].alg
    · rw [pig_skip h hk, hp]; rw [hp] at ih; omega
    · have hb := b64_size l[i].bytes
      have hw : (wrd l[i]).size ≤ 4194303 := by
        rw [wrd, ByteArray.size_append, ByteArray.size_append, e]; omega
      obtain ⟨w, hw2⟩ : ∃ w, wrd l[i] = w := ⟨_, rfl⟩
      rw [pig_add h hk, hp, hw2, ByteArray.size_append]
      rw [hp] at ih
      rw [hw2] at hw
      split
      · rw [by8_nil]; omega
      · rw [ByteArray.size_append, es]; omega
  · rw [List.take_of_length_le (by omega)] at ih ⊢
    omega
theorem pig_size {l : List Sm} (hx : ∀ s ∈ l, s.small) (i : Nat) : (pig (l.take i)).size ≤ i * 4194304 := by
  induction i with
  | zero => rw [List.take_zero, show pig [] = by8 "" from joinB_nil _, by8_nil]; exact Nat.zero_le _
  | succ i ih => rw [Nat.add_mul, Nat.one_mul]; exact pig_step hx ih
section
variable {E : Env} (hE : E.P = Go.Proofs.Tryz.prog)
include hE
set_option maxHeartbeats 4000000 in
theorem specPutI_fx (l : List Sm) (hl : l.length ≤ 1048576) (hx : ∀ s ∈ l, s.small) : Fx E 136 [] [.sl ro 2 (l.map fun x => .agg x.av)] [] (.lit (.string (pig l))) := by
  have es : (by8 " ").size = 1 := by decide +kernel
  have ed : (by8 "-").size = 1 := by decide +kernel
  refine (is136.to hE).fx [] (by simp) rfl rfl ?_
  simp [v136]
  refine X_loop (τ := Nat) (fun i => ⟨[(0, .sl ro 2 (l.map fun x => .agg x.av)), (3, .lit (.string (pig (l.take i)))), (4, .lit (.int .i64 i))], []⟩) (fun i => i ≤ l.length) (fun i => l.length - i) 0 (by omega) (Wk.both (by simp [wkL, wkV.same, pig, joinB_nil]) trivial) ?_
  intro i hi
  simp
  by_cases hlt : i < l.length
  · have hav : l[i].av = [.lit (.string l[i].alg), .lit (.string l[i].bytes)] := rfl
    have hps := pig_size hx i
    have hkw := kwn_iff l[i].alg
    obtain ⟨g1, g2⟩ := hx _ (List.getElem_mem hlt)
    have hbz := b64_size l[i].bytes
    simp [hlt, hav, ro, mkF, mkF.mkL]
    by_cases c1 : l[i].alg = by8 "h1"
    · have hk := pig_skip hlt (by rw [hkw, decide_eq_true c1]; rfl)
      simp [c1]
      exact ⟨i + 1, by omega, by omega, Wk.both (by simp [wkL, wkV.same, ro, hk]; rw [wrapN (by omega)]; exact wkV.same _) trivial⟩
    simp [c1, hlt, hav, ro, mkF, mkF.mkL]
    refine vcall_go (specLong_fx hE l[i].alg) (by simp) (by simp) (by simp) (by simp) ?_
    simp
    by_cases c2 : sumLen l[i].alg < 0
    · have hk := pig_skip hlt (by rw [hkw, decide_eq_true c2]; simp)
      simp [c2]
      exact ⟨i + 1, by omega, by omega, Wk.both (by simp [wkL, wkV.same, ro, hk]; rw [wrapN (by omega)]; exact wkV.same _) trivial⟩
    have hk := pig_add hlt (by rw [hkw, decide_eq_false c1, decide_eq_false c2]; rfl)
    obtain ⟨p, hp⟩ : ∃ p, pig (l.take i) = p := ⟨_, rfl⟩
    rw [hp] at hk hps ⊢
    simp [c2]
    by_cases c3 : p = by8 ""
    · rw [if_pos c3, nil_app] at hk
      simp [c3, hlt, hav, ro, mkF, mkF.mkL]
      rw [by8_nil]
      refine ⟨by omega, by omega, ?_⟩
      refine vcall_go (specB64_fx hE l[i].bytes (by omega)) (by simp) (by simp) (by simp) (by simp) ?_
      simp
      rw [by8_nil]
      refine ⟨by omega, i + 1, by omega, by omega, Wk.both (by simp [wkL, wkV.same, ro, hk, wrd, nil_app]; rw [wrapN (by omega)]; exact wkV.same _) trivial⟩
    · rw [if_neg c3] at hk
      simp [c3, hlt, hav, ro, mkF, mkF.mkL]
      refine ⟨by omega, by omega, by omega, ?_⟩
      refine vcall_go (specB64_fx hE l[i].bytes (by omega)) (by simp) (by simp) (by simp) (by simp) ?_
      simp
      refine ⟨by omega, i + 1, by omega, by omega, Wk.both (by simp [wkL, wkV.same, ro, hk, wrd, ByteArray.append_assoc]; rw [wrapN (by omega)]; exact wkV.same _) trivial⟩
  · obtain rfl : i = l.length := by omega
    simp
    exact Fin_ret rfl rfl
end
end Go.Proofs.YticockdhfglolaaGreatDoor.Vm
namespace Go.Proofs.YticockdhfglolaaGreatDoor.Vm
open Go Go.RowKit
set_option linter.unusedVariables false
set_option linter.unusedSimpArgs false
def v145 : VC := .seq (.reg false [⟨some 2, .as (.c (.lit (.string (by8 "")))), none⟩] [2]) (.seq (.reg false [⟨some 6, .bsl 1 [], none⟩, ⟨some 3, .as (.t 6), none⟩] [6]) (.seq (.seq (.reg false [⟨some 7, .mv (.t 0), none⟩, ⟨some 8, .len false (.t 7), none⟩, ⟨some 9, .mv (.c (.lit (.int .i64 0))), none⟩] []) (.block 0 (.loop (.seq (.reg false [⟨some 10, .bin .lss 0 (.t 9) (.t 8), none⟩] []) (.seq (.cond (.t 10) (.skip) (.exit 0)) (.seq (.block 1 (.seq (.reg false [⟨some 11, .ia 2 (.t 7) (.t 9), none⟩, ⟨some 12, .ld true 2 (.t 11), none⟩, ⟨some 5, .alloc (.agg [(.lit (.string (by8 ""))), (.lit (.string (by8 "")))]), none⟩, ⟨none, .st 2 (.t 5) (.t 12), none⟩] [11, 12]) (.seq (.reg false [⟨some 13, .fa 0 (.t 5), none⟩, ⟨some 14, .ld false 1 (.t 13), none⟩, ⟨some 15, .bin .eql 0 (.t 14) (.c (.lit (.string (by8 "sha1")))), none⟩, ⟨some 16, .mv (.t 15), none⟩, ⟨some 17, .fa 0 (.t 5), (some (16, false))⟩, ⟨some 18, .ld false 1 (.t 17), (some (16, false))⟩, ⟨some 19, .bin .eql 0 (.t 18) (.c (.lit (.string (by8 "sha256")))), (some (16, false))⟩, ⟨some 20, .pick (.t 16) (.c (.lit (.bool true))) (.t 19), none⟩, ⟨some 21, .mv (.t 20), none⟩, ⟨some 22, .fa 0 (.t 5), (some (21, false))⟩, ⟨some 23, .ld false 1 (.t 22), (some (21, false))⟩, ⟨some 24, .bin .eql 0 (.t 23) (.c (.lit (.string (by8 "sha512")))), (some (21, false))⟩, ⟨some 25, .pick (.t 21) (.c (.lit (.bool true))) (.t 24), none⟩] [13, 14, 15, 16, 17, 18, 19, 20, 21, 22, 23, 24]) (.cond (.t 25) (.reg true [⟨some 26, .mv (.t 3), none⟩, ⟨some 27, .fa 0 (.t 5), none⟩, ⟨some 28, .ld false 1 (.t 27), none⟩, ⟨some 29, .bin .add 0 (.t 28) (.c (.lit (.string (by8 "-")))), none⟩, ⟨some 30, .fa 1 (.t 5), none⟩, ⟨some 31, .ld false 1 (.t 30), none⟩, ⟨some 32, .call true 199 [(.t 31)], none⟩, ⟨some 33, .bin .add 0 (.t 29) (.t 32), none⟩, ⟨some 34, .bsl 1 [(.t 33)], none⟩, ⟨some 35, .app 1 16 (.t 26) (.t 34), none⟩, ⟨some 3, .as (.t 35), none⟩] [26, 27, 28, 29, 30, 31, 32, 33, 34, 35]) (.skip))))) (.reg false [⟨some 36, .bin .add 0 (.t 9) (.c (.lit (.int .i64 1))), none⟩, ⟨some 9, .mv (.t 36), none⟩] [36]))))))) (.seq (.reg false [⟨some 37, .mv (.t 3), none⟩, ⟨some 38, .call false 54 [(.t 37), (.c (.lit (.string (by8 " "))))], none⟩, ⟨some 2, .as (.t 38), none⟩] [37, 38]) (.ret))))
theorem is145 : Is Go.Proofs.Tryz.prog 145 39 v145 [.t 2] := ⟨Go.Proofs.Tryz.f145, dl [(0, [2]), (1, [6]), (4, [11, 12]), (5, [13, 14, 15, 16, 17, 18, 19, 20, 21, 22, 23, 24]), (6, [26, 27, 28, 29, 30, 31, 32, 33, 34, 35]), (7, [36]), (8, [37, 38])], Go.Proofs.Tryz.func145, by kernel_rfl, by kernel_rfl, by kernel_rfl, by kernel_rfl⟩
section
variable {E : Env} (hE : E.P = Go.Proofs.Tryz.prog)
include hE
set_option maxHeartbeats 4000000 in
theorem implPutI_fx (l : List Sm) (hl : l.length ≤ 2097152) (hx : ∀ s ∈ l, s.small) : Fx E 145 [] [.sl ro 2 (l.map fun x => .agg x.av)] [] (.lit (.string (pig l))) := by
  have ed : (by8 "-").size = 1 := by decide +kernel
  refine (is145.to hE).fx [] (by simp) rfl rfl ?_
  simp [v145]
  refine X_loop (τ := Nat) (fun i => ⟨[(0, .sl ro 2 (l.map fun x => .agg x.av)), (3, .sl ⟨.cl 384, true⟩ 1 ((((l.take i).filter fun x => kwn x.alg).map wrd).map fun x => .lit (.string x))), (7, .sl ro 2 (l.map fun x => .agg x.av)), (8, .lit (.int .i64 l.length)), (9, .lit (.int .i64 i))], []⟩) (fun i => i ≤ l.length) (fun i => l.length - i) 0 (by omega) (Wk.both (by simp [wkL, wkV.same, frA.frL]) trivial) ?_
  intro i hi
  have hfl : ((l.take i).filter fun x => kwn x.alg).length ≤ i := Nat.le_trans (List.length_filter_le _ _) (by rw [List.length_take]; omega)
  simp
  by_cases hlt : i < l.length
  · have hav : l[i].av = [.lit (.string l[i].alg), .lit (.string l[i].bytes)] := rfl
    obtain ⟨g1, g2⟩ := hx _ (List.getElem_mem hlt)
    have hbz := b64_size l[i].bytes
    have hk : (l.take (i + 1)).filter (fun x => kwn x.alg) = (l.take i).filter (fun x => kwn x.alg) ++ (if kwn l[i].alg = true then [l[i]] else []) := by
      rw [List.take_succ_eq_append_getElem hlt, List.filter_append]
      cases h : kwn l[i].alg <;> simp [h]
    simp [hlt, hav, ro, mkF, mkF.mkL, okC, putElem, upd]
    by_cases c1 : l[i].alg = by8 "sha1"
    · have hkk : kwn l[i].alg = true := by simp [kwn, c1]
      simp [c1, ed]
      rw [← c1]
      refine ⟨by omega, ?_⟩
      refine vcall_go (implB64_fx hE l[i].bytes (by omega)) (by simp) (by simp) (by simp) (by simp) ?_
      simp [okC, frA, frA.frL, AS.dem, mapV, dem, dem.demL]
      refine ⟨by omega, by omega, i + 1, by omega, by omega, Wk.both (by simp [wkL, wkV.same, ro, hk, hkk, wrd]; rw [wrapN (by omega)]; exact wkV.same _) (by simp [wkB])⟩
    simp [c1]
    by_cases c2 : l[i].alg = by8 "sha256"
    · have hkk : kwn l[i].alg = true := by simp [kwn, c2]
      simp [c2, ed]
      rw [← c2]
      refine ⟨by omega, ?_⟩
      refine vcall_go (implB64_fx hE l[i].bytes (by omega)) (by simp) (by simp) (by simp) (by simp) ?_
      simp [okC, frA, frA.frL, AS.dem, mapV, dem, dem.demL]
      refine ⟨by omega, by omega, i + 1, by omega, by omega, Wk.both (by simp [wkL, wkV.same, ro, hk, hkk, wrd]; rw [wrapN (by omega)]; exact wkV.same _) (by simp [wkB])⟩
    simp [c2]
    by_cases c3 : l[i].alg = by8 "sha512"
    · have hkk : kwn l[i].alg = true := by simp [kwn, c3]
      simp [c3, ed]
      rw [← c3]
      refine ⟨by omega, ?_⟩
      refine vcall_go (implB64_fx hE l[i].bytes (by omega)) (by simp) (by simp) (by simp) (by simp) ?_
      simp [okC, frA, frA.frL, AS.dem, mapV, dem, dem.demL]
      refine ⟨by omega, by omega, i + 1, by omega, by omega, Wk.both (by simp [wkL, wkV.same, ro, hk, hkk, wrd]; rw [wrapN (by omega)]; exact wkV.same _) (by simp [wkB])⟩
    have hkk : kwn l[i].alg = false := by simp [kwn, c1, c2, c3]
    simp [c3]
    exact ⟨i + 1, by omega, by omega, Wk.both (by simp [wkL, wkV.same, ro, hk, hkk]; rw [wrapN (by omega)]; exact wkV.same _) (by simp [wkB])⟩
  · obtain rfl : i = l.length := by omega
    rw [List.take_length] at hfl ⊢
    have hps := pig_size hx l.length
    rw [List.take_length] at hps
    simp
    refine vcall_go (join_fx hE ((l.filter fun x => kwn x.alg).map wrd) (by8 " ") (by simp; omega) (by show (pig l).size ≤ _; omega)) (by simp [ro]) (by simp) (by simp) (by simp) ?_
    simp
    exact Fin_ret rfl rfl
end
end Go.Proofs.YticockdhfglolaaGreatDoor.Vm
namespace Go.Proofs.YticockdhfglolaaGreatDoor.Vm
open Go Go.RowKit
set_option linter.unusedVariables false
set_option linter.unusedSimpArgs false
def v135 : VC := .seq (.reg false [⟨some 2, .as (.c (.lit (.bool false))), none⟩] [2]) (.seq (.seq (.reg false [⟨some 3, .as (.c (.lit (.int .i64 0))), none⟩] []) (.block 0 (.loop (.seq (.seq (.reg false [⟨some 4, .mv (.t 3), none⟩, ⟨some 5, .mv (.t 0), none⟩, ⟨some 6, .len false (.t 5), none⟩, ⟨some 7, .bin .lss 0 (.t 4) (.t 6), none⟩] [4, 5, 6]) (.cond (.t 7) (.skip) (.exit 0))) (.seq (.block 1 (.seq (.reg false [⟨some 10, .mv (.t 0), none⟩, ⟨some 11, .mv (.t 3), none⟩, ⟨some 12, .ia 2 (.t 10) (.t 11), none⟩, ⟨some 13, .fa 0 (.t 12), none⟩, ⟨some 14, .ld false 1 (.t 13), none⟩, ⟨some 15, .bin .eql 0 (.t 14) (.c (.lit (.string (by8 "h1")))), none⟩] [10, 11, 12, 13, 14]) (.cond (.t 15) (.seq (.reg false [⟨some 2, .as (.c (.lit (.bool false))), none⟩] []) (.ret)) (.skip)))) (.reg false [⟨some 8, .mv (.t 3), none⟩, ⟨some 9, .bin .add 0 (.t 8) (.c (.lit (.int .i64 1))), none⟩, ⟨some 3, .as (.t 9), none⟩] [8, 9])))))) (.seq (.reg false [⟨some 16, .mv (.t 0), none⟩, ⟨some 17, .bld [(.lit (.string (by8 ""))), (.lit (.string (by8 ""))), (.lit (.string (by8 ""))), (.sl ⟨.nl, true⟩ 1 []), (.lit (.bool false)), (.sl ⟨.nl, true⟩ 1 [])] [(0, 1, (.c (.lit (.string (by8 "x"))))), (1, 1, (.c (.lit (.string (by8 "0.0.0"))))), (3, 1, (.t 16))], none⟩, ⟨some 18, .call false 66 [(.t 17)], none⟩, ⟨some 2, .as (.t 18), none⟩] [16, 17, 18]) (.ret)))
theorem is135 : Is Go.Proofs.Tryz.prog 135 19 v135 [.t 2] := ⟨Go.Proofs.Tryz.f135, dl [(0, [2]), (2, [4, 5, 6]), (4, [10, 11, 12, 13, 14]), (3, [8, 9]), (6, [16, 17, 18])], Go.Proofs.Tryz.func135, by kernel_rfl, by kernel_rfl, by kernel_rfl, by kernel_rfl⟩
theorem nought : by8 "0.0.0" = verT ⟨0, 0, 0, []⟩ := by
  have h := verT_nums (a := 0) (b := 0) (c := 0) (by omega) (by omega) (by omega)
  have h2 : joinB [decT 0, decT 0, decT 0] (one 46) = by8 "0.0.0" := by rw [dec0]; decide +kernel
  exact (h.trans h2).symm
theorem nought_exact : (exactO (by8 "0.0.0")).isSome = true := by
  have hv : verOk ⟨0, 0, 0, []⟩ = true := verOk_nums (a := 0) (b := 0) (c := 0) (by omega) (by omega) (by omega)
  have h1 : readVer (by8 "0.0.0") = some ⟨0, 0, 0, []⟩ := by rw [nought]; exact ver_round hv
  have h2 : exHigh ⟨0, 0, 0, []⟩ ≠ by8 "" := by
    rw [exHigh, if_pos rfl]
    exact verT_ne (by rw [verOk_pre0]; exact verOk_nums (a := 0) (b := 0) (c := 1) (by omega) (by omega) (by omega))
  rw [exactO, h1]
  simp only
  rw [if_neg h2]; rfl
def h1At (l : List Sm) (i : Nat) : Bool := !decide ((l.getD i sm0).alg = by8 "h1")
noncomputable def rightI (l : List Sm) : Bool := allN l.length (h1At l) && sumsOk l
section
variable {E : Env} (hE : E.P = Go.Proofs.Tryz.prog)
include hE
set_option maxHeartbeats 2000000 in
theorem right_fx (l : List Sm) (hl : l.length ≤ 1048576) (hx : ∀ s ∈ l, s.small) : Fx E 135 [] [.sl ro 2 (l.map fun x => .agg x.av)] [] (.lit (.bool (rightI l))) := by
  have sx : (by8 "x").size = 1 := by decide +kernel
  have s0 : (by8 "0.0.0").size = 5 := by decide +kernel
  have hp : packOk ⟨by8 "x", by8 "0.0.0", by8 "", l, false, []⟩ = sumsOk l := by
    have n1 : nameOk (by8 "x") = true := by decide +kernel
    have n2 : plainOk (by8 "") = true := by decide +kernel
    rw [packOk]
    simp only [n1, n2, nought_exact, Bool.true_and]
  have hf := specPack_fx hE ⟨by8 "x", by8 "0.0.0", by8 "", l, false, []⟩ ⟨by simp [sx], by simp [s0], by simp [by8_nil], ⟨hl, hx⟩, trivial, by simp, by simp⟩
  rw [hp] at hf
  refine (is135.to hE).fx [] (by simp) rfl rfl ?_
  simp [v135]
  refine X_loop (τ := Nat) (fun i => ⟨[(0, .sl ro 2 (l.map fun x => .agg x.av)), (3, .lit (.int .i64 i))], []⟩) (fun i => i ≤ l.length ∧ upTo (h1At l) i) (fun i => l.length - i) 0 ⟨by omega, upTo.zero _⟩ (Wk.both (by simp [wkL, wkV.same]) trivial) ?_
  rintro i ⟨hi, hall⟩
  simp
  by_cases hlt : i < l.length
  · have hav : l[i].av = [.lit (.string l[i].alg), .lit (.string l[i].bytes)] := rfl
    have hat : h1At l i = !decide (l[i].alg = by8 "h1") := by rw [h1At, getD_lt hlt]
    simp [hlt, hav, ro, mkF, mkF.mkL]
    by_cases c : l[i].alg = by8 "h1"
    · have : rightI l = false := by rw [rightI, allN_false hlt (by rw [hat, c]; simp)]; rfl
      simp [c]
      exact Fin_ret rfl (by rw [this]; rfl)
    · simp [c]
      exact ⟨i + 1, ⟨by omega, hall.next (by rw [hat]; simp [c])⟩, by omega, Wk.both (by simp [wkL, wkV.same, ro]; rw [wrapN (by omega)]; exact wkV.same _) trivial⟩
  · obtain rfl : i = l.length := by omega
    simp [fill, upd, okC]
    refine vcall_go hf (by simp [Pk.av, ro]) (by simp) (by simp) (by simp) ?_
    simp
    exact Fin_ret rfl (by rw [rightI, hall.all]; rfl)
end
end Go.Proofs.YticockdhfglolaaGreatDoor.Vm
namespace Go.Proofs.YticockdhfglolaaGreatDoor.Vm
open Go Go.RowKit
set_option linter.unusedVariables false
set_option linter.unusedSimpArgs false
def cutL (p : ByteArray) : ByteArray := if Lib.indexB p (one 45) < 0 then p else p.extract 0 (Lib.indexB p (one 45)).toNat
def cutR (p : ByteArray) : ByteArray := if Lib.indexB p (one 45) < 0 then by8 "" else p.extract ((Lib.indexB p (one 45)).toNat + 1) p.size
noncomputable def smI (p : ByteArray) : Sm := ⟨cutL p, (unB (cutR p)).getD (by8 "")⟩
noncomputable def smO (p : ByteArray) : Option Sm := if Lib.indexB p (one 45) < 0 then none else (unB (cutR p)).map fun b => ⟨cutL p, b⟩
theorem smO_smI {p : ByteArray} {x : Sm} (h : smO p = some x) : smI p = x := by
  unfold smO at h
  split at h
  · cases h
  · obtain ⟨b, hb, rfl⟩ := Option.map_eq_some_iff.1 h
    rw [smI, hb]; rfl
theorem unB_some {s : ByteArray} {b : ByteArray} (h : unB s = some b) : b64 b = s := by
  unfold unB at h
  split at h
  · rename_i he
    rw [← Option.some.inj h]; exact he.choose_spec
  · cases h
theorem unB_of {b : ByteArray} : ∃ c, unB (b64 b) = some c := by
  have he : ∃ c, b64 c = b64 b := ⟨b, rfl⟩
  exact ⟨he.choose, by unfold unB; rw [dif_pos he]⟩
theorem by45' : by8 "-" = one 45 := by decide +kernel
theorem smO_of {p : ByteArray} (h : p = wrd (smI p)) : smO p = some (smI p) := by
  rcases idx_cases 45 p with ⟨hi, hf⟩ | ⟨i, hi, hb, _, hx⟩
  · have h0 : (smI p).alg.size < p.size := by
      have hz := congrArg ByteArray.size h
      rw [wrd, by45', ByteArray.size_append, ByteArray.size_append, one_size] at hz
      omega
    have : cutL p = p := by rw [cutL, hi, if_pos (by omega)]
    rw [show (smI p).alg = cutL p from rfl, this] at h0
    omega
  · have ha : cutL p = p.extract 0 i := by rw [cutL, hx, if_neg (by omega), Int.toNat_natCast]
    have hr : cutR p = p.extract (i + 1) p.size := by rw [cutR, hx, if_neg (by omega), Int.toNat_natCast]
    have hc := ext_cut hi
    rw [hb] at hc
    have h2 : p.extract 0 i ++ one 45 ++ p.extract (i + 1) p.size = p.extract 0 i ++ one 45 ++ b64 (smI p).bytes := by
      rw [hc]
      have := h
      rw [wrd, show (smI p).alg = cutL p from rfl, ha, by45'] at this
      exact this
    have h3 := app_inj h2
    obtain ⟨c, hcc⟩ := unB_of (b := (smI p).bytes)
    rw [← h3, ← hr] at hcc
    rw [smO, if_neg (by omega), smI, hcc]
    rfl
noncomputable def mapS : List ByteArray → Option (List Sm)
  | [] => some []
  | p :: r => (smO p).bind fun x => (mapS r).map (x :: ·)
theorem mapS_smI : ∀ {w : List ByteArray} {out : List Sm}, mapS w = some out → w.map smI = out
  | [], out, h => by obtain rfl := Option.some.inj h; rfl
  | p :: r, out, h => by
    rw [mapS] at h
    obtain ⟨x, hx, h⟩ := Option.bind_eq_some_iff.1 h
    obtain ⟨q, hq, rfl⟩ := Option.map_eq_some_iff.1 h
    rw [List.map_cons, smO_smI hx, mapS_smI hq]
theorem mapS_all : ∀ {w : List ByteArray}, (∀ p ∈ w, p = wrd (smI p)) → mapS w = some (w.map smI)
  | [], _ => rfl
  | p :: r, h => by
    rw [mapS, smO_of (h p List.mem_cons_self), mapS_all fun q hq => h q (List.mem_cons_of_mem _ hq)]; rfl
theorem rightI_sums {l : List Sm} (h : rightI l = true) : sumsOk l = true := by
  rw [rightI, Bool.and_eq_true] at h; exact h.2
theorem sgn_no32 : ∀ x : _root_.Fin 64, bt sgn x.val ≠ 32 := by decide +kernel
theorem b64_free (b : ByteArray) : free 32 (b64 b) := by
  intro j hj
  rw [b64_bt b hj, ch]
  split
  · decide
  · exact sgn_no32 ⟨_, Nat.mod_lt _ (by decide)⟩
theorem ext_free {c : UInt8} {p : ByteArray} (h : free c p) (a b : Nat) : free c (p.extract a b) := by
  intro j hj
  rw [ext_size] at hj
  rw [bt_ext (by omega)]
  exact h _ (by omega)
theorem cutL_free {p : ByteArray} (h : free 32 p) : free 32 (cutL p) := by
  unfold cutL; split
  · exact h
  · exact ext_free h _ _
theorem by32 : by8 " " = one 32 := by decide +kernel
theorem wrd_free {p : ByteArray} (h : free 32 p) : free 32 (wrd (smI p)) := by
  rw [wrd, free_app, free_app, by45']
  exact ⟨⟨cutL_free h, one_free (by decide)⟩, b64_free _⟩
theorem pig_words {s : ByteArray} (hs : s ≠ by8 "") (hp : pig ((spl 32 s).map smI) = s) : (∀ p ∈ spl 32 s, p = wrd (smI p)) ∧ ∀ x ∈ (spl 32 s).map smI, kwn x.alg = true := by
  have hf := spl_free 32 s.size s (Nat.le_refl _)
  obtain ⟨w, hw⟩ : ∃ w, spl 32 s = w := ⟨_, rfl⟩
  rw [hw] at hp hf ⊢
  obtain ⟨m, hm⟩ : ∃ m, (w.map smI).filter (fun x => kwn x.alg) = m := ⟨_, rfl⟩
  have hp2 : joinB (m.map wrd) (one 32) = s := by rw [← hp, pig, hm, by32]
  have hne : m.map wrd ≠ [] := fun e => hs (by rw [← hp2, e, joinB_nil])
  have hfree : ∀ q ∈ m.map wrd, free 32 q := fun q hq => by
    obtain ⟨x, hx, rfl⟩ := List.mem_map.1 hq
    rw [← hm] at hx
    obtain ⟨p, hpw, rfl⟩ := List.mem_map.1 (List.mem_filter.1 hx).1
    exact wrd_free (hf p hpw)
  have h1 := spl_join 32 (m.map wrd) hne hfree
  rw [hp2, hw] at h1
  have hlen : m.length = (w.map smI).length := by
    have := congrArg List.length h1
    rw [List.length_map] at this ⊢
    exact this.symm
  have hall : ∀ x ∈ w.map smI, kwn x.alg = true := by
    rw [← hm] at hlen
    exact List.length_filter_eq_length_iff.1 hlen
  have hmm : m = w.map smI := by rw [← hm]; exact List.filter_eq_self.2 hall
  rw [hmm, List.map_map] at h1
  refine ⟨fun p hpw => ?_, hall⟩
  obtain ⟨i, hi, rfl⟩ := List.getElem_of_mem hpw
  have := congrArg (·[i]?) h1
  simp only [List.getElem?_map, List.getElem?_eq_getElem hi, Option.map_some, Option.some.injEq] at this
  exact this
/-- what the program reads, and what the reference reads -/
noncomputable def giI (s : ByteArray) : Option (List Sm) := if s = by8 "" then some [] else if sumsOk ((spl 32 s).map smI) = true ∧ pig ((spl 32 s).map smI) = s then some ((spl 32 s).map smI) else none
noncomputable def giS (s : ByteArray) : Option (List Sm) := if s = by8 "" then some [] else (mapS (spl 32 s)).bind fun out => if rightI out = true ∧ pig out = s then some out else none
theorem gi_eq (s : ByteArray) : giS s = giI s := by
  unfold giS giI
  by_cases hs : s = by8 ""
  · rw [if_pos hs, if_pos hs]
  rw [if_neg hs, if_neg hs]
  by_cases h : sumsOk ((spl 32 s).map smI) = true ∧ pig ((spl 32 s).map smI) = s
  · obtain ⟨h1, h2⟩ := pig_words hs h.2
    rw [if_pos h, mapS_all h1, Option.bind_some]
    have h3 : allN ((spl 32 s).map smI).length (h1At ((spl 32 s).map smI)) = true := allN_true fun i hi => by
      have hk := h2 _ (List.getElem_mem hi)
      rw [kwn_iff] at hk
      rw [h1At, getD_lt hi]
      cases hd : decide (((spl 32 s).map smI)[i].alg = by8 "h1")
      · rfl
      · rw [hd] at hk; simp at hk
    rw [if_pos ⟨by rw [rightI, h3, h.1]; rfl, h.2⟩]
  · rw [if_neg h]
    cases hm : mapS (spl 32 s) with
    | none => rfl
    | some out =>
      have := mapS_smI hm
      rw [Option.bind_some, if_neg]
      rintro ⟨g1, g2⟩
      exact h ⟨by rw [this]; exact rightI_sums g1, by rw [this]; exact g2⟩
end Go.Proofs.YticockdhfglolaaGreatDoor.Vm
namespace Go.Proofs.YticockdhfglolaaGreatDoor.Vm
open Go Go.RowKit
set_option linter.unusedVariables false
set_option linter.unusedSimpArgs false
def v81 : VC := .seq (.reg false [⟨some 2, .as (.c (.sl ⟨.nl, true⟩ 1 [])), none⟩, ⟨some 3, .as (.c (.lit (.bool false))), none⟩] [2, 3]) (.seq (.reg false [⟨some 10, .bsl 2 [], none⟩, ⟨some 4, .as (.t 10), none⟩] [10]) (.seq (.reg false [⟨some 11, .mv (.t 0), none⟩, ⟨some 12, .call false 133 [(.t 11)], none⟩, ⟨some 5, .as (.t 12), none⟩] [11, 12]) (.seq (.seq (.reg false [⟨some 6, .as (.c (.lit (.int .i64 0))), none⟩] []) (.block 0 (.loop (.seq (.seq (.reg false [⟨some 13, .mv (.t 6), none⟩, ⟨some 14, .mv (.t 5), none⟩, ⟨some 15, .len false (.t 14), none⟩, ⟨some 16, .bin .lss 0 (.t 13) (.t 15), none⟩, ⟨some 17, .mv (.t 16), none⟩, ⟨some 18, .mv (.t 0), (some (17, true))⟩, ⟨some 19, .bin .neq 0 (.t 18) (.c (.lit (.string (by8 "")))), (some (17, true))⟩, ⟨some 20, .pick (.t 17) (.t 19) (.c (.lit (.bool false))), none⟩] [13, 14, 15, 16, 17, 18, 19]) (.cond (.t 20) (.skip) (.exit 0))) (.seq (.block 1 (.seq (.reg false [⟨some 23, .mv (.t 5), none⟩, ⟨some 24, .mv (.t 6), none⟩, ⟨some 25, .ia 1 (.t 23) (.t 24), none⟩, ⟨some 26, .ld false 1 (.t 25), none⟩, ⟨some 27, .call false 100 [(.t 26), (.c (.lit (.int .u8 45)))], none⟩, ⟨some 7, .as (.t 27), none⟩] [23, 24, 25, 26, 27]) (.seq (.seq (.reg false [⟨some 28, .mv (.t 7), none⟩, ⟨some 29, .bin .lss 0 (.t 28) (.c (.lit (.int .i64 0))), none⟩] [28]) (.cond (.t 29) (.seq (.reg false [⟨some 30, .bsl 2 [], none⟩, ⟨some 2, .as (.t 30), none⟩, ⟨some 3, .as (.c (.lit (.bool false))), none⟩] [30]) (.ret)) (.skip))) (.seq (.reg false [⟨some 32, .mv (.t 5), none⟩, ⟨some 33, .mv (.t 6), none⟩, ⟨some 34, .ia 1 (.t 32) (.t 33), none⟩, ⟨some 35, .ld false 1 (.t 34), none⟩, ⟨some 36, .mv (.t 7), none⟩, ⟨some 37, .bin .add 0 (.t 36) (.c (.lit (.int .i64 1))), none⟩, ⟨some 38, .slS (.t 35) (some (.t 37)) none, none⟩, ⟨some 39, .call false 134 [(.t 38)], none⟩, ⟨some 31, .mv (.t 39), none⟩, ⟨some 40, .ext (.t 31) 0, none⟩, ⟨some 41, .ext (.t 31) 1, none⟩, ⟨some 8, .as (.t 40), none⟩, ⟨some 9, .as (.t 41), none⟩] [32, 33, 34, 35, 36, 37, 38, 39, 31, 40, 41]) (.seq (.seq (.reg false [⟨some 42, .mv (.t 9), none⟩, ⟨some 43, .un .not (.t 42), none⟩] [42]) (.cond (.t 43) (.seq (.reg false [⟨some 44, .bsl 2 [], none⟩, ⟨some 2, .as (.t 44), none⟩, ⟨some 3, .as (.c (.lit (.bool false))), none⟩] [44]) (.ret)) (.skip))) (.reg false [⟨some 45, .mv (.t 4), none⟩, ⟨some 46, .mv (.t 5), none⟩, ⟨some 47, .mv (.t 6), none⟩, ⟨some 48, .ia 1 (.t 46) (.t 47), none⟩, ⟨some 49, .ld false 1 (.t 48), none⟩, ⟨some 50, .mv (.t 7), none⟩, ⟨some 51, .slS (.t 49) none (some (.t 50)), none⟩, ⟨some 52, .mv (.t 8), none⟩, ⟨some 53, .bld [(.lit (.string (by8 ""))), (.lit (.string (by8 "")))] [(0, 1, (.t 51)), (1, 1, (.t 52))], none⟩, ⟨some 54, .bsl 2 [(.t 53)], none⟩, ⟨some 55, .app 2 32 (.t 45) (.t 54), none⟩, ⟨some 4, .as (.t 55), none⟩] [45, 46, 47, 48, 49, 50, 51, 52, 53, 54, 55])))))) (.reg false [⟨some 21, .mv (.t 6), none⟩, ⟨some 22, .bin .add 0 (.t 21) (.c (.lit (.int .i64 1))), none⟩, ⟨some 6, .as (.t 22), none⟩] [21, 22])))))) (.seq (.seq (.reg false [⟨some 56, .mv (.t 4), none⟩, ⟨some 57, .call false 135 [(.t 56)], none⟩, ⟨some 58, .un .not (.t 57), none⟩, ⟨some 59, .mv (.t 58), none⟩, ⟨some 60, .mv (.t 4), (some (59, false))⟩, ⟨some 61, .call false 136 [(.t 60)], (some (59, false))⟩, ⟨some 62, .mv (.t 0), (some (59, false))⟩, ⟨some 63, .bin .neq 0 (.t 61) (.t 62), (some (59, false))⟩, ⟨some 64, .pick (.t 59) (.c (.lit (.bool true))) (.t 63), none⟩] [56, 57, 58, 59, 60, 61, 62, 63]) (.cond (.t 64) (.seq (.reg false [⟨some 65, .bsl 2 [], none⟩, ⟨some 2, .as (.t 65), none⟩, ⟨some 3, .as (.c (.lit (.bool false))), none⟩] [65]) (.ret)) (.skip))) (.seq (.reg false [⟨some 66, .mv (.t 4), none⟩, ⟨some 2, .as (.t 66), none⟩, ⟨some 3, .as (.c (.lit (.bool true))), none⟩] [66]) (.ret))))))
theorem is81 : Is Go.Proofs.Tryz.prog 81 67 v81 [.t 2, .t 3] := ⟨Go.Proofs.Tryz.f81, dl [(0, [2, 3]), (1, [10]), (2, [11, 12]), (4, [13, 14, 15, 16, 17, 18, 19]), (6, [23, 24, 25, 26, 27]), (7, [28]), (8, [30]), (9, [32, 33, 34, 35, 36, 37, 38, 39, 31, 40, 41]), (10, [42]), (11, [44]), (12, [45, 46, 47, 48, 49, 50, 51, 52, 53, 54, 55]), (5, [21, 22]), (13, [56, 57, 58, 59, 60, 61, 62, 63]), (14, [65]), (15, [66])], Go.Proofs.Tryz.func81, by kernel_rfl, by kernel_rfl, by kernel_rfl, by kernel_rfl⟩
theorem mapS_app : ∀ (a b : List ByteArray), mapS (a ++ b) = (mapS a).bind fun x => (mapS b).map (x ++ ·)
  | [], b => by simp [mapS]
  | p :: r, b => by
    rw [List.cons_append, mapS, mapS, mapS_app r b]
    cases smO p with
    | none => rfl
    | some x =>
      simp only [Option.bind_some]
      cases mapS r with
      | none => rfl
      | some y =>
        simp only [Option.bind_some, Option.map_some, Option.map_map]
        rfl
theorem mapS_none {l : List ByteArray} {i : Nat} (h : i < l.length) (hp : smO l[i] = none) : mapS l = none := by
  have e : l = l.take i ++ (l[i] :: l.drop (i + 1)) := by rw [← List.drop_eq_getElem_cons h, List.take_append_drop]
  rw [e, mapS_app, mapS, hp]
  cases mapS (l.take i) <;> rfl
theorem mapS_next {l : List ByteArray} {i : Nat} (h : i < l.length) {out : List Sm} {b : Sm} (ho : mapS (l.take i) = some out) (hp : smO l[i] = some b) : mapS (l.take (i + 1)) = some (out ++ [b]) := by
  rw [List.take_succ_eq_append_getElem h, mapS_app, ho, mapS, hp]
  rfl
theorem mapS_len {l : List ByteArray} {out : List Sm} (h : mapS l = some out) : out.length = l.length := by
  rw [← mapS_smI h, List.length_map]
theorem cutL_size (p : ByteArray) : (cutL p).size ≤ p.size := by
  unfold cutL; split
  · omega
  · rw [ext_size]; omega
theorem cutR_size (p : ByteArray) : (cutR p).size ≤ p.size := by
  unfold cutR; split
  · rw [by8_nil]; omega
  · rw [ext_size]; omega
theorem unB_size {s b : ByteArray} (h : unB s = some b) : b.size ≤ s.size := by
  rw [← unB_some h, b64_size]; omega
theorem smI_small {p : ByteArray} (h : p.size ≤ 1048576) : (smI p).small := by
  have h1 := cutL_size p
  have h2 := cutR_size p
  refine ⟨Nat.le_trans h1 h, ?_⟩
  show ((unB (cutR p)).getD (by8 "")).size ≤ _
  cases hu : unB (cutR p) with
  | none => simp [by8_nil]
  | some b => have := unB_size hu; simp; omega
noncomputable def giRes (s : ByteArray) : AV := match giI s with
  | some l => .tup [.sl ⟨.no, true⟩ 2 (l.map fun x => .agg x.av), .lit (.bool true)]
  | none => .tup [.sl ⟨.no, true⟩ 2 [], .lit (.bool false)]
theorem giRes_ok (s : ByteArray) : resOk (giRes s) = true := by unfold giRes; cases giI s <;> rfl
theorem join_len : ∀ (l : List ByteArray), l ≠ [] → l.length ≤ (joinB l (one 32)).size + 1
  | [], h => absurd rfl h
  | [x], _ => by simp
  | x :: y :: r, _ => by
    have := join_len (y :: r) (by simp)
    rw [joinB_cons, ByteArray.size_append, ByteArray.size_append, one_size]
    simp only [List.length_cons] at this ⊢
    omega
theorem words_len {s : ByteArray} {out : List Sm} (h : mapS (spl 32 s) = some out) : (spl 32 s).length ≤ s.size := by
  have hj := join_spl 32 s.size s (Nat.le_refl _)
  obtain ⟨w, hw⟩ : ∃ w, spl 32 s = w := ⟨_, rfl⟩
  rw [hw] at h hj ⊢
  match w, hw with
  | [], _ => simp
  | p :: r, _ =>
    have hp : 0 < p.size := by
      rcases Nat.eq_zero_or_pos p.size with h0 | h0
      · rw [mapS] at h
        obtain ⟨x, hx, _⟩ := Option.bind_eq_some_iff.1 h
        unfold smO at hx
        rcases idx_cases 45 p with ⟨e, _⟩ | ⟨i, hi, _⟩
        · rw [if_pos (by omega)] at hx; cases hx
        · omega
      · exact h0
    rw [← hj]
    cases r with
    | nil => rw [joinB_one]; simp; omega
    | cons y r =>
      have := join_len (y :: r) (by simp)
      rw [joinB_cons, ByteArray.size_append, ByteArray.size_append, one_size]
      simp only [List.length_cons] at this ⊢
      omega
section
variable {E : Env} (hE : E.P = Go.Proofs.Tryz.prog)
include hE
set_option maxHeartbeats 8000000 in
theorem specGetI_fx (s : ByteArray) (hs : s.size ≤ 1048576) : Fx E 81 [] [.lit (.string s)] [] (giRes s) := by
  have hgi := gi_eq s
  have hno : giS s = none → giRes s = .tup [.sl ⟨.no, true⟩ 2 [], .lit (.bool false)] := fun h => by rw [giRes, ← hgi, h]
  have hyes : ∀ l, giS s = some l → giRes s = .tup [.sl ⟨.no, true⟩ 2 (l.map fun x => .agg x.av), .lit (.bool true)] := fun l h => by rw [giRes, ← hgi, h]
  have hz : ∀ (i : Nat) p, (spl 32 s)[i]? = some p → p.size ≤ s.size := fun i p h => spl_size h
  have hll := spl_len_le 32 s
  refine (is81.to hE).fx [] (by simp) rfl (giRes_ok s) ?_
  simp [v81]
  refine vcall_go (words_fx hE s (by omega)) (by simp) (by simp) (by simp) (by simp) ?_
  have hg : giS s = if s = by8 "" then some [] else (mapS (spl 32 s)).bind fun out => if rightI out = true ∧ pig out = s then some out else none := rfl
  obtain ⟨w, hw⟩ : ∃ w, spl 32 s = w := ⟨_, rfl⟩
  rw [hw] at hz hll hg ⊢
  simp
  refine X_loop (τ := Nat × List Sm) (fun p => ⟨[(0, .lit (.string s)), (4, .sl ⟨.cl 640, true⟩ 2 (p.2.map fun x => .agg x.av)), (5, .sl ⟨.no, true⟩ 1 (w.map fun x => .lit (.string x))), (6, .lit (.int .i64 p.1))], []⟩) (fun p => p.1 ≤ w.length ∧ mapS (w.take p.1) = some p.2 ∧ (p.1 = 0 ∨ s ≠ by8 "")) (fun p => w.length - p.1) (0, []) ⟨by omega, rfl, .inl rfl⟩ (Wk.both (by simp [wkL, wkV.same, frA.frL]) trivial) ?_
  rintro ⟨i, out⟩ ⟨hi, hm, hi0⟩
  simp only at hi hm hi0
  have hwne : 0 < w.length := by rw [← hw]; exact List.length_pos_iff.2 (spl_ne 32 s)
  have hol := mapS_len hm
  rw [List.length_take] at hol
  have hsm : ∀ x ∈ out, x.small := fun x hx => by
    rw [← mapS_smI hm] at hx
    obtain ⟨p, hp, rfl⟩ := List.mem_map.1 hx
    obtain ⟨j, hj, rfl⟩ := List.getElem_of_mem (List.mem_of_mem_take hp)
    exact smI_small (Nat.le_trans (hz j _ (List.getElem?_eq_getElem hj)) hs)
  simp
  by_cases hlt : i < w.length
  · simp [hlt]
    by_cases hs0 : s = by8 ""
    · have h0 : i = 0 := by rcases hi0 with h | h; exact h; exact absurd hs0 h
      subst h0
      obtain rfl : [] = out := Option.some.inj hm
      have hr : rightI [] = true := by decide +kernel
      have hn : giS s = some [] := by rw [hg, if_pos hs0]
      have hr2 := right_fx hE [] (by simp) (by simp)
      rw [hr] at hr2
      simp [hs0]
      refine vcall_go hr2 (by simp [ro]) (by simp) (by simp) (by simp) ?_
      simp
      refine vcall_go (specPutI_fx hE [] (by simp) (by simp)) (by simp [ro]) (by simp) (by simp) (by simp) ?_
      rw [show pig [] = by8 "" from joinB_nil _]
      simp
      exact fin_row2 (by decide) rfl rfl (hyes [] hn)
    · have hpz := hz i _ (List.getElem?_eq_getElem hlt)
      simp [hs0, hlt, mkF]
      refine vcall_go (l01At_fx hE w[i] 45 (by omega)) (by simp) (by simp) (by simp) (by simp) ?_
      by_cases c1 : Lib.indexB w[i] (one 45) < 0
      · have hn : giS s = none := by rw [hg, if_neg hs0, mapS_none hlt (by rw [smO, if_pos c1])]; rfl
        simp [c1]
        exact fin_row2 (by decide) rfl rfl (hno hn)
      · obtain ⟨k, hk⟩ : ∃ k : Nat, Lib.indexB w[i] (one 45) = k := ⟨(Lib.indexB w[i] (one 45)).toNat, by omega⟩
        rw [hk]
        have hkz : k + 1 ≤ w[i].size := by
          rcases idx_cases 45 w[i] with ⟨e, _⟩ | ⟨j, hj, _, _, e⟩
          · omega
          · omega
        have c2 : ¬ ((k : Int) < 0) := by omega
        simp [c2, hlt, mkF]
        rw [wrapN (by omega)]
        refine wh_l (l := (k + 1 : Nat)) (k := .i64) rfl (by omega) (by omega) ?_
        have hR : cutR w[i] = w[i].extract (k + 1) w[i].size := by rw [cutR, hk, if_neg (by omega), Int.toNat_natCast]
        have hL : cutL w[i] = w[i].extract 0 k := by rw [cutL, hk, if_neg (by omega), Int.toNat_natCast]
        have hrz := cutR_size w[i]
        simp
        rw [← hR]
        refine vcall_go (specGet64_fx hE (cutR w[i]) (by omega)) (by simp) (by simp) (by simp) (by simp) ?_
        unfold unRes
        cases hu : unB (cutR w[i]) with
        | none =>
          have hn : giS s = none := by rw [hg, if_neg hs0, mapS_none hlt (by rw [smO, if_neg c1, hu]; rfl)]; rfl
          simp
          exact fin_row2 (by decide) rfl rfl (hno hn)
        | some b =>
          have hso : smO w[i] = some ⟨cutL w[i], b⟩ := by rw [smO, if_neg c1, hu]; rfl
          simp [hlt, mkF]
          refine wh_h (h := k) (k := .i64) rfl (by omega) (by omega) ?_
          simp [fill, upd, okC, frA, frA.frL, AS.dem, mapV, dem, dem.demL]
          have hav : (⟨w[i].extract 0 k, b⟩ : Sm).av = [.lit (.string (w[i].extract 0 k)), .lit (.string b)] := rfl
          rw [hL] at hso
          refine ⟨by omega, i + 1, out ++ [⟨w[i].extract 0 k, b⟩], ⟨by omega, mapS_next hlt hm hso, .inr hs0⟩, by omega, Wk.both (by simp [wkL, wkV.same, hav]; rw [wrapN (by omega)]; exact wkV.same _) trivial⟩
  · obtain rfl : i = w.length := by omega
    rw [List.take_length] at hm
    have hwl : w.length ≤ s.size := by have := words_len (s := s) (out := out) (by rw [hw]; exact hm); rw [hw] at this; exact this
    have hol2 : out.length ≤ 1048576 := by have := mapS_len hm; omega
    have hs0 : ¬ s = by8 "" := by rcases hi0 with h | h; omega; exact h
    rw [if_neg hs0, hm, Option.bind_some] at hg
    simp
    refine vcall_go (right_fx hE out hol2 hsm) (by simp [ro]) (by simp) (by simp) (by simp) ?_
    simp
    cases c1 : rightI out
    · have hn : giS s = none := by rw [hg, c1]; simp
      simp
      exact fin_row2 (by decide) rfl rfl (hno hn)
    simp
    refine vcall_go (specPutI_fx hE out hol2 hsm) (by simp [ro]) (by simp) (by simp) (by simp) ?_
    by_cases c2 : pig out = s
    · have hn : giS s = some out := by rw [hg, c1, if_pos ⟨rfl, c2⟩]
      simp [c2]
      exact fin_row2 (by decide) rfl rfl (hyes out hn)
    · have hn : giS s = none := by rw [hg, if_neg fun h => c2 h.2]
      simp [c2]
      exact fin_row2 (by decide) rfl rfl (hno hn)
end
end Go.Proofs.YticockdhfglolaaGreatDoor.Vm
namespace Go.Proofs.YticockdhfglolaaGreatDoor.Vm
open Go Go.RowKit
set_option linter.unusedVariables false
set_option linter.unusedSimpArgs false
def v142 : VC := .seq (.reg false [⟨some 2, .as (.c (.sl ⟨.nl, true⟩ 1 [])), none⟩] [2]) (.seq (.reg false [⟨some 3, .mv (.t 0), none⟩, ⟨some 4, .call false 138 [(.t 3), (.c (.lit (.string (by8 " "))))], none⟩, ⟨some 2, .as (.t 4), none⟩] [3, 4]) (.ret))
theorem is142 : Is Go.Proofs.Tryz.prog 142 5 v142 [.t 2] := ⟨Go.Proofs.Tryz.f142, dl [(0, [2]), (1, [3, 4])], Go.Proofs.Tryz.func142, by kernel_rfl, by kernel_rfl, by kernel_rfl, by kernel_rfl⟩
def v88 : VC := .seq (.reg false [⟨some 2, .as (.c (.sl ⟨.nl, true⟩ 1 [])), none⟩, ⟨some 3, .as (.c (.lit (.bool false))), none⟩] [2, 3]) (.seq (.reg false [⟨some 12, .bsl 2 [], none⟩, ⟨some 4, .as (.t 12), none⟩] [12]) (.seq (.seq (.reg false [⟨some 13, .mv (.t 0), none⟩, ⟨some 14, .call false 142 [(.t 13)], none⟩, ⟨some 15, .len false (.t 14), none⟩, ⟨some 16, .mv (.c (.lit (.int .i64 0))), none⟩] [13]) (.block 0 (.loop (.seq (.reg false [⟨some 17, .bin .lss 0 (.t 16) (.t 15), none⟩] []) (.seq (.cond (.t 17) (.skip) (.exit 0)) (.seq (.block 1 (.seq (.reg false [⟨some 18, .ia 1 (.t 14) (.t 16), none⟩, ⟨some 19, .ld false 1 (.t 18), none⟩, ⟨some 6, .as (.t 19), none⟩] [18, 19]) (.seq (.seq (.reg false [⟨some 20, .mv (.t 0), none⟩, ⟨some 21, .bin .eql 0 (.t 20) (.c (.lit (.string (by8 "")))), none⟩] [20]) (.cond (.t 21) (.exit 0) (.skip))) (.seq (.reg false [⟨some 23, .mv (.t 6), none⟩, ⟨some 24, .call false 143 [(.t 23), (.c (.lit (.string (by8 "-"))))], none⟩, ⟨some 22, .mv (.t 24), none⟩, ⟨some 25, .ext (.t 22) 0, none⟩, ⟨some 26, .ext (.t 22) 1, none⟩, ⟨some 27, .ext (.t 22) 2, none⟩, ⟨some 7, .as (.t 25), none⟩, ⟨some 8, .as (.t 26), none⟩, ⟨some 9, .as (.t 27), none⟩] [23, 24, 22, 25, 26, 27, 9]) (.seq (.reg false [⟨some 29, .mv (.t 8), none⟩, ⟨some 30, .call false 144 [(.t 29)], none⟩, ⟨some 28, .mv (.t 30), none⟩, ⟨some 31, .ext (.t 28) 0, none⟩, ⟨some 32, .ext (.t 28) 1, none⟩, ⟨some 10, .as (.t 31), none⟩, ⟨some 11, .as (.t 32), none⟩] [29, 30, 28, 31, 32, 11]) (.reg false [⟨some 33, .mv (.t 4), none⟩, ⟨some 34, .mv (.t 7), none⟩, ⟨some 35, .mv (.t 10), none⟩, ⟨some 36, .bld [(.lit (.string (by8 ""))), (.lit (.string (by8 "")))] [(0, 1, (.t 34)), (1, 1, (.t 35))], none⟩, ⟨some 37, .bsl 2 [(.t 36)], none⟩, ⟨some 38, .app 2 32 (.t 33) (.t 37), none⟩, ⟨some 4, .as (.t 38), none⟩] [33, 34, 35, 36, 37, 38])))))) (.reg false [⟨some 39, .bin .add 0 (.t 16) (.c (.lit (.int .i64 1))), none⟩, ⟨some 16, .mv (.t 39), none⟩] [39]))))))) (.seq (.seq (.reg false [⟨some 40, .mv (.t 4), none⟩, ⟨some 41, .call false 116 [(.t 40)], none⟩, ⟨some 42, .un .not (.t 41), none⟩, ⟨some 43, .mv (.t 42), none⟩, ⟨some 44, .mv (.t 4), (some (43, false))⟩, ⟨some 45, .call false 145 [(.t 44)], (some (43, false))⟩, ⟨some 46, .mv (.t 0), (some (43, false))⟩, ⟨some 47, .bin .neq 0 (.t 45) (.t 46), (some (43, false))⟩, ⟨some 48, .pick (.t 43) (.c (.lit (.bool true))) (.t 47), none⟩] [40, 41, 42, 43, 44, 45, 46, 47]) (.cond (.t 48) (.seq (.reg false [⟨some 2, .as (.c (.sl ⟨.nl, true⟩ 1 [])), none⟩, ⟨some 3, .as (.c (.lit (.bool false))), none⟩] []) (.ret)) (.skip))) (.seq (.reg false [⟨some 49, .mv (.t 4), none⟩, ⟨some 2, .as (.t 49), none⟩, ⟨some 3, .as (.c (.lit (.bool true))), none⟩] [49]) (.ret)))))
theorem is88 : Is Go.Proofs.Tryz.prog 88 50 v88 [.t 2, .t 3] := ⟨Go.Proofs.Tryz.f88, dl [(0, [2, 3]), (1, [12]), (2, [13]), (4, [18, 19]), (5, [20]), (6, [23, 24, 22, 25, 26, 27, 9]), (7, [29, 30, 28, 31, 32, 11]), (8, [33, 34, 35, 36, 37, 38]), (9, [39]), (10, [40, 41, 42, 43, 44, 45, 46, 47]), (12, [49])], Go.Proofs.Tryz.func88, by kernel_rfl, by kernel_rfl, by kernel_rfl, by kernel_rfl⟩
theorem cutC_eq (p : ByteArray) : ∃ d, cutC 45 p = .tup [.lit (.string (cutL p)), .lit (.string (cutR p)), .lit (.bool d)] := by
  unfold cutC cutL cutR
  by_cases h : 0 ≤ Lib.indexB p (one 45)
  · rw [if_pos h, if_neg (by omega), if_neg (by omega)]; exact ⟨_, rfl⟩
  · rw [if_neg h, if_pos (by omega), if_pos (by omega)]; exact ⟨_, rfl⟩
theorem unRes_eq (s : ByteArray) : ∃ ok, unRes s = .tup [.lit (.string ((unB s).getD (by8 ""))), .lit (.bool ok)] := by
  unfold unRes
  cases unB s with
  | none => exact ⟨_, rfl⟩
  | some b => exact ⟨_, rfl⟩
section
variable {E : Env} (hE : E.P = Go.Proofs.Tryz.prog) (hM : ∀ w, E.K w → KM w)
include hE hM
theorem implWords_fx (s : ByteArray) (hs : s.size ≤ 4294967280) : Fx E 142 [] [.lit (.string s)] [] (.sl ⟨.no, true⟩ 1 ((spl 32 s).map fun x => .lit (.string x))) := by
  refine (is142.to hE).fx [] (by simp) rfl rfl ?_
  simp [v142]
  refine vcall_go (splitM_fx hE hM s (one 32) (by omega) (by decide)) (by rw [← by32]; rfl) (by simp) (by simp) (by simp) ?_
  simp
  exact Fin_ret rfl rfl
set_option maxHeartbeats 8000000 in
theorem implGetI_fx (s : ByteArray) (hs : s.size ≤ 1048576) : Fx E 88 [] [.lit (.string s)] [] (giRes s) := by
  have hno : giI s = none → giRes s = .tup [.sl ⟨.no, true⟩ 2 [], .lit (.bool false)] := fun h => by rw [giRes, h]
  have hyes : ∀ l, giI s = some l → giRes s = .tup [.sl ⟨.no, true⟩ 2 (l.map fun x => .agg x.av), .lit (.bool true)] := fun l h => by rw [giRes, h]
  have hz : ∀ (i : Nat) p, (spl 32 s)[i]? = some p → p.size ≤ s.size := fun i p h => spl_size h
  have hll := spl_len_le 32 s
  refine (is88.to hE).fx [] (by simp) rfl (giRes_ok s) ?_
  simp [v88]
  refine vcall_go (implWords_fx hE hM s (by omega)) (by simp) (by simp) (by simp) (by simp) ?_
  have hg : giI s = if s = by8 "" then some [] else if sumsOk ((spl 32 s).map smI) = true ∧ pig ((spl 32 s).map smI) = s then some ((spl 32 s).map smI) else none := rfl
  have hwne : 0 < (spl 32 s).length := List.length_pos_iff.2 (spl_ne 32 s)
  obtain ⟨w, hw⟩ : ∃ w, spl 32 s = w := ⟨_, rfl⟩
  rw [hw] at hz hll hg hwne ⊢
  have hsm : ∀ x ∈ w.map smI, x.small := fun x hx => by
    obtain ⟨p, hp, rfl⟩ := List.mem_map.1 hx
    obtain ⟨j, hj, rfl⟩ := List.getElem_of_mem hp
    exact smI_small (Nat.le_trans (hz j _ (List.getElem?_eq_getElem hj)) hs)
  simp
  refine X_loop (τ := Nat) (fun i => ⟨[(0, .lit (.string s)), (4, .sl ⟨.cl 768, true⟩ 2 (((w.take i).map smI).map fun x => .agg x.av)), (14, .sl ⟨.no, true⟩ 1 (w.map fun x => .lit (.string x))), (15, .lit (.int .i64 w.length)), (16, .lit (.int .i64 i))], []⟩) (fun i => i ≤ w.length ∧ (i = 0 ∨ s ≠ by8 "")) (fun i => w.length - i) 0 ⟨by omega, .inl rfl⟩ (Wk.both (by simp [wkL, wkV.same, frA.frL]) trivial) ?_
  rintro i ⟨hi, hi0⟩
  simp
  by_cases hlt : i < w.length
  · simp [hlt, mkF]
    by_cases hs0 : s = by8 ""
    · have h0 : i = 0 := by rcases hi0 with h | h; exact h; exact absurd hs0 h
      subst h0
      have hn : giI s = some [] := by rw [hg, if_pos hs0]
      have hr : sumsOk [] = true := by decide +kernel
      have hr2 := implSums_fx hE [] (by simp) (by simp)
      rw [hr] at hr2
      simp [hs0]
      refine vcall_go hr2 (by simp [ro]) (by simp) (by simp) (by simp) ?_
      simp
      refine vcall_go (implPutI_fx hE [] (by simp) (by simp)) (by simp [ro]) (by simp) (by simp) (by simp) ?_
      rw [show pig [] = by8 "" from joinB_nil _]
      simp
      exact fin_row2 (by decide) rfl rfl (hyes [] hn)
    · have hpz := hz i _ (List.getElem?_eq_getElem hlt)
      have hrz := cutR_size w[i]
      simp [hs0]
      obtain ⟨d, hd⟩ := cutC_eq w[i]
      refine vcall_go (cutM_fx hE hM 45 w[i] (by omega)) (by rw [← by45']; rfl) (by simp) (by simp) (by simp) ?_
      rw [hd]
      simp
      obtain ⟨ok, hk⟩ := unRes_eq (cutR w[i])
      refine vcall_go (implGet64_fx hE (cutR w[i]) (by omega)) (by simp) (by simp) (by simp) (by simp) ?_
      rw [hk]
      simp [fill, upd, okC, frA, frA.frL, AS.dem, mapV, dem, dem.demL]
      have hav : (smI w[i]).av = [.lit (.string (cutL w[i])), .lit (.string ((unB (cutR w[i])).getD (by8 "")))] := rfl
      have htk : List.take (i + 1) (List.map ((fun x : Sm => AV.agg x.av) ∘ smI) w) = List.take i (List.map ((fun x : Sm => AV.agg x.av) ∘ smI) w) ++ [AV.agg (smI w[i]).av] := by
        rw [List.take_succ_eq_append_getElem (by simpa using hlt), List.getElem_map]; rfl
      rw [hav] at htk
      refine ⟨by omega, i + 1, ⟨by omega, .inr hs0⟩, by omega, Wk.both (by simp [wkL, wkV.same, htk]; rw [wrapN (by omega)]; exact wkV.same _) trivial⟩
  · obtain rfl : i = w.length := by omega
    have hs0 : ¬ s = by8 "" := by rcases hi0 with h | h; omega; exact h
    rw [if_neg hs0] at hg
    rw [show List.take w.length (List.map ((fun x : Sm => AV.agg x.av) ∘ smI) w) = (w.map smI).map (fun x => AV.agg x.av) by rw [List.take_of_length_le (by simp), List.map_map]]
    obtain ⟨out, ho⟩ : ∃ out, w.map smI = out := ⟨_, rfl⟩
    have hol : out.length = w.length := by rw [← ho, List.length_map]
    rw [ho] at hg hsm ⊢
    simp
    refine vcall_go (implSums_fx hE out (by omega) hsm) (by simp [ro]) (by simp) (by simp) (by simp) ?_
    simp
    cases c1 : sumsOk out
    · have hn : giI s = none := by rw [hg, c1]; simp
      simp
      exact fin_nil2 (by decide) rfl rfl (hno hn)
    simp
    refine vcall_go (implPutI_fx hE out (by omega) hsm) (by simp [ro]) (by simp) (by simp) (by simp) ?_
    by_cases c2 : pig out = s
    · have hn : giI s = some out := by rw [hg, c1, if_pos ⟨rfl, c2⟩]
      simp [c2]
      exact fin_row2 (by decide) rfl rfl (hyes out hn)
    · have hn : giI s = none := by rw [hg, if_neg fun h => c2 h.2]
      simp [c2]
      exact fin_nil2 (by decide) rfl rfl (hno hn)
end
end Go.Proofs.YticockdhfglolaaGreatDoor.Vm
namespace Go.Proofs.YticockdhfglolaaGreatDoor.Vm
open Go Go.RowKit
set_option linter.unusedVariables false
set_option linter.unusedSimpArgs false
theorem wrap_u8 {x : Int} (h0 : 0 ≤ x) (h1 : x < 256) : IntKind.u8.wrap x = x := by
  simp [IntKind.wrap, IntKind.bits, IntKind.signed]; omega
@[simp] theorem litL_strs (l : List ByteArray) : litL (l.map fun x => AV.lit (.string x)) = true := by simp [litL, AV.cells, isLit]
@[simp] theorem argOk_hs (sz : Nat) (xs : List AV) : argOk (.hs sz xs) = true := rfl
@[simp] theorem strip_hs (sz : Nat) (xs : List AV) : strip (.hs sz xs) = .hs sz xs := rfl
@[simp] theorem ptrs_hs (sz : Nat) (xs : List AV) : ptrs (.hs sz xs) = [] := rfl
@[simp] theorem noC_hs (d sz : Nat) (xs : List AV) : noC d (.hs sz xs) = true := rfl
@[simp] theorem noB_hs (d sz : Nat) (xs : List AV) : noB d (.hs sz xs) = true := rfl
@[simp] theorem noC_hp (d : Nat) (xs : List AV) : noC d (.hp xs) = true := rfl
@[simp] theorem noB_hp (d : Nat) (xs : List AV) : noB d (.hp xs) = true := rfl
theorem Pl.relab {a : AV} (h : Pl a) (t : Nat) : Vm.relab t false a = a := Pl.ind (p := fun a => Vm.relab t false a = a) rfl (fun _ => rfl) (fun _ _ => rfl) (fun l ih => by
  simp only [Vm.relab, AV.agg.injEq]
  induction l with
  | nil => rfl
  | cons c l il => simp only [relab.relabL, List.cons.injEq]; exact ⟨ih c List.mem_cons_self, il fun d hd => ih d (List.mem_cons_of_mem _ hd)⟩) a h
theorem PlL.relab {t : Nat} : ∀ {l : List AV}, PlL l → relab.relabL t false l = l
  | [], _ => rfl
  | c :: l, h => by
    obtain ⟨h1, h2⟩ := PlL_cons.1 h
    simp only [relab.relabL, h1.relab, PlL.relab h2]
theorem Pl.reC {a : AV} (h : Pl a) (ks : List Nat) : Vm.reC ks a = a := Pl.ind (p := fun a => Vm.reC ks a = a) rfl (fun _ => rfl) (fun _ _ => rfl) (fun l ih => by
  simp only [Vm.reC, AV.agg.injEq]
  induction l with
  | nil => rfl
  | cons c l il => simp only [reC.reL, List.cons.injEq]; exact ⟨ih c List.mem_cons_self, il fun d hd => ih d (List.mem_cons_of_mem _ hd)⟩) a h
theorem PlL.reC {ks : List Nat} : ∀ {l : List AV}, PlL l → reC.reL ks l = l
  | [], _ => rfl
  | c :: l, h => by
    obtain ⟨h1, h2⟩ := PlL_cons.1 h
    simp only [reC.reL, h1.reC, PlL.reC h2]
theorem PlL.noC {d : Nat} : ∀ {l : List AV}, PlL l → noC.noL d l = true
  | [], _ => rfl
  | c :: l, h => by
    obtain ⟨h1, h2⟩ := PlL_cons.1 h
    simp only [noC.noL, h1.noC, PlL.noC h2, Bool.and_self]
theorem PlL.noB {d : Nat} : ∀ {l : List AV}, PlL l → noB.noL d l = true
  | [], _ => rfl
  | c :: l, h => by
    obtain ⟨h1, h2⟩ := PlL_cons.1 h
    simp only [noB.noL, h1.noB, PlL.noB h2, Bool.and_self]
theorem PlL.dat {l : List AV} (h : PlL l) : dat.datL l = true := datL_iff.2 fun a ha => (PlL_iff.1 h a ha).dat
@[simp] theorem noC_slow (d t : Nat) (fr : Bool) (sz : Nat) (xs : List AV) : noC d (.sl ⟨.ow t, fr⟩ sz xs) = true := rfl
section
variable {E : Env} (hE : E.P = Go.Proofs.Tryz.prog)
include hE
end
end Go.Proofs.YticockdhfglolaaGreatDoor.Vm
namespace Go.Proofs.YticockdhfglolaaGreatDoor.Vm
open Go Go.RowKit
set_option linter.unusedVariables false
set_option linter.unusedSimpArgs false
structure Nd where
  name : ByteArray
  range : ByteArray
  deriving DecidableEq
structure En where
  heads : List Nd
  version : ByteArray
  resolved : ByteArray
  integrity : ByteArray
  needs : List Nd
def Nd.av (x : Nd) : List AV := [.lit (.string x.name), .lit (.string x.range)]
def En.av (x : En) : List AV := [.sl ro 2 (x.heads.map fun x => .agg x.av), .lit (.string x.version), .lit (.string x.resolved), .lit (.string x.integrity), .sl ro 2 (x.needs.map fun x => .agg x.av)]
theorem Nd.pl (x : Nd) : PlL x.av := by simp [Nd.av]
theorem En.pl (x : En) : PlL x.av := by simp [En.av]
theorem Nd.len (x : Nd) : x.av.length = 2 := rfl
theorem En.len (x : En) : x.av.length = 5 := rfl
theorem Nd.ok (x : Nd) : x.av.all okC = true := rfl
theorem En.ok (x : En) : x.av.all okC = true := rfl
@[simp] theorem Nd.noB (d : Nat) (x : Nd) : noB.noL d x.av = true := rfl
@[simp] theorem En.noB (d : Nat) (x : En) : noB.noL d x.av = true := rfl
@[simp] theorem Nd.noC (d : Nat) (x : Nd) : noC.noL d x.av = true := rfl
@[simp] theorem En.noC (d : Nat) (x : En) : noC.noL d x.av = true := rfl
def v128 : VC := .seq (.reg false [⟨some 2, .box 2 (.t 0), none⟩, ⟨some 4, .as (.c (.lit (.int .i64 0))), none⟩] [4]) (.seq (.reg false [⟨some 5, .mv (.t 1), none⟩, ⟨some 6, .fa 0 (.t 2), none⟩, ⟨some 7, .ld false 1 (.t 6), none⟩, ⟨some 8, .len true (.t 7), none⟩, ⟨some 9, .bin .sub 0 (.t 5) (.t 8), none⟩, ⟨some 1, .as (.t 9), none⟩] [5, 6, 7, 8, 9]) (.seq (.seq (.reg false [⟨some 10, .mv (.t 1), none⟩, ⟨some 11, .bin .lss 0 (.t 10) (.c (.lit (.int .i64 0))), none⟩] [10]) (.cond (.t 11) (.seq (.reg false [⟨some 4, .as (.c (.lit (.int .i64 (-1)))), none⟩] []) (.ret)) (.skip))) (.seq (.reg false [⟨some 12, .mv (.t 1), none⟩, ⟨some 13, .fa 1 (.t 2), none⟩, ⟨some 14, .ld false 1 (.t 13), none⟩, ⟨some 15, .len true (.t 14), none⟩, ⟨some 16, .bin .sub 0 (.t 12) (.t 15), none⟩, ⟨some 1, .as (.t 16), none⟩] [12, 13, 14, 15, 16]) (.seq (.seq (.reg false [⟨some 17, .mv (.t 1), none⟩, ⟨some 18, .bin .lss 0 (.t 17) (.c (.lit (.int .i64 0))), none⟩] [17]) (.cond (.t 18) (.seq (.reg false [⟨some 4, .as (.c (.lit (.int .i64 (-1)))), none⟩] []) (.ret)) (.skip))) (.seq (.reg false [⟨some 19, .mv (.t 1), none⟩, ⟨some 4, .as (.t 19), none⟩] [19]) (.ret))))))
theorem is128 : Is Go.Proofs.Tryz.prog 128 20 v128 [.t 4] := ⟨Go.Proofs.Tryz.f128, dl [(0, [4]), (1, [5, 6, 7, 8, 9]), (2, [10]), (4, [12, 13, 14, 15, 16]), (5, [17]), (7, [19])], Go.Proofs.Tryz.func128, by kernel_rfl, by kernel_rfl, by kernel_rfl, by kernel_rfl⟩
def v43 : VC := .seq (.reg false [⟨some 2, .box 5 (.t 0), none⟩, ⟨some 4, .as (.c (.lit (.int .i64 0))), none⟩] [4]) (.seq (.reg false [⟨some 5, .fa 0 (.t 2), none⟩, ⟨some 6, .ld false 1 (.t 5), none⟩, ⟨some 7, .mv (.t 1), none⟩, ⟨some 8, .call false 77 [(.t 6), (.t 7)], none⟩, ⟨some 1, .as (.t 8), none⟩] [5, 6, 7, 8]) (.seq (.seq (.reg false [⟨some 9, .mv (.t 1), none⟩, ⟨some 10, .bin .lss 0 (.t 9) (.c (.lit (.int .i64 0))), none⟩] [9]) (.cond (.t 10) (.seq (.reg false [⟨some 4, .as (.c (.lit (.int .i64 (-1)))), none⟩] []) (.ret)) (.skip))) (.seq (.reg false [⟨some 11, .mv (.t 1), none⟩, ⟨some 12, .fa 1 (.t 2), none⟩, ⟨some 13, .ld false 1 (.t 12), none⟩, ⟨some 14, .len true (.t 13), none⟩, ⟨some 15, .bin .sub 0 (.t 11) (.t 14), none⟩, ⟨some 1, .as (.t 15), none⟩] [11, 12, 13, 14, 15]) (.seq (.seq (.reg false [⟨some 16, .mv (.t 1), none⟩, ⟨some 17, .bin .lss 0 (.t 16) (.c (.lit (.int .i64 0))), none⟩] [16]) (.cond (.t 17) (.seq (.reg false [⟨some 4, .as (.c (.lit (.int .i64 (-1)))), none⟩] []) (.ret)) (.skip))) (.seq (.reg false [⟨some 18, .mv (.t 1), none⟩, ⟨some 19, .fa 2 (.t 2), none⟩, ⟨some 20, .ld false 1 (.t 19), none⟩, ⟨some 21, .len true (.t 20), none⟩, ⟨some 22, .bin .sub 0 (.t 18) (.t 21), none⟩, ⟨some 1, .as (.t 22), none⟩] [18, 19, 20, 21, 22]) (.seq (.seq (.reg false [⟨some 23, .mv (.t 1), none⟩, ⟨some 24, .bin .lss 0 (.t 23) (.c (.lit (.int .i64 0))), none⟩] [23]) (.cond (.t 24) (.seq (.reg false [⟨some 4, .as (.c (.lit (.int .i64 (-1)))), none⟩] []) (.ret)) (.skip))) (.seq (.reg false [⟨some 25, .mv (.t 1), none⟩, ⟨some 26, .fa 3 (.t 2), none⟩, ⟨some 27, .ld false 1 (.t 26), none⟩, ⟨some 28, .len true (.t 27), none⟩, ⟨some 29, .bin .sub 0 (.t 25) (.t 28), none⟩, ⟨some 1, .as (.t 29), none⟩] [25, 26, 27, 28, 29]) (.seq (.seq (.reg false [⟨some 30, .mv (.t 1), none⟩, ⟨some 31, .bin .lss 0 (.t 30) (.c (.lit (.int .i64 0))), none⟩] [30]) (.cond (.t 31) (.seq (.reg false [⟨some 4, .as (.c (.lit (.int .i64 (-1)))), none⟩] []) (.ret)) (.skip))) (.seq (.reg false [⟨some 32, .fa 4 (.t 2), none⟩, ⟨some 33, .ld false 1 (.t 32), none⟩, ⟨some 34, .mv (.t 1), none⟩, ⟨some 35, .call false 77 [(.t 33), (.t 34)], none⟩, ⟨some 1, .as (.t 35), none⟩] [32, 33, 34, 35]) (.seq (.seq (.reg false [⟨some 36, .mv (.t 1), none⟩, ⟨some 37, .bin .lss 0 (.t 36) (.c (.lit (.int .i64 0))), none⟩] [36]) (.cond (.t 37) (.seq (.reg false [⟨some 4, .as (.c (.lit (.int .i64 (-1)))), none⟩] []) (.ret)) (.skip))) (.seq (.reg false [⟨some 38, .mv (.t 1), none⟩, ⟨some 4, .as (.t 38), none⟩] [38]) (.ret))))))))))))
theorem is43 : Is Go.Proofs.Tryz.prog 43 39 v43 [.t 4] := ⟨Go.Proofs.Tryz.f43, dl [(0, [4]), (1, [5, 6, 7, 8]), (2, [9]), (4, [11, 12, 13, 14, 15]), (5, [16]), (7, [18, 19, 20, 21, 22]), (8, [23]), (10, [25, 26, 27, 28, 29]), (11, [30]), (13, [32, 33, 34, 35]), (14, [36]), (16, [38])], Go.Proofs.Tryz.func43, by kernel_rfl, by kernel_rfl, by kernel_rfl, by kernel_rfl⟩
def v137 : VC := .seq (.reg false [⟨some 1, .box 2 (.t 0), none⟩, ⟨some 2, .alloc (.agg [(.lit (.string (by8 ""))), (.lit (.string (by8 "")))]), none⟩] []) (.seq (.reg false [⟨some 3, .alloc (.agg [(.lit (.string (by8 ""))), (.lit (.string (by8 "")))]), none⟩] []) (.seq (.reg false [⟨some 4, .fa 0 (.t 1), none⟩, ⟨some 5, .ld false 1 (.t 4), none⟩, ⟨some 6, .fa 0 (.t 3), none⟩, ⟨none, .st 1 (.t 6) (.t 5), none⟩] [4, 5, 6]) (.seq (.reg false [⟨some 7, .fa 1 (.t 1), none⟩, ⟨some 8, .ld false 1 (.t 7), none⟩, ⟨some 9, .fa 1 (.t 3), none⟩, ⟨none, .st 1 (.t 9) (.t 8), none⟩] [7, 8, 9]) (.seq (.reg false [⟨some 10, .ld true 2 (.t 3), none⟩, ⟨none, .st 2 (.t 2) (.t 10), none⟩] [10]) (.ret)))))
theorem is137 : Is Go.Proofs.Tryz.prog 137 11 v137 [.b 2 true 2] := ⟨Go.Proofs.Tryz.f137, dl [(2, [4, 5, 6]), (3, [7, 8, 9]), (4, [10])], Go.Proofs.Tryz.func137, by kernel_rfl, by kernel_rfl, by kernel_rfl, by kernel_rfl⟩
def v47 : VC := .seq (.reg false [⟨some 1, .box 5 (.t 0), none⟩, ⟨some 2, .alloc (.agg [(.sl ⟨.nl, true⟩ 1 []), (.lit (.string (by8 ""))), (.lit (.string (by8 ""))), (.lit (.string (by8 ""))), (.sl ⟨.nl, true⟩ 1 [])]), none⟩] []) (.seq (.reg false [⟨some 3, .alloc (.agg [(.sl ⟨.nl, true⟩ 1 []), (.lit (.string (by8 ""))), (.lit (.string (by8 ""))), (.lit (.string (by8 ""))), (.sl ⟨.nl, true⟩ 1 [])]), none⟩] []) (.seq (.reg false [⟨some 4, .fa 0 (.t 1), none⟩, ⟨some 5, .ld false 1 (.t 4), none⟩, ⟨some 6, .call false 84 [(.t 5)], none⟩, ⟨some 7, .fa 0 (.t 3), none⟩, ⟨none, .st 1 (.t 7) (.t 6), none⟩] [4, 5, 6, 7]) (.seq (.reg false [⟨some 8, .fa 1 (.t 1), none⟩, ⟨some 9, .ld false 1 (.t 8), none⟩, ⟨some 10, .fa 1 (.t 3), none⟩, ⟨none, .st 1 (.t 10) (.t 9), none⟩] [8, 9, 10]) (.seq (.reg false [⟨some 11, .fa 2 (.t 1), none⟩, ⟨some 12, .ld false 1 (.t 11), none⟩, ⟨some 13, .fa 2 (.t 3), none⟩, ⟨none, .st 1 (.t 13) (.t 12), none⟩] [11, 12, 13]) (.seq (.reg false [⟨some 14, .fa 3 (.t 1), none⟩, ⟨some 15, .ld false 1 (.t 14), none⟩, ⟨some 16, .fa 3 (.t 3), none⟩, ⟨none, .st 1 (.t 16) (.t 15), none⟩] [14, 15, 16]) (.seq (.reg false [⟨some 17, .fa 4 (.t 1), none⟩, ⟨some 18, .ld false 1 (.t 17), none⟩, ⟨some 19, .call false 84 [(.t 18)], none⟩, ⟨some 20, .fa 4 (.t 3), none⟩, ⟨none, .st 1 (.t 20) (.t 19), none⟩] [17, 18, 19, 20]) (.seq (.reg false [⟨some 21, .ld true 5 (.t 3), none⟩, ⟨none, .st 5 (.t 2) (.t 21), none⟩] [21]) (.ret))))))))
theorem is47 : Is Go.Proofs.Tryz.prog 47 22 v47 [.b 2 true 5] := ⟨Go.Proofs.Tryz.f47, dl [(2, [4, 5, 6, 7]), (3, [8, 9, 10]), (4, [11, 12, 13]), (5, [14, 15, 16]), (6, [17, 18, 19, 20]), (7, [21])], Go.Proofs.Tryz.func47, by kernel_rfl, by kernel_rfl, by kernel_rfl, by kernel_rfl⟩
def v148 : VC := .seq (.reg false [⟨some 2, .box 2 (.t 0), none⟩, ⟨some 3, .box 2 (.t 1), none⟩, ⟨some 4, .as (.c (.lit (.bool false))), none⟩] [4]) (.seq (.seq (.reg false [⟨some 5, .fa 0 (.t 2), none⟩, ⟨some 6, .ld false 1 (.t 5), none⟩, ⟨some 7, .fa 0 (.t 3), none⟩, ⟨some 8, .ld false 1 (.t 7), none⟩, ⟨some 9, .bin .neq 0 (.t 6) (.t 8), none⟩] [5, 6, 7, 8]) (.cond (.t 9) (.seq (.reg false [⟨some 4, .as (.c (.lit (.bool false))), none⟩] []) (.ret)) (.skip))) (.seq (.seq (.reg false [⟨some 10, .fa 1 (.t 2), none⟩, ⟨some 11, .ld false 1 (.t 10), none⟩, ⟨some 12, .fa 1 (.t 3), none⟩, ⟨some 13, .ld false 1 (.t 12), none⟩, ⟨some 14, .bin .neq 0 (.t 11) (.t 13), none⟩] [10, 11, 12, 13]) (.cond (.t 14) (.seq (.reg false [⟨some 4, .as (.c (.lit (.bool false))), none⟩] []) (.ret)) (.skip))) (.seq (.reg false [⟨some 4, .as (.c (.lit (.bool true))), none⟩] []) (.ret))))
theorem is148 : Is Go.Proofs.Tryz.prog 148 15 v148 [.t 4] := ⟨Go.Proofs.Tryz.f148, dl [(0, [4]), (1, [5, 6, 7, 8]), (3, [10, 11, 12, 13])], Go.Proofs.Tryz.func148, by kernel_rfl, by kernel_rfl, by kernel_rfl, by kernel_rfl⟩
def v51 : VC := .seq (.reg false [⟨some 2, .box 5 (.t 0), none⟩, ⟨some 3, .box 5 (.t 1), none⟩, ⟨some 4, .as (.c (.lit (.bool false))), none⟩] [4]) (.seq (.seq (.reg false [⟨some 5, .fa 0 (.t 2), none⟩, ⟨some 6, .ld false 1 (.t 5), none⟩, ⟨some 7, .fa 0 (.t 3), none⟩, ⟨some 8, .ld false 1 (.t 7), none⟩, ⟨some 9, .call false 92 [(.t 6), (.t 8)], none⟩, ⟨some 10, .un .not (.t 9), none⟩] [5, 6, 7, 8, 9]) (.cond (.t 10) (.seq (.reg false [⟨some 4, .as (.c (.lit (.bool false))), none⟩] []) (.ret)) (.skip))) (.seq (.seq (.reg false [⟨some 11, .fa 1 (.t 2), none⟩, ⟨some 12, .ld false 1 (.t 11), none⟩, ⟨some 13, .fa 1 (.t 3), none⟩, ⟨some 14, .ld false 1 (.t 13), none⟩, ⟨some 15, .bin .neq 0 (.t 12) (.t 14), none⟩] [11, 12, 13, 14]) (.cond (.t 15) (.seq (.reg false [⟨some 4, .as (.c (.lit (.bool false))), none⟩] []) (.ret)) (.skip))) (.seq (.seq (.reg false [⟨some 16, .fa 2 (.t 2), none⟩, ⟨some 17, .ld false 1 (.t 16), none⟩, ⟨some 18, .fa 2 (.t 3), none⟩, ⟨some 19, .ld false 1 (.t 18), none⟩, ⟨some 20, .bin .neq 0 (.t 17) (.t 19), none⟩] [16, 17, 18, 19]) (.cond (.t 20) (.seq (.reg false [⟨some 4, .as (.c (.lit (.bool false))), none⟩] []) (.ret)) (.skip))) (.seq (.seq (.reg false [⟨some 21, .fa 3 (.t 2), none⟩, ⟨some 22, .ld false 1 (.t 21), none⟩, ⟨some 23, .fa 3 (.t 3), none⟩, ⟨some 24, .ld false 1 (.t 23), none⟩, ⟨some 25, .bin .neq 0 (.t 22) (.t 24), none⟩] [21, 22, 23, 24]) (.cond (.t 25) (.seq (.reg false [⟨some 4, .as (.c (.lit (.bool false))), none⟩] []) (.ret)) (.skip))) (.seq (.seq (.reg false [⟨some 26, .fa 4 (.t 2), none⟩, ⟨some 27, .ld false 1 (.t 26), none⟩, ⟨some 28, .fa 4 (.t 3), none⟩, ⟨some 29, .ld false 1 (.t 28), none⟩, ⟨some 30, .call false 92 [(.t 27), (.t 29)], none⟩, ⟨some 31, .un .not (.t 30), none⟩] [26, 27, 28, 29, 30]) (.cond (.t 31) (.seq (.reg false [⟨some 4, .as (.c (.lit (.bool false))), none⟩] []) (.ret)) (.skip))) (.seq (.reg false [⟨some 4, .as (.c (.lit (.bool true))), none⟩] []) (.ret)))))))
theorem is51 : Is Go.Proofs.Tryz.prog 51 32 v51 [.t 4] := ⟨Go.Proofs.Tryz.f51, dl [(0, [4]), (1, [5, 6, 7, 8, 9]), (3, [11, 12, 13, 14]), (5, [16, 17, 18, 19]), (7, [21, 22, 23, 24]), (9, [26, 27, 28, 29, 30])], Go.Proofs.Tryz.func51, by kernel_rfl, by kernel_rfl, by kernel_rfl, by kernel_rfl⟩
theorem is77 : Is Go.Proofs.Tryz.prog 77 27 (szS 2 128) [.t 4] := ⟨Go.Proofs.Tryz.f77, dl [(0, [4]), (1, [6, 7, 8, 9]), (2, [10]), (5, [12, 13, 14]), (7, [18, 19, 20, 21, 22, 23]), (8, [24]), (6, [16, 17]), (10, [26])], Go.Proofs.Tryz.func77, by kernel_rfl, by kernel_rfl, by kernel_rfl, by kernel_rfl⟩
theorem is20 : Is Go.Proofs.Tryz.prog 20 27 (szS 5 43) [.t 4] := ⟨Go.Proofs.Tryz.f20, dl [(0, [4]), (1, [6, 7, 8, 9]), (2, [10]), (5, [12, 13, 14]), (7, [18, 19, 20, 21, 22, 23]), (8, [24]), (6, [16, 17]), (10, [26])], Go.Proofs.Tryz.func20, by kernel_rfl, by kernel_rfl, by kernel_rfl, by kernel_rfl⟩
theorem is84 : Is Go.Proofs.Tryz.prog 84 23 (toS 2 32 (.agg [.lit (.string (by8 "")), .lit (.string (by8 ""))]) 137) [.t 2] := ⟨Go.Proofs.Tryz.f84, dl [(0, [2]), (1, [5, 6, 7]), (3, [8, 9, 10]), (5, [14, 15, 16, 17, 18, 19, 20, 21]), (4, [12, 13]), (6, [22])], Go.Proofs.Tryz.func84, by kernel_rfl, by kernel_rfl, by kernel_rfl, by kernel_rfl⟩
theorem is22 : Is Go.Proofs.Tryz.prog 22 23 (toS 5 96 (.agg [.sl ⟨.nl, true⟩ 1 [], .lit (.string (by8 "")), .lit (.string (by8 "")), .lit (.string (by8 "")), .sl ⟨.nl, true⟩ 1 []]) 47) [.t 2] := ⟨Go.Proofs.Tryz.f22, dl [(0, [2]), (1, [5, 6, 7]), (3, [8, 9, 10]), (5, [14, 15, 16, 17, 18, 19, 20, 21]), (4, [12, 13]), (6, [22])], Go.Proofs.Tryz.func22, by kernel_rfl, by kernel_rfl, by kernel_rfl, by kernel_rfl⟩
theorem is92 : Is Go.Proofs.Tryz.prog 92 27 (eqS 2 148) [.t 4] := ⟨Go.Proofs.Tryz.f92, dl [(0, [4]), (1, [6, 7, 8, 9]), (4, [11, 12, 13]), (6, [17, 18, 19, 20, 21, 22, 23, 24, 25]), (5, [15, 16])], Go.Proofs.Tryz.func92, by kernel_rfl, by kernel_rfl, by kernel_rfl, by kernel_rfl⟩
theorem is24 : Is Go.Proofs.Tryz.prog 24 27 (eqS 5 51) [.t 4] := ⟨Go.Proofs.Tryz.f24, dl [(0, [4]), (1, [6, 7, 8, 9]), (4, [11, 12, 13]), (6, [17, 18, 19, 20, 21, 22, 23, 24, 25]), (5, [15, 16])], Go.Proofs.Tryz.func24, by kernel_rfl, by kernel_rfl, by kernel_rfl, by kernel_rfl⟩
def Nd.good (x : Nd) : Prop := x.name.size ≤ 9223372036854775807 ∧ x.range.size ≤ 9223372036854775807
def En.good (x : En) : Prop := (x.heads.length ≤ 9223372036854775807 ∧ ∀ y ∈ x.heads, y.good) ∧ x.version.size ≤ 9223372036854775807 ∧ x.resolved.size ≤ 9223372036854775807 ∧ x.integrity.size ≤ 9223372036854775807 ∧ x.needs.length ≤ 9223372036854775807 ∧ ∀ y ∈ x.needs, y.good
def Nd.sz (x : Nd) (l : Int) : Int := szIf (l - x.name.size) fun l => szIf (l - x.range.size) fun l => l
def En.sz (x : En) (l : Int) : Int := szIf (szL Nd.sz x.heads l) fun l => szIf (l - x.version.size) fun l => szIf (l - x.resolved.size) fun l => szIf (l - x.integrity.size) fun l => szIf (szL Nd.sz x.needs l) fun l => l
theorem Nd.sz_le (x : Nd) (l : Int) (h : 0 ≤ l) : x.sz l ≤ l := szIf_le (by omega) h fun h1 => szIf_le (by omega) h fun h2 => by omega
theorem En.sz_le (x : En) (l : Int) (h : 0 ≤ l) : x.sz l ≤ l := by
  have k1 := szL_le (f := Nd.sz) (xs := x.heads) (l := l) (fun x _ l h => x.sz_le l h) h
  refine szIf_le k1 h fun h1 => szIf_le (by omega) h fun h2 => szIf_le (by omega) h fun h3 => szIf_le (by omega) h fun h4 => ?_
  have k2 := szL_le (f := Nd.sz) (xs := x.needs) (l := szL Nd.sz x.heads l - x.version.size - x.resolved.size - x.integrity.size) (fun x _ l h => x.sz_le l h) h4
  exact szIf_le (by omega) h fun h5 => by omega
section
variable {E : Env} (hE : E.P = Go.Proofs.Tryz.prog)
include hE
theorem szNeed_fx (x : Nd) (l : Int) (hg : x.good) (h0 : 0 ≤ l) (h1 : l ≤ 1048576) : Fx E 128 [] [.agg x.av, .lit (.int .i64 l)] [] (.lit (.int .i64 (x.sz l))) := by
  obtain ⟨g1, g2⟩ := hg
  refine (is128.to hE).fx [] (by simp) rfl rfl ?_
  simp [v128, Nd.av, okC, mkF]
  rw [wrap_i64 (by omega) (by omega)]
  by_cases c1 : l - x.name.size < 0
  · simp [c1]
    exact Fin_ret rfl (by simp [Nd.sz, szIf_neg c1, reC])
  · simp [c1]
    rw [wrap_i64 (by omega) (by omega)]
    by_cases c2 : l - x.name.size - x.range.size < 0
    · simp [c2]
      exact Fin_ret rfl (by simp [Nd.sz, szIf_pos c1, szIf_neg c2, reC])
    · simp [c2]
      exact Fin_ret rfl (by simp [Nd.sz, szIf_pos c1, szIf_pos c2, reC])
theorem szNeedS_fx (xs : List Nd) (l : Int) (hg : ∀ x ∈ xs, x.good) (h0 : 0 ≤ l) (h1 : l ≤ 1048576) (hl : xs.length ≤ 9223372036854775807) : Fx E 77 [] [.sl ro 2 (xs.map fun x => .agg x.av), .lit (.int .i64 l)] [] (.lit (.int .i64 (szL Nd.sz xs l))) :=
  szS_fx (is77.to hE) (by decide) (a := Nd.av) (g := Nd.sz) Nd.pl Nd.len (fun x l hx a b => szNeed_fx hE x l hx a b) (fun x l h => Nd.sz_le x l h) xs hg l h0 h1 hl
theorem szEntry_fx (x : En) (l : Int) (hg : x.good) (h0 : 0 ≤ l) (h1 : l ≤ 1048576) : Fx E 43 [] [.agg x.av, .lit (.int .i64 l)] [] (.lit (.int .i64 (x.sz l))) := by
  obtain ⟨⟨g1, g2⟩, g3, g4, g5, g6, g7⟩ := hg
  have k1 := szL_le (f := Nd.sz) (xs := x.heads) (l := l) (fun x _ l h => x.sz_le l h) h0
  refine (is43.to hE).fx [] (by simp) rfl rfl ?_
  simp [v43, En.av, okC, mkF]
  refine vcall_go (szNeedS_fx hE x.heads l g2 h0 h1 g1) (by simp) (by simp) (by simp) (by simp) ?_
  simp
  generalize hq : szL Nd.sz x.heads l = q at k1
  by_cases c1 : q < 0
  · simp [c1]
    exact Fin_ret rfl (by simp [En.sz, hq, szIf_neg c1, reC])
  · simp [c1]
    rw [wrap_i64 (by omega) (by omega)]
    by_cases c2 : q - x.version.size < 0
    · simp [c2]
      exact Fin_ret rfl (by simp [En.sz, hq, szIf_pos c1, szIf_neg c2, reC])
    · simp [c2]
      rw [wrap_i64 (by omega) (by omega)]
      by_cases c3 : q - x.version.size - x.resolved.size < 0
      · simp [c3]
        exact Fin_ret rfl (by simp [En.sz, hq, szIf_pos c1, szIf_pos c2, szIf_neg c3, reC])
      · simp [c3]
        rw [wrap_i64 (by omega) (by omega)]
        by_cases c4 : q - x.version.size - x.resolved.size - x.integrity.size < 0
        · simp [c4]
          exact Fin_ret rfl (by simp [En.sz, hq, szIf_pos c1, szIf_pos c2, szIf_pos c3, szIf_neg c4, reC])
        · simp [c4]
          refine vcall_go (szNeedS_fx hE x.needs (q - x.version.size - x.resolved.size - x.integrity.size) g7 (by omega) (by omega) g6) (by simp) (by simp) (by simp) (by simp) ?_
          simp
          by_cases c5 : szL Nd.sz x.needs (q - x.version.size - x.resolved.size - x.integrity.size) < 0
          · simp [c5]
            exact Fin_ret rfl (by simp [En.sz, hq, szIf_pos c1, szIf_pos c2, szIf_pos c3, szIf_pos c4, szIf_neg c5, reC])
          · simp [c5]
            exact Fin_ret rfl (by simp [En.sz, hq, szIf_pos c1, szIf_pos c2, szIf_pos c3, szIf_pos c4, szIf_pos c5, reC])
theorem szEntryS_fx (xs : List En) (l : Int) (hg : ∀ x ∈ xs, x.good) (h0 : 0 ≤ l) (h1 : l ≤ 1048576) (hl : xs.length ≤ 9223372036854775807) : Fx E 20 [] [.sl ro 5 (xs.map fun x => .agg x.av), .lit (.int .i64 l)] [] (.lit (.int .i64 (szL En.sz xs l))) :=
  szS_fx (is20.to hE) (by decide) (a := En.av) (g := En.sz) En.pl En.len (fun x l hx a b => szEntry_fx hE x l hx a b) (fun x l h => En.sz_le x l h) xs hg l h0 h1 hl
theorem toNeed_fx (x : Nd) : Fx E 137 [] [.agg x.av] [] (.agg (mkF.mkL true x.av)) := by
  refine (is137.to hE).fx [] (by simp) rfl rfl ?_
  simp [v137, Nd.av, okC, mkF, putElem, upd]
  exact Fin_ret rfl rfl
theorem toNeedS_fx (xs : List Nd) (h : xs.length ≤ 1048576) : Fx E 84 [] [.sl ro 2 (xs.map fun x => .agg x.av)] [] (.sl ⟨.no, true⟩ 2 (xs.map fun x => .agg x.av)) :=
  toS_fx (is84.to hE) (by decide) rfl rfl rfl rfl Nd.pl Nd.ok Nd.len (by decide) xs (fun x hm => toNeed_fx hE x) (by omega) h
theorem toEntry_fx (x : En) (h : x.heads.length ≤ 1048576) (h2 : x.needs.length ≤ 1048576) : Fx E 47 [] [.agg x.av] [] (.agg (mkF.mkL true x.av)) := by
  refine (is47.to hE).fx [] (by simp) rfl rfl ?_
  simp [v47, En.av, okC, mkF, putElem, upd]
  refine vcall_go (toNeedS_fx hE x.heads h) (by simp) (by simp) (by simp) (by simp) ?_
  simp [okC, putElem, upd]
  refine vcall_go (toNeedS_fx hE x.needs h2) (by simp) (by simp) (by simp) (by simp) ?_
  simp [okC, putElem, upd]
  exact Fin_ret rfl rfl
theorem toEntryS_fx (xs : List En) (h : xs.length ≤ 1048576) (hx : ∀ x ∈ xs, x.heads.length ≤ 1048576 ∧ x.needs.length ≤ 1048576) : Fx E 22 [] [.sl ro 5 (xs.map fun x => .agg x.av)] [] (.sl ⟨.no, true⟩ 5 (xs.map fun x => .agg x.av)) :=
  toS_fx (is22.to hE) (by decide) rfl rfl rfl rfl En.pl En.ok En.len (by decide) xs (fun x hm => toEntry_fx hE x (hx x hm).1 (hx x hm).2) (by omega) h
end
def Nd.eq (x y : Nd) : Bool := decide (x.name = y.name) && decide (x.range = y.range)
def En.eq (x y : En) : Bool := all2 Nd.eq x.heads y.heads && decide (x.version = y.version) && decide (x.resolved = y.resolved) && decide (x.integrity = y.integrity) && all2 Nd.eq x.needs y.needs
section
variable {E : Env} (hE : E.P = Go.Proofs.Tryz.prog)
include hE
theorem eqNeed_fx (x y : Nd) : Fx E 148 [] [.agg x.av, .agg y.av] [] (.lit (.bool (x.eq y))) := by
  refine (is148.to hE).fx [] (by simp) rfl rfl ?_
  simp [v148, Nd.av, okC, mkF]
  by_cases c1 : x.name = y.name
  · simp [c1]
    by_cases c2 : x.range = y.range
    · simp [c2]
      exact Fin_ret rfl (by simp [Nd.eq, c1, c2, reC])
    · simp [c2]
      exact Fin_ret rfl (by simp [Nd.eq, c2, reC])
  · simp [c1]
    exact Fin_ret rfl (by simp [Nd.eq, c1, reC])
theorem eqNeedS_fx (xs ys : List Nd) (h : xs.length ≤ 1099511627776) : Fx E 92 [] [.sl ro 2 (xs.map fun x => .agg x.av), .sl ro 2 (ys.map fun x => .agg x.av)] [] (.lit (.bool (all2 Nd.eq xs ys))) :=
  eqS_fx (is92.to hE) (by decide) Nd.pl Nd.pl Nd.len Nd.len xs (fun x y hm => eqNeed_fx hE x y) ys (by omega)
theorem eqEntry_fx (x y : En) (h : x.heads.length ≤ 1048576) (h2 : x.needs.length ≤ 1048576) : Fx E 51 [] [.agg x.av, .agg y.av] [] (.lit (.bool (x.eq y))) := by
  refine (is51.to hE).fx [] (by simp) rfl rfl ?_
  simp [v51, En.av, okC, mkF]
  refine vcall_go (eqNeedS_fx hE x.heads y.heads (by omega)) (by simp) (by simp) (by simp) (by simp) ?_
  simp
  cases c1 : all2 Nd.eq x.heads y.heads
  · simp
    exact Fin_ret rfl (by simp [En.eq, c1, reC])
  · simp
    by_cases c2 : x.version = y.version
    · simp [c2]
      by_cases c3 : x.resolved = y.resolved
      · simp [c3]
        by_cases c4 : x.integrity = y.integrity
        · simp [c4]
          refine vcall_go (eqNeedS_fx hE x.needs y.needs (by omega)) (by simp) (by simp) (by simp) (by simp) ?_
          simp
          cases c5 : all2 Nd.eq x.needs y.needs
          · simp
            exact Fin_ret rfl (by simp [En.eq, c5, reC])
          · simp
            exact Fin_ret rfl (by simp [En.eq, c1, c2, c3, c4, c5, reC])
        · simp [c4]
          exact Fin_ret rfl (by simp [En.eq, c4, reC])
      · simp [c3]
        exact Fin_ret rfl (by simp [En.eq, c3, reC])
    · simp [c2]
      exact Fin_ret rfl (by simp [En.eq, c2, reC])
theorem eqEntryS_fx (xs ys : List En) (h : xs.length ≤ 1048576) (hx : ∀ x ∈ xs, x.heads.length ≤ 1048576 ∧ x.needs.length ≤ 1048576) : Fx E 24 [] [.sl ro 5 (xs.map fun x => .agg x.av), .sl ro 5 (ys.map fun x => .agg x.av)] [] (.lit (.bool (all2 En.eq xs ys))) :=
  eqS_fx (is24.to hE) (by decide) En.pl En.pl En.len En.len xs (fun x y hm => eqEntry_fx hE x y (hx x hm).1 (hx x hm).2) ys (by omega)
end
end Go.Proofs.YticockdhfglolaaGreatDoor.Vm
namespace Go.Proofs.YticockdhfglolaaGreatDoor.Vm
open Go Go.RowKit
set_option linter.unusedVariables false
set_option linter.unusedSimpArgs false
def v46 : VC := .seq (.reg false [⟨some 3, .box 2 (.t 1), none⟩, ⟨some 4, .as (.c (.lit (.int .i64 0))), none⟩] [4]) (.seq (.seq (.reg false [⟨some 5, .as (.c (.lit (.int .i64 0))), none⟩] []) (.block 0 (.loop (.seq (.seq (.reg false [⟨some 7, .mv (.t 5), none⟩, ⟨some 8, .mv (.t 0), none⟩, ⟨some 9, .len false (.t 8), none⟩, ⟨some 10, .bin .lss 0 (.t 7) (.t 9), none⟩] [7, 8, 9]) (.cond (.t 10) (.skip) (.exit 0))) (.seq (.block 1 (.seq (.reg false [⟨some 6, .as (.c (.lit (.int .i64 0))), none⟩] []) (.block 2 (.loop (.seq (.seq (.reg false [⟨some 13, .mv (.t 6), none⟩, ⟨some 14, .mv (.t 0), none⟩, ⟨some 15, .mv (.t 5), none⟩, ⟨some 16, .ia 5 (.t 14) (.t 15), none⟩, ⟨some 17, .fa 0 (.t 16), none⟩, ⟨some 18, .ld false 1 (.t 17), none⟩, ⟨some 19, .len false (.t 18), none⟩, ⟨some 20, .bin .lss 0 (.t 13) (.t 19), none⟩] [13, 14, 15, 16, 17, 18, 19]) (.cond (.t 20) (.skip) (.exit 2))) (.seq (.block 3 (.seq (.reg true [⟨some 23, .mv (.t 0), none⟩, ⟨some 24, .mv (.t 5), none⟩, ⟨some 25, .ia 5 (.t 23) (.t 24), none⟩, ⟨some 26, .fa 0 (.t 25), none⟩, ⟨some 27, .ld false 1 (.t 26), none⟩, ⟨some 28, .mv (.t 6), none⟩, ⟨some 29, .ia 2 (.t 27) (.t 28), none⟩, ⟨some 30, .ld true 2 (.t 29), none⟩, ⟨some 31, .ld true 2 (.t 3), none⟩, ⟨some 32, .bin .eql 1 (.t 30) (.t 31), none⟩] [23, 24, 25, 26, 27, 28, 29, 30, 31]) (.cond (.t 32) (.seq (.reg false [⟨some 33, .mv (.t 5), none⟩, ⟨some 4, .as (.t 33), none⟩] [33]) (.ret)) (.skip)))) (.reg false [⟨some 21, .mv (.t 6), none⟩, ⟨some 22, .bin .add 0 (.t 21) (.c (.lit (.int .i64 1))), none⟩, ⟨some 6, .as (.t 22), none⟩] [21, 22]))))))) (.reg false [⟨some 11, .mv (.t 5), none⟩, ⟨some 12, .bin .add 0 (.t 11) (.c (.lit (.int .i64 1))), none⟩, ⟨some 5, .as (.t 12), none⟩] [11, 12])))))) (.seq (.reg false [⟨some 4, .as (.c (.lit (.int .i64 (-1)))), none⟩] []) (.ret)))
theorem is46 : Is Go.Proofs.Tryz.prog 46 34 v46 [.t 4] := ⟨Go.Proofs.Tryz.f46, dl [(0, [4]), (2, [7, 8, 9]), (5, [13, 14, 15, 16, 17, 18, 19]), (7, [23, 24, 25, 26, 27, 28, 29, 30, 31]), (8, [33]), (6, [21, 22]), (3, [11, 12])], Go.Proofs.Tryz.func46, by kernel_rfl, by kernel_rfl, by kernel_rfl, by kernel_rfl⟩
def v91 : VC := .seq (.reg false [⟨some 3, .box 2 (.t 1), none⟩, ⟨some 4, .as (.c (.lit (.int .i64 0))), none⟩] [4]) (.seq (.seq (.reg false [⟨some 6, .mv (.t 0), none⟩, ⟨some 7, .len false (.t 6), none⟩, ⟨some 8, .mv (.c (.lit (.int .i64 0))), none⟩] [6]) (.block 0 (.loop (.seq (.reg false [⟨some 9, .bin .lss 0 (.t 8) (.t 7), none⟩] []) (.seq (.cond (.t 9) (.skip) (.exit 0)) (.seq (.block 1 (.seq (.reg false [⟨some 10, .mv (.t 8), none⟩, ⟨some 5, .as (.t 10), none⟩] [10]) (.seq (.reg true [⟨some 11, .ld true 2 (.t 3), none⟩, ⟨some 12, .mv (.t 0), none⟩, ⟨some 13, .mv (.t 5), none⟩, ⟨some 14, .ia 2 (.t 12) (.t 13), none⟩, ⟨some 15, .ld true 2 (.t 14), none⟩, ⟨some 16, .bin .eql 1 (.t 11) (.t 15), none⟩] [11, 12, 13, 14, 15]) (.cond (.t 16) (.seq (.reg false [⟨some 17, .mv (.t 5), none⟩, ⟨some 4, .as (.t 17), none⟩] [17]) (.ret)) (.skip))))) (.reg false [⟨some 18, .bin .add 0 (.t 8) (.c (.lit (.int .i64 1))), none⟩, ⟨some 8, .mv (.t 18), none⟩] [18]))))))) (.seq (.reg false [⟨some 4, .as (.c (.lit (.int .i64 (-1)))), none⟩] []) (.ret)))
theorem is91 : Is Go.Proofs.Tryz.prog 91 19 v91 [.t 4] := ⟨Go.Proofs.Tryz.f91, dl [(0, [4]), (1, [6]), (3, [10]), (4, [11, 12, 13, 14, 15]), (5, [17]), (6, [18])], Go.Proofs.Tryz.func91, by kernel_rfl, by kernel_rfl, by kernel_rfl, by kernel_rfl⟩
def v50 : VC := .seq (.reg false [⟨some 3, .box 2 (.t 1), none⟩, ⟨some 4, .as (.c (.lit (.bool false))), none⟩] [4]) (.seq (.reg false [⟨some 5, .mv (.t 0), none⟩, ⟨some 6, .ld true 2 (.t 3), none⟩, ⟨some 7, .call false 91 [(.t 5), (.t 6)], none⟩, ⟨some 8, .bin .geq 0 (.t 7) (.c (.lit (.int .i64 0))), none⟩, ⟨some 4, .as (.t 8), none⟩] [5, 6, 7, 8]) (.ret))
theorem is50 : Is Go.Proofs.Tryz.prog 50 9 v50 [.t 4] := ⟨Go.Proofs.Tryz.f50, dl [(0, [4]), (1, [5, 6, 7, 8])], Go.Proofs.Tryz.func50, by kernel_rfl, by kernel_rfl, by kernel_rfl, by kernel_rfl⟩
theorem Nd.ext' {a b : Nd} : a = b ↔ a.name = b.name ∧ a.range = b.range := by cases a; cases b; simp
def hasN (l : List Nd) (n : Nd) : Bool := l.any fun h => decide (h = n)
theorem hasN_true {l : List Nd} {n : Nd} {i : Nat} (h : i < l.length) (e : l[i] = n) : hasN l n = true := by
  unfold hasN; rw [List.any_eq_true]; exact ⟨l[i], List.getElem_mem h, by simp [e]⟩
theorem hasN_false {l : List Nd} {n : Nd} (h : ∀ (k : Nat) (x : Nd), l[k]? = some x → x ≠ n) : hasN l n = false := by
  unfold hasN; rw [List.any_eq_false]; intro x hx
  obtain ⟨k, hk, rfl⟩ := List.getElem_of_mem hx
  simpa using h k _ (List.getElem?_eq_getElem hk)
section
variable {E : Env} (hE : E.P = Go.Proofs.Tryz.prog)
include hE
theorem idxN_fx (l : List Nd) (n : Nd) (hl : l.length ≤ 1099511627776) : Fx E 91 [] [.sl ro 2 (l.map fun x => .agg x.av), .agg n.av] [] (.lit (.int .i64 (fidx (fun h => decide (h = n)) l))) := by
  refine (is91.to hE).fx [] (by simp) rfl rfl ?_
  have hnv : n.av = [.lit (.string n.name), .lit (.string n.range)] := rfl
  simp [v91, hnv, okC]
  refine X_loop (τ := Nat) (fun i => ⟨[(0, .sl ro 2 (l.map fun x => .agg x.av)), (3, .ptr 1000000000003 0 0), (7, .lit (.int .i64 l.length)), (8, .lit (.int .i64 i))], [(1000000000003, [.agg n.av])]⟩) (fun i => i ≤ l.length ∧ ∀ (m : Nat) (g : Nd), m < i → l[m]? = some g → decide (g = n) = false) (fun i => l.length - i) 0 (by simp) (Wk.both (by simp [wkL, wkV.same]) (by simp [wkB, hnv])) ?_
  rintro i ⟨hi, hall⟩
  simp [hnv]
  by_cases hlt : i < l.length
  · have hav : l[i].av = [.lit (.string l[i].name), .lit (.string l[i].range)] := rfl
    simp [hlt, ro, mkF, mkF.mkL, hav]
    by_cases c : l[i] = n
    · obtain ⟨c1, c2⟩ := Nd.ext'.1 c
      simp [c1, c2]
      exact Fin_ret rfl (by rw [fidx_found hlt (by simp [c]) hall]; rfl)
    · have hb : (decide (n.name = l[i].name) && decide (n.range = l[i].range)) = false := by
        cases h : (decide (n.name = l[i].name) && decide (n.range = l[i].range)) with
        | false => rfl
        | true => simp only [Bool.and_eq_true, decide_eq_true_eq] at h; exact absurd (Nd.ext'.2 ⟨h.1.symm, h.2.symm⟩) c
      have nxt : ∀ (m : Nat) (g : Nd), m < i + 1 → l[m]? = some g → decide (g = n) = false := fun m g hm hg => by
        rcases Nat.lt_succ_iff_lt_or_eq.1 hm with h | rfl
        · exact hall m g h hg
        · rw [List.getElem?_eq_getElem hlt] at hg; rw [← Option.some.inj hg]; simpa using c
      simp [hb]
      exact ⟨i + 1, ⟨by omega, fun m g hm hg => by simpa using nxt m g hm hg⟩, by omega, Wk.both (by simp [wkL, wkV.same, ro]; rw [wrapN (by omega)]; exact wkV.same _) (by simp [wkB, hnv])⟩
  · simp [hlt]
    exact Fin_ret rfl (by rw [fidx_none fun m g hg => hall m g (by have := (List.getElem?_eq_some_iff.1 hg).1; omega) hg]; rfl)
theorem contN_fx (l : List Nd) (n : Nd) (hl : l.length ≤ 1099511627776) : Fx E 50 [] [.sl ro 2 (l.map fun x => .agg x.av), .agg n.av] [] (.lit (.bool (hasN l n))) := by
  refine (is50.to hE).fx [] (by simp) rfl rfl ?_
  have hnv : n.av = [.lit (.string n.name), .lit (.string n.range)] := rfl
  simp [v50, hnv, okC, mkF]
  refine vcall_go (idxN_fx hE l n hl) (by simp [hnv, ro]) (by simp) (by simp) (by simp) ?_
  simp
  exact Fin_ret rfl (by rw [hasN, ← fidx_has]; rfl)
theorem specRes_fx (l : List En) (n : Nd) (hl : l.length ≤ 1048576) (hx : ∀ e ∈ l, e.heads.length ≤ 1048576) : Fx E 46 [] [.sl ro 5 (l.map fun x => .agg x.av), .agg n.av] [] (.lit (.int .i64 (fidx (fun e => hasN e.heads n) l))) := by
  refine (is46.to hE).fx [] (by simp) rfl rfl ?_
  have hnv : n.av = [.lit (.string n.name), .lit (.string n.range)] := rfl
  simp [v46, hnv, okC]
  refine X_loop (τ := Nat) (fun i => ⟨[(0, .sl ro 5 (l.map fun x => .agg x.av)), (3, .ptr 1000000000003 0 0), (5, .lit (.int .i64 i))], [(1000000000003, [.agg n.av])]⟩) (fun i => i ≤ l.length ∧ ∀ (m : Nat) (g : En), m < i → l[m]? = some g → hasN g.heads n = false) (fun i => l.length - i) 0 (by simp) (Wk.both (by simp [wkL, wkV.same]) (by simp [wkB, hnv])) ?_
  rintro i ⟨hi, hall⟩
  simp [hnv]
  by_cases hlt : i < l.length
  · simp [hlt]
    have hle := hx _ (List.getElem_mem hlt)
    have hev : l[i].av = [.sl ro 2 (l[i].heads.map fun x => .agg x.av), .lit (.string l[i].version), .lit (.string l[i].resolved), .lit (.string l[i].integrity), .sl ro 2 (l[i].needs.map fun x => .agg x.av)] := rfl
    refine X_loop (τ := Nat) (fun k => ⟨[(0, .sl ro 5 (l.map fun x => .agg x.av)), (3, .ptr 1000000000003 0 0), (5, .lit (.int .i64 i)), (6, .lit (.int .i64 k))], [(1000000000003, [.agg n.av])]⟩) (fun k => k ≤ l[i].heads.length ∧ ∀ (m : Nat) (g : Nd), m < k → l[i].heads[m]? = some g → g ≠ n) (fun k => l[i].heads.length - k) 0 (by simp) (Wk.both (by simp [wkL, wkV.same]) (by simp [wkB, hnv])) ?_
    rintro k ⟨hk, hall2⟩
    simp [hlt, hev, mkF, ro, hnv]
    by_cases hlt2 : k < l[i].heads.length
    · have hav : l[i].heads[k].av = [.lit (.string l[i].heads[k].name), .lit (.string l[i].heads[k].range)] := rfl
      simp [hlt, hlt2, ro, mkF, mkF.mkL, hev, hav, hnv]
      by_cases c : l[i].heads[k] = n
      · obtain ⟨c1, c2⟩ := Nd.ext'.1 c
        simp [c1, c2]
        exact Fin_ret rfl (by rw [fidx_found hlt (hasN_true hlt2 c) hall]; rfl)
      · have hb : (decide (l[i].heads[k].name = n.name) && decide (l[i].heads[k].range = n.range)) = false := by
          cases h : (decide (l[i].heads[k].name = n.name) && decide (l[i].heads[k].range = n.range)) with
          | false => rfl
          | true => simp only [Bool.and_eq_true, decide_eq_true_eq] at h; exact absurd (Nd.ext'.2 h) c
        simp [hb]
        refine ⟨k + 1, ⟨by omega, fun m g hm hg => ?_⟩, by omega, Wk.both (by simp [wkL, wkV.same, ro]; rw [wrapN (by omega)]; exact wkV.same _) (by simp [wkB, hnv])⟩
        rcases Nat.lt_succ_iff_lt_or_eq.1 hm with h | rfl
        · exact hall2 m g h hg
        · rw [List.getElem?_eq_getElem hlt2] at hg; rw [← Option.some.inj hg]; exact c
    · simp [hlt2]
      refine ⟨i + 1, ⟨by omega, fun m g hm hg => ?_⟩, by omega, Wk.both (by simp [wkL, wkV.same, ro]; rw [wrapN (by omega)]; exact wkV.same _) (by simp [wkB, hnv])⟩
      rcases Nat.lt_succ_iff_lt_or_eq.1 hm with h | rfl
      · exact hall m g h hg
      · rw [List.getElem?_eq_getElem hlt] at hg; rw [← Option.some.inj hg]
        exact hasN_false fun q x hq => hall2 q x (by have := (List.getElem?_eq_some_iff.1 hq).1; omega) hq
  · simp [hlt]
    exact Fin_ret rfl (by rw [fidx_none fun m g hg => hall m g (by have := (List.getElem?_eq_some_iff.1 hg).1; omega) hg]; rfl)
end
end Go.Proofs.YticockdhfglolaaGreatDoor.Vm
namespace Go.Proofs.YticockdhfglolaaGreatDoor.Vm
open Go Go.RowKit
set_option linter.unusedVariables false
set_option linter.unusedSimpArgs false
theorem dval_lo : ∀ (l : List UInt8) (a : Nat), a * 10 ^ l.length ≤ dval a l
  | [], a => by simp [dval]
  | b :: l, a => by
    have h := dval_lo l (10 * a + (b.toNat - 48))
    have h2 : a * 10 ^ (l.length + 1) ≤ (10 * a + (b.toNat - 48)) * 10 ^ l.length := by
      rw [Nat.pow_succ, ← Nat.mul_assoc, Nat.mul_right_comm]
      exact Nat.mul_le_mul_right _ (by omega)
    exact Nat.le_trans h2 h
theorem dval_hi : ∀ (l : List UInt8) (a : Nat), (∀ b ∈ l, isD b) → dval a l < (a + 1) * 10 ^ l.length
  | [], a, _ => by simp [dval]
  | b :: l, a, hd => by
    have hb := hd b List.mem_cons_self
    have h := dval_hi l (10 * a + (b.toNat - 48)) fun c hc => hd c (List.mem_cons_of_mem _ hc)
    have h2 : (10 * a + (b.toNat - 48) + 1) * 10 ^ l.length ≤ (a + 1) * 10 ^ (l.length + 1) := by
      rw [Nat.pow_succ, ← Nat.mul_assoc, Nat.mul_right_comm (a + 1)]
      exact Nat.mul_le_mul_right _ (by unfold isD at hb; omega)
    exact Nat.lt_of_lt_of_le h h2
theorem dval_lex : ∀ (l m : List UInt8) (a : Nat), l.length = m.length → (∀ b ∈ l, isD b) → (∀ b ∈ m, isD b) → (Op.bytesLess l m = true ↔ dval a l < dval a m)
  | [], [], a, _, _, _ => by simp [Op.bytesLess]
  | [], y :: m, a, h, _, _ => by simp at h
  | x :: l, [], a, h, _, _ => by simp at h
  | x :: l, y :: m, a, h, hl, hm => by
    have hx := hl x List.mem_cons_self
    have hy := hm y List.mem_cons_self
    have hl' : ∀ b ∈ l, isD b := fun c hc => hl c (List.mem_cons_of_mem _ hc)
    have hm' : ∀ b ∈ m, isD b := fun c hc => hm c (List.mem_cons_of_mem _ hc)
    have hle : l.length = m.length := by simpa using h
    unfold isD at hx hy
    show _ ↔ dval (10 * a + (x.toNat - 48)) l < dval (10 * a + (y.toNat - 48)) m
    rcases Nat.lt_trichotomy x.toNat y.toNat with c | c | c
    · have h1 : x < y := UInt8.lt_iff_toNat_lt.2 c
      have k1 := dval_hi l (10 * a + (x.toNat - 48)) hl'
      have k2 := dval_lo m (10 * a + (y.toNat - 48))
      have k3 : (10 * a + (x.toNat - 48) + 1) * 10 ^ l.length ≤ (10 * a + (y.toNat - 48)) * 10 ^ m.length := by
        rw [hle]; exact Nat.mul_le_mul_right _ (by omega)
      have : dval (10 * a + (x.toNat - 48)) l < dval (10 * a + (y.toNat - 48)) m := by omega
      simp [Op.bytesLess, h1, this]
    · obtain rfl := UInt8.toNat_inj.1 c
      have h2 : ¬ x < x := fun e => by have := UInt8.lt_iff_toNat_lt.1 e; omega
      have ih := dval_lex l m (10 * a + (x.toNat - 48)) hle hl' hm'
      simp [Op.bytesLess, h2, ih]
    · have h1 : ¬ x < y := fun e => by have := UInt8.lt_iff_toNat_lt.1 e; omega
      have h3 : x ≠ y := fun e => by rw [e] at c; omega
      have h4 : (x == y) = false := by simpa using h3
      have k1 := dval_hi m (10 * a + (y.toNat - 48)) hm'
      have k2 := dval_lo l (10 * a + (x.toNat - 48))
      have k3 : (10 * a + (y.toNat - 48) + 1) * 10 ^ m.length ≤ (10 * a + (x.toNat - 48)) * 10 ^ l.length := by
        rw [hle]; exact Nat.mul_le_mul_right _ (by omega)
      have : ¬ dval (10 * a + (x.toNat - 48)) l < dval (10 * a + (y.toNat - 48)) m := by omega
      simp [Op.bytesLess, h1, h4, this]
theorem dec_head (n : Nat) (h : 1 ≤ n) : ∃ b l, Lib.decDigits n = b :: l ∧ 49 ≤ b.toNat := by
  induction n using Nat.strongRecOn with
  | _ u ih =>
    rw [Lib.decDigits]
    split
    · rename_i h1
      exact ⟨_, [], rfl, by rw [dig_nat h1]; omega⟩
    · obtain ⟨b, l, h1, h2⟩ := ih (u / 10) (by omega) (by omega)
      exact ⟨b, _, by rw [h1]; rfl, h2⟩
theorem dec_lo (n : Nat) (h : 1 ≤ n) : 10 ^ ((Lib.decDigits n).length - 1) ≤ n := by
  obtain ⟨b, l, h1, h2⟩ := dec_head n h
  have h3 := dec_val n
  rw [h1] at h3 ⊢
  have h4 := dval_lo l (10 * 0 + (b.toNat - 48))
  have h5 : dval (10 * 0 + (b.toNat - 48)) l = n := h3
  have h6 : 1 * 10 ^ l.length ≤ (10 * 0 + (b.toNat - 48)) * 10 ^ l.length := Nat.mul_le_mul_right _ (by omega)
  simp only [List.length_cons, Nat.add_sub_cancel]
  omega
theorem dec_hi (n : Nat) : n < 10 ^ (Lib.decDigits n).length := by
  have h := dval_hi (Lib.decDigits n) 0 (dec_digits n)
  rw [dec_val] at h
  omega
theorem dec_short {n m : Nat} (hm : 1 ≤ m) (h : (Lib.decDigits n).length < (Lib.decDigits m).length) : n < m := by
  have h1 := dec_hi n
  have h2 := dec_lo m hm
  have h3 : 10 ^ (Lib.decDigits n).length ≤ 10 ^ ((Lib.decDigits m).length - 1) := Nat.pow_le_pow_right (by omega) (by omega)
  omega
theorem dec_lex {n m : Nat} (h : (Lib.decDigits n).length = (Lib.decDigits m).length) : Op.bytesLess (Lib.decDigits n) (Lib.decDigits m) = true ↔ n < m := by
  have := dval_lex _ _ 0 h (dec_digits n) (dec_digits m)
  rwa [dec_val, dec_val] at this
/-- without its first zeros -/
def trim0 (s : ByteArray) : ByteArray := ⟨(s.data.toList.dropWhile (· == 48)).toArray⟩
theorem trim0_dec {n : Nat} (h : 1 ≤ n) : trim0 (decT n) = decT n := by
  obtain ⟨b, l, h1, h2⟩ := dec_head n h
  unfold trim0
  rw [decT_list, h1]
  have : (b == 48) = false := by
    have : b ≠ 48 := fun e => by rw [e] at h2; exact absurd h2 (by decide)
    simpa using this
  rw [List.dropWhile_cons_of_neg (by simp [this]), ← h1]; rfl
theorem trim0_zero : trim0 (decT 0) = by8 "" := by
  have : Lib.decDigits 0 = [48] := by rw [Lib.decDigits]; rfl
  unfold trim0
  rw [decT_list, this]
  decide +kernel
def cmpT (a b : ByteArray) : Int := if cmpI a.size b.size ≠ 0 then cmpI a.size b.size else cmpS a b
theorem decT_sz (n : Nat) : (decT n).size = (Lib.decDigits n).length := List.size_toArray
theorem decT_len0 (n : Nat) : 0 < (decT n).size := by rw [decT_sz]; exact List.length_pos_iff.2 (dec_ne n)
theorem cmpT_dec (n m : Nat) : cmpT (trim0 (decT n)) (trim0 (decT m)) = cmpI n m := by
  have e0 : (by8 "").size = 0 := by decide +kernel
  rcases Nat.eq_zero_or_pos n with rfl | hn
  · rcases Nat.eq_zero_or_pos m with rfl | hm
    · rw [trim0_zero]; decide +kernel
    · rw [trim0_zero, trim0_dec hm]
      have := decT_len0 m
      have h1 : cmpI (by8 "").size (decT m).size = -1 := by unfold cmpI; rw [if_pos (by omega)]
      have h2 : cmpI (0 : Nat) m = -1 := by unfold cmpI; rw [if_pos (by omega)]
      rw [cmpT, h1, h2]; rfl
  · rw [trim0_dec hn]
    rcases Nat.eq_zero_or_pos m with rfl | hm
    · rw [trim0_zero]
      have := decT_len0 n
      have h1 : cmpI (decT n).size (by8 "").size = 1 := by unfold cmpI; rw [if_neg (by omega), if_pos (by omega)]
      have h2 : cmpI n (0 : Nat) = 1 := by unfold cmpI; rw [if_neg (by omega), if_pos (by omega)]
      rw [cmpT, h1, h2]; rfl
    · rw [trim0_dec hm]
      rcases Nat.lt_trichotomy (Lib.decDigits n).length (Lib.decDigits m).length with c | c | c
      · have hlt := dec_short hm c
        have h1 : cmpI (decT n).size (decT m).size = -1 := by unfold cmpI; rw [decT_sz, decT_sz, if_pos (by omega)]
        have h2 : cmpI n m = -1 := by unfold cmpI; rw [if_pos (by omega)]
        rw [cmpT, h1, h2]; rfl
      · have h1 : cmpI (decT n).size (decT m).size = 0 := by unfold cmpI; rw [decT_sz, decT_sz, if_neg (by omega), if_neg (by omega)]
        have h2 := dec_lex c
        have h3 : slt (decT n) (decT m) = Op.bytesLess (Lib.decDigits n) (Lib.decDigits m) := by unfold slt; rw [Lib.toList_data, Lib.toList_data]; rfl
        rw [cmpT, h1, cmpS, h3]
        simp only [ne_eq, not_true_eq_false, if_false]
        by_cases c1 : n < m
        · rw [if_pos (h2.2 c1)]; unfold cmpI; rw [if_pos (by omega)]
        · rw [if_neg (fun e => c1 (h2.1 e))]
          have e : cmpI n m = if n = m then 0 else 1 := by
            unfold cmpI
            rw [if_neg (by omega)]
            by_cases c2 : n = m
            · rw [if_neg (by omega), if_pos c2]
            · rw [if_pos (by omega), if_neg c2]
          rw [e]
          by_cases c2 : n = m
          · subst c2; rw [if_pos rfl, if_pos rfl]
          · rw [if_neg (fun e => c2 (decT_inj e)), if_neg c2]
      · have hlt := dec_short hn c
        have h1 : cmpI (decT n).size (decT m).size = 1 := by unfold cmpI; rw [decT_sz, decT_sz, if_neg (by omega), if_pos (by omega)]
        have h2 : cmpI n m = 1 := by unfold cmpI; rw [if_neg (by omega), if_pos (by omega)]
        rw [cmpT, h1, h2]; rfl
/-- parts, as the program compares them -/
def cmpQ (a b : ByteArray) : Int := if numB a = true then (if numB b = true then cmpT (trim0 a) (trim0 b) else -1) else if numB b = true then 1 else cmpS a b
theorem numB_dec (n : Nat) : numB (decT n) = true := by
  have h0 := decT_len0 n
  have h1 : decT n ≠ by8 "" := fun e => by
    have : (by8 "").size = 0 := by decide +kernel
    rw [e] at h0; omega
  rw [numB, Bool.and_eq_true]
  exact ⟨by simpa using h1, allB_true fun i hi => dec_bt hi⟩
theorem cmpQ_eq {a b : ByteArray} (ha : preOk a = true) (hb : preOk b = true) : cmpQ a b = cmpP a b := by
  have key : ∀ p, preOk p = true → (numB p = true ∧ ∃ n : Nat, p = decT n ∧ readDec p = n) ∨ (numB p = false ∧ ¬ 0 ≤ readDec p) := by
    intro p hp
    rw [preOk, Bool.and_eq_true, Bool.or_eq_true] at hp
    rcases readDec_cases p with h | ⟨n, h1, h2, h3⟩
    · refine .inr ⟨?_, by omega⟩
      rcases hp.2 with h4 | h4
      · simpa using h4
      · rw [decide_eq_true_eq] at h4; omega
    · exact .inl ⟨by rw [← h2]; exact numB_dec n, n, h2.symm, h3⟩
  unfold cmpQ cmpP
  rcases key a ha with ⟨h1, n, h2, h3⟩ | ⟨h1, h2⟩ <;> rcases key b hb with ⟨k1, m, k2, k3⟩ | ⟨k1, k2⟩
  · rw [if_pos h1, if_pos k1, if_pos (by omega), if_pos (by omega), h3, k3, h2, k2]
    exact cmpT_dec n m
  · rw [if_pos h1, if_neg (by simp [k1]), if_pos (by omega), if_neg k2]
  · rw [if_neg (by simp [h1]), if_pos k1, if_neg h2, if_pos (by omega)]
  · rw [if_neg (by simp [h1]), if_neg (by simp [k1]), if_neg h2, if_neg k2]
end Go.Proofs.YticockdhfglolaaGreatDoor.Vm
