/- Ranges: the program; needs: both sides. -/
import Derived.Test.YtgegcfhifojjiaaGreatDoorRj
import Derived.Test.YtgegcfhifojjiaaGreatDoorGp
namespace Go.Proofs.YtgegcfhifojjiaaGreatDoor.Vm
open Go Go.RowKit
set_option linter.unusedVariables false
set_option linter.unusedSimpArgs false
def v124 : VC := .seq (.reg false [⟨some 2, .as (.c (.sl ⟨.nl, true⟩ 1 [])), none⟩, ⟨some 3, .as (.c (.lit (.bool false))), none⟩] [2, 3]) (.seq (.seq (.reg false [⟨some 10, .mv (.t 0), none⟩, ⟨some 11, .len true (.t 10), none⟩, ⟨some 12, .bin .gtr 0 (.t 11) (.c (.lit (.int .i64 200))), none⟩] [10, 11]) (.cond (.t 12) (.seq (.reg false [⟨some 2, .as (.c (.sl ⟨.nl, true⟩ 1 [])), none⟩, ⟨some 3, .as (.c (.lit (.bool false))), none⟩] []) (.ret)) (.skip))) (.seq (.reg false [⟨some 13, .bsl 2 [], none⟩, ⟨some 4, .as (.t 13), none⟩] [13]) (.seq (.seq (.reg false [⟨some 14, .mv (.t 0), none⟩, ⟨some 15, .call false 47 [(.t 14), (.c (.lit (.string (by8 " || "))))], none⟩, ⟨some 16, .len false (.t 15), none⟩, ⟨some 17, .mv (.c (.lit (.int .i64 0))), none⟩] [14]) (.block 0 (.loop (.seq (.reg false [⟨some 18, .bin .lss 0 (.t 17) (.t 16), none⟩] []) (.seq (.cond (.t 18) (.skip) (.exit 0)) (.seq (.block 1 (.seq (.reg false [⟨some 19, .ia 1 (.t 15) (.t 17), none⟩, ⟨some 20, .ld false 1 (.t 19), none⟩, ⟨some 6, .as (.t 20), none⟩] [19, 20]) (.seq (.reg false [⟨some 22, .mv (.t 6), none⟩, ⟨some 23, .call false 171 [(.t 22)], none⟩, ⟨some 21, .mv (.t 23), none⟩, ⟨some 24, .ext (.t 21) 0, none⟩, ⟨some 25, .ext (.t 21) 1, none⟩, ⟨some 7, .alloc (.agg [(.lit (.string (by8 ""))), (.lit (.string (by8 "")))]), none⟩, ⟨none, .st 2 (.t 7) (.t 24), none⟩, ⟨some 8, .as (.t 25), none⟩] [22, 23, 21, 24, 25]) (.seq (.reg false [⟨some 26, .mv (.t 6), none⟩, ⟨some 27, .bin .eql 0 (.t 26) (.c (.lit (.string (by8 "*")))), none⟩, ⟨some 28, .mv (.t 27), none⟩, ⟨some 29, .mv (.t 6), (some (28, false))⟩, ⟨some 30, .call false 109 [(.t 29), (.c (.lit (.string (by8 "<"))))], (some (28, false))⟩, ⟨some 31, .pick (.t 28) (.c (.lit (.bool true))) (.t 30), none⟩, ⟨some 32, .mv (.t 31), none⟩, ⟨some 33, .mv (.t 6), (some (32, false))⟩, ⟨some 34, .call false 109 [(.t 33), (.c (.lit (.string (by8 ">="))))], (some (32, false))⟩, ⟨some 35, .pick (.t 32) (.c (.lit (.bool true))) (.t 34), none⟩, ⟨some 9, .as (.t 35), none⟩] [26, 27, 28, 29, 30, 31, 32, 33, 34, 35]) (.seq (.seq (.reg false [⟨some 36, .mv (.t 8), none⟩, ⟨some 37, .un .not (.t 36), none⟩, ⟨some 38, .mv (.t 37), none⟩, ⟨some 39, .mv (.t 9), (some (38, false))⟩, ⟨some 40, .un .not (.t 39), (some (38, false))⟩, ⟨some 41, .mv (.t 40), (some (38, false))⟩, ⟨some 42, .fa 0 (.t 7), (some (41, true))⟩, ⟨some 43, .ld false 1 (.t 42), (some (41, true))⟩, ⟨some 44, .bin .eql 0 (.t 43) (.c (.lit (.string (by8 "")))), (some (41, true))⟩, ⟨some 45, .mv (.t 44), (some (41, true))⟩, ⟨some 46, .fa 1 (.t 7), (some (45, false))⟩, ⟨some 47, .ld false 1 (.t 46), (some (45, false))⟩, ⟨some 48, .bin .eql 0 (.t 47) (.c (.lit (.string (by8 "")))), (some (45, false))⟩, ⟨some 49, .pick (.t 45) (.c (.lit (.bool true))) (.t 48), (some (41, true))⟩, ⟨some 50, .pick (.t 41) (.t 49) (.c (.lit (.bool false))), (some (38, false))⟩, ⟨some 51, .pick (.t 38) (.c (.lit (.bool true))) (.t 50), none⟩] [36, 37, 38, 39, 40, 41, 42, 43, 44, 45, 46, 47, 48, 49, 50]) (.cond (.t 51) (.seq (.reg false [⟨some 2, .as (.c (.sl ⟨.nl, true⟩ 1 [])), none⟩, ⟨some 3, .as (.c (.lit (.bool false))), none⟩] []) (.ret)) (.skip))) (.reg false [⟨some 52, .mv (.t 4), none⟩, ⟨some 53, .ld true 2 (.t 7), none⟩, ⟨some 54, .bsl 2 [(.t 53)], none⟩, ⟨some 55, .app 2 32 (.t 52) (.t 54), none⟩, ⟨some 4, .as (.t 55), none⟩] [52, 53, 54, 55])))))) (.reg false [⟨some 56, .bin .add 0 (.t 17) (.c (.lit (.int .i64 1))), none⟩, ⟨some 17, .mv (.t 56), none⟩] [56]))))))) (.seq (.seq (.reg false [⟨some 57, .mv (.t 4), none⟩, ⟨some 58, .call false 172 [(.t 57)], none⟩, ⟨some 59, .un .not (.t 58), none⟩] [57, 58]) (.cond (.t 59) (.seq (.reg false [⟨some 2, .as (.c (.sl ⟨.nl, true⟩ 1 [])), none⟩, ⟨some 3, .as (.c (.lit (.bool false))), none⟩] []) (.ret)) (.skip))) (.seq (.reg false [⟨some 60, .mv (.t 4), none⟩, ⟨some 2, .as (.t 60), none⟩, ⟨some 3, .as (.c (.lit (.bool true))), none⟩] [60]) (.ret))))))
theorem is124 : Is Go.Proofs.Tryz.prog 124 61 v124 [.t 2, .t 3] := ⟨Go.Proofs.Tryz.f124, dl [(0, [2, 3]), (1, [10, 11]), (3, [13]), (4, [14]), (6, [19, 20]), (7, [22, 23, 21, 24, 25]), (8, [26, 27, 28, 29, 30, 31, 32, 33, 34, 35]), (9, [36, 37, 38, 39, 40, 41, 42, 43, 44, 45, 46, 47, 48, 49, 50]), (11, [52, 53, 54, 55]), (12, [56]), (13, [57, 58]), (15, [60])], Go.Proofs.Tryz.func124, by kernel_rfl, by kernel_rfl, by kernel_rfl, by kernel_rfl⟩
theorem end_size {l : ByteArray} (h : l = by8 "" ∨ isVer l = true) : l.size ≤ 200 ∧ endOk l = true := by
  rcases h with rfl | h
  · exact ⟨by rw [by8_nil]; omega, end_nil⟩
  · refine ⟨?_, by simp [endOk, h]⟩
    unfold isVer at h
    obtain ⟨v, hv⟩ := Option.isSome_iff_exists.1 h
    rw [← (ver_back hv).2]
    exact verT_size v
theorem map_end {w : List ByteArray} {out : List (ByteArray × ByteArray)} (h : mapO w = some out) : ∀ b ∈ out, (b.1.size ≤ 200 ∧ endOk b.1 = true) ∧ b.2.size ≤ 200 ∧ endOk b.2 = true := fun b hb => by
  obtain ⟨p, _, hp⟩ := (mapO_mem h).2 b hb
  have := part_ok (l := b.1) (h := b.2) hp
  exact ⟨end_size this.low, end_size this.high⟩
theorem rngOk_of {out : List (ByteArray × ByteArray)} (h : ∀ b ∈ out, endOk b.1 = true ∧ endOk b.2 = true) : rngOk out = inR out.length 1 8 := by
  have : (List.range out.length).all (bndOk out) = true := by
    rw [List.all_eq_true]
    intro i hi
    have hi := List.mem_range.1 hi
    have := h _ (List.getElem_mem hi)
    unfold bndOk
    rw [show out.getD i (by8 "", by8 "") = out[i] by simp [List.getD, hi], this.1, this.2]; rfl
  rw [rngOk, this, Bool.true_and]
section
variable {E : Env} (hE : E.P = Go.Proofs.Tryz.prog) (hZ : ∀ w, E.K w → KZ w)
include hE hZ
set_option maxHeartbeats 8000000 in
theorem implRange_fx (s : ByteArray) (hs : s.size ≤ 1073741823) : Fx E 124 [] [.lit (.string s)] [] (rngRes s) := by
  refine (is124.to hE).fx [] (by simp) rfl (rngRes_ok _) ?_
  have hno : ∀ {b : Prop}, (rngO s = none) → rngRes s = .tup [.sl ⟨.no, true⟩ 2 [], .lit (.bool false)] := fun h => by rw [rngRes, h]
  simp [v124]
  by_cases c1 : (200 : Int) < s.size
  · have hn : rngO s = none := by rw [rngO, if_neg (by omega)]
    simp [c1]
    exact fin_nil2 (by decide) rfl rfl (hno (b := True) hn)
  simp [c1]
  refine vcall_go (split_fx hE hZ s barB (by omega) (by rw [barB_size]; omega)) (by simp [barB]) (by simp) (by simp) (by simp) ?_
  have hll := spB_len_le (sep := barB) (s := s) (by rw [barB_size]; omega)
  have hl1 := spB_len (sep := barB) (s := s) (by rw [barB_size]; omega)
  have hz : ∀ p ∈ spB barB s, p.size ≤ s.size := fun p hp => parts_size hp
  have hrg : rngO s = if s.size ≤ 200 ∧ (spB barB s).length ≤ 8 then mapO (spB barB s) else none := rfl
  obtain ⟨w, hw⟩ : ∃ w, spB barB s = w := ⟨_, rfl⟩
  rw [hw] at hll hz hrg hl1 ⊢
  simp
  refine X_loop (τ := Nat × List (ByteArray × ByteArray)) (fun p => ⟨[(0, .lit (.string s)), (4, .sl ⟨.cl 832, true⟩ 2 (p.2.map fun b => bndV b.1 b.2)), (15, .sl ⟨.no, true⟩ 1 (w.map fun x => .lit (.string x))), (16, .lit (.int .i64 w.length)), (17, .lit (.int .i64 p.1))], []⟩) (fun p => p.1 ≤ w.length ∧ mapO (w.take p.1) = some p.2) (fun p => w.length - p.1) (0, []) ⟨by omega, rfl⟩ (Wk.both (by simp [wkL, wkV.same, frA.frL]) trivial) ?_
  rintro ⟨i, out⟩ ⟨hi, hm⟩
  simp only at hi hm
  have hol := mapO_len hm
  rw [List.length_take] at hol
  simp
  by_cases hlt : i < w.length
  · have hpz := hz _ (List.getElem_mem hlt)
    obtain ⟨l, h, ok, hF, hacc⟩ := readBound_ex hE hZ w[i] (by omega)
    simp [hlt, mkF]
    refine vcall_go hF (by simp) (by simp) (by simp) (by simp) ?_
    simp [bndV, okC, putElem, upd, fill]
    by_cases p1 : w[i] = by8 "*"
    · have hop : opn w[i] = true := by simp [opn, p1]
      simp [p1]
      cases ok
      · have hp : partO w[i] = none := by rw [← hacc, accO]; simp
        simp [okC, putElem, upd, fill]
        exact fin_nil2 (by decide) rfl rfl (hno (b := True) (by rw [hrg]; split; exact mapO_none hlt hp; rfl))
      · have hp : partO w[i] = some (l, h) := by rw [← hacc, accO, hop]; simp
        simp [okC, putElem, upd, fill, frA, frA.frL, AS.dem, mapV, dem, dem.demL]
        refine ⟨by omega, i + 1, out ++ [(l, h)], ⟨by omega, mapO_next hlt hm hp⟩, by omega, Wk.both (by simp [wkL, wkV.same, bndV]; rw [wrapN (by omega)]; exact wkV.same _) (by simp [wkB])⟩
    simp [p1]
    refine vcall_go (hasPrefix_fx hE w[i] lt1) (by simp [lt1]) (by simp) (by simp) (by simp) ?_
    cases p2 : hasP w[i] lt1
    · simp
      refine vcall_go (hasPrefix_fx hE w[i] ge2) (by simp [ge2]) (by simp) (by simp) (by simp) ?_
      cases p3 : hasP w[i] ge2
      · have hop : opn w[i] = false := by simp [opn, p1, p2, p3]
        simp
        cases ok
        · have hp : partO w[i] = none := by rw [← hacc, accO]; simp
          simp [okC, putElem, upd, fill]
          exact fin_nil2 (by decide) rfl rfl (hno (b := True) (by rw [hrg]; split; exact mapO_none hlt hp; rfl))
        · by_cases z1 : l = by8 ""
          · have hp : partO w[i] = none := by rw [← hacc, accO, hop]; simp [z1]
            simp [z1, okC, putElem, upd, fill]
            exact fin_nil2 (by decide) rfl rfl (hno (b := True) (by rw [hrg]; split; exact mapO_none hlt hp; rfl))
          · by_cases z2 : h = by8 ""
            · have hp : partO w[i] = none := by rw [← hacc, accO, hop]; simp [z2]
              simp [z1, z2, okC, putElem, upd, fill]
              exact fin_nil2 (by decide) rfl rfl (hno (b := True) (by rw [hrg]; split; exact mapO_none hlt hp; rfl))
            · have hp : partO w[i] = some (l, h) := by rw [← hacc, accO, hop]; simp [z1, z2]
              simp [z1, z2, okC, putElem, upd, fill, frA, frA.frL, AS.dem, mapV, dem, dem.demL]
              refine ⟨by omega, i + 1, out ++ [(l, h)], ⟨by omega, mapO_next hlt hm hp⟩, by omega, Wk.both (by simp [wkL, wkV.same, bndV]; rw [wrapN (by omega)]; exact wkV.same _) (by simp [wkB])⟩
      · have hop : opn w[i] = true := by simp [opn, p3]
        simp
        cases ok
        · have hp : partO w[i] = none := by rw [← hacc, accO]; simp
          simp [okC, putElem, upd, fill]
          exact fin_nil2 (by decide) rfl rfl (hno (b := True) (by rw [hrg]; split; exact mapO_none hlt hp; rfl))
        · have hp : partO w[i] = some (l, h) := by rw [← hacc, accO, hop]; simp
          simp [okC, putElem, upd, fill, frA, frA.frL, AS.dem, mapV, dem, dem.demL]
          refine ⟨by omega, i + 1, out ++ [(l, h)], ⟨by omega, mapO_next hlt hm hp⟩, by omega, Wk.both (by simp [wkL, wkV.same, bndV]; rw [wrapN (by omega)]; exact wkV.same _) (by simp [wkB])⟩
    · have hop : opn w[i] = true := by simp [opn, p2]
      simp
      cases ok
      · have hp : partO w[i] = none := by rw [← hacc, accO]; simp
        simp [okC, putElem, upd, fill]
        exact fin_nil2 (by decide) rfl rfl (hno (b := True) (by rw [hrg]; split; exact mapO_none hlt hp; rfl))
      · have hp : partO w[i] = some (l, h) := by rw [← hacc, accO, hop]; simp
        simp [okC, putElem, upd, fill, frA, frA.frL, AS.dem, mapV, dem, dem.demL]
        refine ⟨by omega, i + 1, out ++ [(l, h)], ⟨by omega, mapO_next hlt hm hp⟩, by omega, Wk.both (by simp [wkL, wkV.same, bndV]; rw [wrapN (by omega)]; exact wkV.same _) (by simp [wkB])⟩
  · obtain rfl : i = w.length := by omega
    rw [List.take_length] at hm
    have he := map_end hm
    have hro := rngOk_of (out := out) fun b hb => ⟨(he b hb).1.2, (he b hb).2.2⟩
    simp
    refine vcall_go (implRngOk_fx hE hZ out (by omega) (fun b hb => by have := he b hb; omega)) (by simp [ro]) (by simp) (by simp) (by simp) ?_
    rw [hro]
    by_cases c2 : out.length ≤ 8
    · have hin : inR out.length 1 8 = true := by simp [inR]; omega
      rw [hin]
      simp
      exact fin_row2 (by decide) rfl rfl (by rw [rngRes, hrg, if_pos (by omega), hm])
    · have hin : inR out.length 1 8 = false := by simp [inR]; omega
      rw [hin]
      simp
      exact fin_nil2 (by decide) rfl rfl (hno (b := True) (by rw [hrg, if_neg (by omega)]))
end
end Go.Proofs.YtgegcfhifojjiaaGreatDoor.Vm
