/- Sums as a text: the program. -/
import Derived.Test.YtgegcfhifojjiaaDoorIg
namespace Go.Proofs.YtgegcfhifojjiaaDoor.Vm
open Go Go.RowKit
set_option linter.unusedVariables false
set_option linter.unusedSimpArgs false
def v24 : VC := .seq (.reg false [⟨some 2, .as (.c (.lit (.string (by8 "")))), none⟩] [2]) (.seq (.reg false [⟨some 6, .bsl 1 [], none⟩, ⟨some 3, .as (.t 6), none⟩] [6]) (.seq (.seq (.reg false [⟨some 7, .mv (.t 0), none⟩, ⟨some 8, .len false (.t 7), none⟩, ⟨some 9, .mv (.c (.lit (.int .i64 0))), none⟩] []) (.block 0 (.loop (.seq (.reg false [⟨some 10, .bin .lss 0 (.t 9) (.t 8), none⟩] []) (.seq (.cond (.t 10) (.skip) (.exit 0)) (.seq (.block 1 (.seq (.reg false [⟨some 11, .ia 2 (.t 7) (.t 9), none⟩, ⟨some 12, .ld true 2 (.t 11), none⟩, ⟨some 5, .alloc (.agg [(.lit (.string (by8 ""))), (.lit (.string (by8 "")))]), none⟩, ⟨none, .st 2 (.t 5) (.t 12), none⟩] [11, 12]) (.seq (.reg false [⟨some 13, .fa 0 (.t 5), none⟩, ⟨some 14, .ld false 1 (.t 13), none⟩, ⟨some 15, .bin .eql 0 (.t 14) (.c (.lit (.string (by8 "sha1")))), none⟩, ⟨some 16, .mv (.t 15), none⟩, ⟨some 17, .fa 0 (.t 5), (some (16, false))⟩, ⟨some 18, .ld false 1 (.t 17), (some (16, false))⟩, ⟨some 19, .bin .eql 0 (.t 18) (.c (.lit (.string (by8 "sha256")))), (some (16, false))⟩, ⟨some 20, .pick (.t 16) (.c (.lit (.bool true))) (.t 19), none⟩, ⟨some 21, .mv (.t 20), none⟩, ⟨some 22, .fa 0 (.t 5), (some (21, false))⟩, ⟨some 23, .ld false 1 (.t 22), (some (21, false))⟩, ⟨some 24, .bin .eql 0 (.t 23) (.c (.lit (.string (by8 "sha512")))), (some (21, false))⟩, ⟨some 25, .pick (.t 21) (.c (.lit (.bool true))) (.t 24), none⟩] [13, 14, 15, 16, 17, 18, 19, 20, 21, 22, 23, 24]) (.cond (.t 25) (.reg true [⟨some 26, .mv (.t 3), none⟩, ⟨some 27, .fa 0 (.t 5), none⟩, ⟨some 28, .ld false 1 (.t 27), none⟩, ⟨some 29, .bin .add 0 (.t 28) (.c (.lit (.string (by8 "-")))), none⟩, ⟨some 30, .fa 1 (.t 5), none⟩, ⟨some 31, .ld false 1 (.t 30), none⟩, ⟨some 32, .call true 48 [(.t 31)], none⟩, ⟨some 33, .bin .add 0 (.t 29) (.t 32), none⟩, ⟨some 34, .bsl 1 [(.t 33)], none⟩, ⟨some 35, .app 1 16 (.t 26) (.t 34), none⟩, ⟨some 3, .as (.t 35), none⟩] [26, 27, 28, 29, 30, 31, 32, 33, 34, 35]) (.skip))))) (.reg false [⟨some 36, .bin .add 0 (.t 9) (.c (.lit (.int .i64 1))), none⟩, ⟨some 9, .mv (.t 36), none⟩] [36]))))))) (.seq (.reg false [⟨some 37, .mv (.t 3), none⟩, ⟨some 38, .call false 50 [(.t 37), (.c (.lit (.string (by8 " "))))], none⟩, ⟨some 2, .as (.t 38), none⟩] [37, 38]) (.ret))))
theorem is24 : Is Go.Proofs.Tryd.prog 24 39 v24 [.t 2] := ⟨Go.Proofs.Tryd.f24, dl [(0, [2]), (1, [6]), (4, [11, 12]), (5, [13, 14, 15, 16, 17, 18, 19, 20, 21, 22, 23, 24]), (6, [26, 27, 28, 29, 30, 31, 32, 33, 34, 35]), (7, [36]), (8, [37, 38])], Go.Proofs.Tryd.func24, by kernel_rfl, by kernel_rfl, by kernel_rfl, by kernel_rfl⟩
section
variable {E : Env} (hE : E.P = Go.Proofs.Tryd.prog)
include hE
set_option maxHeartbeats 4000000 in
theorem implPutI_fx (l : List Sm) (hl : l.length ≤ 2097152) (hx : ∀ s ∈ l, s.small) : Fx E 24 [] [.sl ro 2 (l.map fun x => .agg x.av)] [] (.lit (.string (pig l))) := by
  have ed : (by8 "-").size = 1 := by decide +kernel
  refine (is24.to hE).fx [] (by simp) rfl rfl ?_
  simp [v24]
  refine X_loop (τ := Nat) (fun i => ⟨[(0, .sl ro 2 (l.map fun x => .agg x.av)), (3, .sl ⟨.cl 384, true⟩ 1 ((((l.take i).filter fun x => kwn x.alg).map wrd).map fun x => .lit (.string x))), (7, .sl ro 2 (l.map fun x => .agg x.av)), (8, .lit (.int .i64 l.length)), (9, .lit (.int .i64 i))], []⟩) (fun i => i ≤ l.length) (fun i => l.length - i) 0 (by omega) (Wk.both (by simp [wkL, wkV.same, frA.frL]) trivial) ?_
  intro i hi
  have hfl : ((l.take i).filter fun x => kwn x.alg).length ≤ i := Nat.le_trans (List.length_filter_le _ _) (by rw [List.length_take]; omega)
  simp
  by_cases hlt : i < l.length
  · have hav : l[i].av = [.lit (.string l[i].alg), .lit (.string l[i].bytes)] := rfl
    obtain ⟨g1, g2⟩ := hx _ (List.getElem_mem hlt)
    have hbz := b64_size l[i].bytes
    have hk : (l.take (i + 1)).filter (fun x => kwn x.alg) = (l.take i).filter (fun x => kwn x.alg) ++ (if kwn l[i].alg = true then [l[i]] else []) := by
      rw [List.take_succ_eq_append_getElem hlt, List.filter_append]
      cases h : kwn l[i].alg <;> simp [h]
    simp [hlt, hav, ro, mkF, mkF.mkL, okC, putElem, upd]
    by_cases c1 : l[i].alg = by8 "sha1"
    · have hkk : kwn l[i].alg = true := by simp [kwn, c1]
      simp [c1, ed]
      rw [← c1]
      refine ⟨by omega, ?_⟩
      refine vcall_go (implB64_fx hE l[i].bytes (by omega)) (by simp) (by simp) (by simp) (by simp) ?_
      simp [okC, frA, frA.frL, AS.dem, mapV, dem, dem.demL]
      refine ⟨by omega, by omega, i + 1, by omega, by omega, Wk.both (by simp [wkL, wkV.same, ro, hk, hkk, wrd]; rw [wrapN (by omega)]; exact wkV.same _) (by simp [wkB])⟩
    simp [c1]
    by_cases c2 : l[i].alg = by8 "sha256"
    · have hkk : kwn l[i].alg = true := by simp [kwn, c2]
      simp [c2, ed]
      rw [← c2]
      refine ⟨by omega, ?_⟩
      refine vcall_go (implB64_fx hE l[i].bytes (by omega)) (by simp) (by simp) (by simp) (by simp) ?_
      simp [okC, frA, frA.frL, AS.dem, mapV, dem, dem.demL]
      refine ⟨by omega, by omega, i + 1, by omega, by omega, Wk.both (by simp [wkL, wkV.same, ro, hk, hkk, wrd]; rw [wrapN (by omega)]; exact wkV.same _) (by simp [wkB])⟩
    simp [c2]
    by_cases c3 : l[i].alg = by8 "sha512"
    · have hkk : kwn l[i].alg = true := by simp [kwn, c3]
      simp [c3, ed]
      rw [← c3]
      refine ⟨by omega, ?_⟩
      refine vcall_go (implB64_fx hE l[i].bytes (by omega)) (by simp) (by simp) (by simp) (by simp) ?_
      simp [okC, frA, frA.frL, AS.dem, mapV, dem, dem.demL]
      refine ⟨by omega, by omega, i + 1, by omega, by omega, Wk.both (by simp [wkL, wkV.same, ro, hk, hkk, wrd]; rw [wrapN (by omega)]; exact wkV.same _) (by simp [wkB])⟩
    have hkk : kwn l[i].alg = false := by simp [kwn, c1, c2, c3]
    simp [c3]
    exact ⟨i + 1, by omega, by omega, Wk.both (by simp [wkL, wkV.same, ro, hk, hkk]; rw [wrapN (by omega)]; exact wkV.same _) (by simp [wkB])⟩
  · obtain rfl : i = l.length := by omega
    rw [List.take_length] at hfl ⊢
    have hps := pig_size hx l.length
    rw [List.take_length] at hps
    simp
    refine vcall_go (join_fx hE ((l.filter fun x => kwn x.alg).map wrd) (by8 " ") (by simp; omega) (by show (pig l).size ≤ _; omega)) (by simp [ro]) (by simp) (by simp) (by simp) ?_
    simp
    exact Fin_ret rfl rfl
end
end Go.Proofs.YtgegcfhifojjiaaDoor.Vm
