/- The tables of a graph: the reference. -/
import Derived.Test.YticamghmcikfcaaTk
namespace Go.Proofs.Yticamghmcikfcaa.Vm
open Go Go.RowKit
set_option linter.unusedVariables false
set_option linter.unusedSimpArgs false
def v34 : VC := .seq (.reg false [⟨some 2, .box 2 (.t 0), none⟩, ⟨some 4, .alloc (.agg [(.lit (.string (by8 ""))), (.lit (.string (by8 ""))), (.sl ⟨.nl, true⟩ 1 []), (.lit (.bool false))]), none⟩] []) (.seq (.reg false [⟨some 7, .bld [(.lit (.string (by8 ""))), (.lit (.string (by8 ""))), (.sl ⟨.nl, true⟩ 1 []), (.lit (.bool false))] [(0, 1, (.c (.lit (.string (by8 "dependencies"))))), (3, 1, (.c (.lit (.bool true))))], none⟩, ⟨some 5, .alloc (.agg [(.lit (.string (by8 ""))), (.lit (.string (by8 ""))), (.sl ⟨.nl, true⟩ 1 []), (.lit (.bool false))]), none⟩, ⟨none, .st 4 (.t 5) (.t 7), none⟩] [7]) (.seq (.seq (.reg false [⟨some 6, .as (.c (.lit (.int .i64 0))), none⟩] []) (.block 0 (.loop (.seq (.seq (.reg false [⟨some 8, .mv (.t 6), none⟩, ⟨some 9, .mv (.t 1), none⟩, ⟨some 10, .len false (.t 9), none⟩, ⟨some 11, .bin .lss 0 (.t 8) (.t 10), none⟩] [8, 9, 10]) (.cond (.t 11) (.skip) (.exit 0))) (.seq (.block 1 (.reg true [⟨some 14, .fa 2 (.t 5), none⟩, ⟨some 15, .ld false 1 (.t 14), none⟩, ⟨some 16, .ld true 2 (.t 2), none⟩, ⟨some 17, .mv (.t 1), none⟩, ⟨some 18, .mv (.t 6), none⟩, ⟨some 19, .ia 1 (.t 17) (.t 18), none⟩, ⟨some 20, .ld false 1 (.t 19), none⟩, ⟨some 21, .call true 44 [(.t 16), (.t 20)], none⟩, ⟨some 22, .bsl 1 [(.t 21)], none⟩, ⟨some 23, .app 1 16 (.t 15) (.t 22), none⟩, ⟨some 24, .fa 2 (.t 5), none⟩, ⟨none, .st 1 (.t 24) (.t 23), none⟩] [14, 15, 16, 17, 18, 19, 20, 21, 22, 23, 24])) (.reg false [⟨some 12, .mv (.t 6), none⟩, ⟨some 13, .bin .add 0 (.t 12) (.c (.lit (.int .i64 1))), none⟩, ⟨some 6, .as (.t 13), none⟩] [12, 13])))))) (.seq (.reg false [⟨some 25, .ld true 4 (.t 5), none⟩, ⟨none, .st 4 (.t 4) (.t 25), none⟩] [25]) (.ret))))
theorem is34 : Is Go.Proofs.Try.prog 34 26 v34 [.b 4 true 4] := ⟨Go.Proofs.Try.f34, dl [(1, [7]), (3, [8, 9, 10]), (5, [14, 15, 16, 17, 18, 19, 20, 21, 22, 23, 24]), (4, [12, 13]), (6, [25])], Go.Proofs.Try.func34, by kernel_rfl, by kernel_rfl, by kernel_rfl, by kernel_rfl⟩
def v15_6 : VC := .ret
def v15_5 : VC := .seq (.reg false [⟨some 43, .ld true 2 (.t 9), none⟩, ⟨none, .st 2 (.t 8) (.t 43), none⟩] [43]) v15_6
def v15_4 : VC := .seq (.seq (.reg false [⟨some 33, .fa 5 (.t 7), none⟩, ⟨some 34, .ld false 1 (.t 33), none⟩, ⟨some 35, .len false (.t 34), none⟩, ⟨some 36, .bin .gtr 0 (.t 35) (.c (.lit (.int .i64 0))), none⟩] [33, 34, 35]) (.cond (.t 36) (.reg true [⟨some 37, .ld true 2 (.t 9), none⟩, ⟨some 38, .ld true 2 (.t 4), none⟩, ⟨some 39, .fa 5 (.t 7), none⟩, ⟨some 40, .ld false 1 (.t 39), none⟩, ⟨some 41, .call true 34 [(.t 38), (.t 40)], none⟩, ⟨some 42, .call true 32 [(.t 37), (.t 41)], none⟩, ⟨none, .st 2 (.t 9) (.t 42), none⟩] [37, 38, 39, 40, 41, 42]) (.skip))) v15_5
def v15_3 : VC := .seq (.seq (.reg false [⟨some 25, .ld true 6 (.t 7), none⟩, ⟨some 26, .call false 33 [(.t 25)], none⟩, ⟨some 10, .as (.t 26), none⟩] [25, 26]) (.seq (.reg false [⟨some 27, .mv (.t 10), none⟩, ⟨some 28, .bin .neq 0 (.t 27) (.c (.lit (.string (by8 "")))), none⟩] [27]) (.cond (.t 28) (.reg false [⟨some 29, .ld true 2 (.t 9), none⟩, ⟨some 30, .mv (.t 10), none⟩, ⟨some 31, .bld [(.lit (.string (by8 ""))), (.lit (.string (by8 ""))), (.sl ⟨.nl, true⟩ 1 []), (.lit (.bool false))] [(0, 1, (.c (.lit (.string (by8 "checksum"))))), (1, 1, (.t 30))], none⟩, ⟨some 32, .call false 32 [(.t 29), (.t 31)], none⟩, ⟨none, .st 2 (.t 9) (.t 32), none⟩] [29, 30, 31, 32]) (.skip)))) v15_4
def v15_2 : VC := .seq (.seq (.reg false [⟨some 17, .fa 2 (.t 7), none⟩, ⟨some 18, .ld false 1 (.t 17), none⟩, ⟨some 19, .bin .neq 0 (.t 18) (.c (.lit (.string (by8 "")))), none⟩] [17, 18]) (.cond (.t 19) (.reg false [⟨some 20, .ld true 2 (.t 9), none⟩, ⟨some 21, .fa 2 (.t 7), none⟩, ⟨some 22, .ld false 1 (.t 21), none⟩, ⟨some 23, .bld [(.lit (.string (by8 ""))), (.lit (.string (by8 ""))), (.sl ⟨.nl, true⟩ 1 []), (.lit (.bool false))] [(0, 1, (.c (.lit (.string (by8 "source"))))), (1, 1, (.t 22))], none⟩, ⟨some 24, .call false 32 [(.t 20), (.t 23)], none⟩, ⟨none, .st 2 (.t 9) (.t 24), none⟩] [20, 21, 22, 23, 24]) (.skip))) v15_3
def v15_1 : VC := .seq (.reg false [⟨some 11, .mv (.t 1), none⟩, ⟨some 12, .bld [(.lit (.string (by8 ""))), (.lit (.string (by8 ""))), (.sl ⟨.nl, true⟩ 1 []), (.lit (.bool false))] [(0, 1, (.c (.lit (.string (by8 "name"))))), (1, 1, (.t 11))], none⟩, ⟨some 13, .mv (.t 2), none⟩, ⟨some 14, .bld [(.lit (.string (by8 ""))), (.lit (.string (by8 ""))), (.sl ⟨.nl, true⟩ 1 []), (.lit (.bool false))] [(0, 1, (.c (.lit (.string (by8 "version"))))), (1, 1, (.t 13))], none⟩, ⟨some 15, .bsl 4 [(.t 12), (.t 14)], none⟩, ⟨some 16, .bld [(.lit (.string (by8 ""))), (.sl ⟨.nl, true⟩ 1 [])] [(0, 1, (.c (.lit (.string (by8 "package"))))), (1, 1, (.t 15))], none⟩, ⟨some 9, .alloc (.agg [(.lit (.string (by8 ""))), (.sl ⟨.nl, true⟩ 1 [])]), none⟩, ⟨none, .st 2 (.t 9) (.t 16), none⟩] [11, 12, 13, 14, 15, 16]) v15_2
def v15 : VC := .seq (.reg false [⟨some 4, .box 2 (.t 0), none⟩, ⟨some 7, .box 6 (.t 3), none⟩, ⟨some 8, .alloc (.agg [(.lit (.string (by8 ""))), (.sl ⟨.nl, true⟩ 1 [])]), none⟩] []) v15_1
theorem is15 : Is Go.Proofs.Try.prog 15 44 v15 [.b 8 true 2] := ⟨Go.Proofs.Try.f15, dl [(1, [11, 12, 13, 14, 15, 16]), (2, [17, 18]), (3, [20, 21, 22, 23, 24]), (4, [25, 26]), (5, [27]), (6, [29, 30, 31, 32]), (7, [33, 34, 35]), (8, [37, 38, 39, 40, 41, 42]), (9, [43])], Go.Proofs.Try.func15, by kernel_rfl, by kernel_rfl, by kernel_rfl, by kernel_rfl⟩
def v5 : VC := .seq (.reg false [⟨some 1, .box 2 (.t 0), none⟩, ⟨some 2, .as (.c (.sl ⟨.nl, true⟩ 1 [])), none⟩] [2]) (.seq (.reg false [⟨some 5, .bld [(.lit (.string (by8 ""))), (.lit (.string (by8 ""))), (.sl ⟨.nl, true⟩ 1 []), (.lit (.bool false))] [(0, 1, (.c (.lit (.string (by8 "version"))))), (1, 1, (.c (.lit (.string (by8 "4")))))], none⟩, ⟨some 6, .bsl 4 [(.t 5)], none⟩, ⟨some 7, .bld [(.lit (.string (by8 ""))), (.sl ⟨.nl, true⟩ 1 [])] [(1, 1, (.t 6))], none⟩, ⟨some 8, .bsl 2 [(.t 7)], none⟩, ⟨some 3, .as (.t 8), none⟩] [5, 6, 7, 8]) (.seq (.reg false [⟨some 9, .mv (.t 3), none⟩, ⟨some 10, .ld true 2 (.t 1), none⟩, ⟨some 11, .fa 0 (.t 1), none⟩, ⟨some 12, .ld false 1 (.t 11), none⟩, ⟨some 13, .bld [(.lit (.string (by8 ""))), (.lit (.string (by8 ""))), (.lit (.string (by8 ""))), (.sl ⟨.nl, true⟩ 1 []), (.lit (.bool false)), (.sl ⟨.nl, true⟩ 1 [])] [(5, 1, (.t 12))], none⟩, ⟨some 14, .call false 15 [(.t 10), (.c (.lit (.string (by8 "root")))), (.c (.lit (.string (by8 "0.0.0")))), (.t 13)], none⟩, ⟨some 15, .bsl 2 [(.t 14)], none⟩, ⟨some 16, .app 2 40 (.t 9) (.t 15), none⟩, ⟨some 3, .as (.t 16), none⟩] [9, 10, 11, 12, 13, 14, 15, 16]) (.seq (.seq (.reg false [⟨some 4, .as (.c (.lit (.int .i64 0))), none⟩] []) (.block 0 (.loop (.seq (.seq (.reg false [⟨some 17, .mv (.t 4), none⟩, ⟨some 18, .fa 1 (.t 1), none⟩, ⟨some 19, .ld false 1 (.t 18), none⟩, ⟨some 20, .len false (.t 19), none⟩, ⟨some 21, .bin .lss 0 (.t 17) (.t 20), none⟩] [17, 18, 19, 20]) (.cond (.t 21) (.skip) (.exit 0))) (.seq (.block 1 (.reg true [⟨some 24, .mv (.t 3), none⟩, ⟨some 25, .ld true 2 (.t 1), none⟩, ⟨some 26, .fa 1 (.t 1), none⟩, ⟨some 27, .ld false 1 (.t 26), none⟩, ⟨some 28, .mv (.t 4), none⟩, ⟨some 29, .ia 6 (.t 27) (.t 28), none⟩, ⟨some 30, .fa 0 (.t 29), none⟩, ⟨some 31, .ld false 1 (.t 30), none⟩, ⟨some 32, .fa 1 (.t 1), none⟩, ⟨some 33, .ld false 1 (.t 32), none⟩, ⟨some 34, .mv (.t 4), none⟩, ⟨some 35, .ia 6 (.t 33) (.t 34), none⟩, ⟨some 36, .fa 1 (.t 35), none⟩, ⟨some 37, .ld false 1 (.t 36), none⟩, ⟨some 38, .fa 1 (.t 1), none⟩, ⟨some 39, .ld false 1 (.t 38), none⟩, ⟨some 40, .mv (.t 4), none⟩, ⟨some 41, .ia 6 (.t 39) (.t 40), none⟩, ⟨some 42, .ld true 6 (.t 41), none⟩, ⟨some 43, .call true 15 [(.t 25), (.t 31), (.t 37), (.t 42)], none⟩, ⟨some 44, .bsl 2 [(.t 43)], none⟩, ⟨some 45, .app 2 40 (.t 24) (.t 44), none⟩, ⟨some 3, .as (.t 45), none⟩] [24, 25, 26, 27, 28, 29, 30, 31, 32, 33, 34, 35, 36, 37, 38, 39, 40, 41, 42, 43, 44, 45])) (.reg false [⟨some 22, .mv (.t 4), none⟩, ⟨some 23, .bin .add 0 (.t 22) (.c (.lit (.int .i64 1))), none⟩, ⟨some 4, .as (.t 23), none⟩] [22, 23])))))) (.seq (.reg false [⟨some 46, .mv (.t 3), none⟩, ⟨some 2, .as (.t 46), none⟩] [46]) (.ret)))))
theorem is5 : Is Go.Proofs.Try.prog 5 47 v5 [.t 2] := ⟨Go.Proofs.Try.f5, dl [(0, [2]), (1, [5, 6, 7, 8]), (2, [9, 10, 11, 12, 13, 14, 15, 16]), (4, [17, 18, 19, 20]), (6, [24, 25, 26, 27, 28, 29, 30, 31, 32, 33, 34, 35, 36, 37, 38, 39, 40, 41, 42, 43, 44, 45]), (5, [22, 23]), (7, [46])], Go.Proofs.Try.func5, by kernel_rfl, by kernel_rfl, by kernel_rfl, by kernel_rfl⟩
/-- the field of a pack's needs -/
def depF (g : Gr) (keys : List ByteArray) : Fld := ⟨by8 "dependencies", by8 "", keys.map (shortN g), true⟩
def txtF (k t : ByteArray) : Fld := ⟨k, t, [], false⟩
/-- a pack's fields -/
def fld0 (name version : ByteArray) : List Fld := [txtF (by8 "name") name, txtF (by8 "version") version]
def fldS (p : Pk) : List Fld := if p.source = by8 "" then [] else [txtF (by8 "source") p.source]
def fldC (p : Pk) : List Fld := if hexS (sumB p.sums) = by8 "" then [] else [txtF (by8 "checksum") (hexS (sumB p.sums))]
def fldD (g : Gr) (p : Pk) : List Fld := if p.needs = [] then [] else [depF g p.needs]
def fldsP (g : Gr) (name version : ByteArray) (p : Pk) : List Fld := fld0 name version ++ fldS p ++ fldC p ++ fldD g p
theorem setF_app {l : List Fld} {f : Fld} (h : ∀ x ∈ l, x.key ≠ f.key) : setF l f = l ++ [f] := by
  have : idx0 l f = l.length := by
    unfold idx0
    rw [List.findIdx_eq_length]
    intro x hx
    simpa using h x hx
  unfold setF
  rw [if_neg (by omega)]
section
variable {E : Env} (hE : E.P = Go.Proofs.Try.prog)
include hE
set_option maxHeartbeats 1000000 in
theorem specList_fx (g : Gr) (keys : List ByteArray) (hg : g.packs.length ≤ 1048576) (hk : keys.length ≤ 1048576) (hs : ∀ k ∈ keys, k.size ≤ 1099511627776) (hne : keys ≠ []) : Fx E 34 [] [.agg g.av, .sl ro 1 (keys.map fun x => .lit (.string x))] [] (.agg [.lit (.string (by8 "dependencies")), .lit (.string (by8 "")), .sl ⟨.no, true⟩ 1 ((keys.map (shortN g)).map fun x => .lit (.string x)), .lit (.bool true)]) := by
  have hga : g.av = [.sl ro 1 (g.top.map fun x => .lit (.string x)), .sl ro 6 (g.packs.map fun x => .agg x.av)] := rfl
  have hro : ro.ap = .no := rfl
  obtain ⟨L, hL⟩ : ∃ L, ((keys.map (shortN g)).map fun x => AV.lit (.string x)) = L := ⟨_, rfl⟩
  have hLl : L.length = keys.length := by rw [← hL]; simp
  have hLx : ∀ i (h : i < keys.length), L.take (i + 1) = L.take i ++ [.lit (.string (shortN g keys[i]))] := by
    intro i h
    rw [List.take_add_one, List.getElem?_eq_getElem (by omega)]
    simp [← hL]
  rw [hL]
  refine (is34.to hE).fx [] (by simp) rfl rfl ?_
  simp [v34, hga, okC, putElem, upd, fill, pvals]
  refine X_loop (τ := Nat) (fun i => ⟨[(1, .sl ro 1 (keys.map fun x => .lit (.string x))), (2, .ptr 1000000000002 0 0), (4, .ptr 1000000000004 0 0), (5, .ptr 1000000000005 0 0), (6, .lit (.int .i64 i))], [(1000000000002, [.agg [.sl ro 1 (g.top.map fun x => .lit (.string x)), .sl ro 6 (g.packs.map fun x => .agg x.av)]]), (1000000000004, [.agg [.lit (.string (by8 "")), .lit (.string (by8 "")), .sl ⟨.nl, true⟩ 1 [], .lit (.bool false)]]), (1000000000005, [.agg [.lit (.string (by8 "dependencies")), .lit (.string (by8 "")), .sl ⟨if i = 0 then .nl else .cl 1472, true⟩ 1 (L.take i), .lit (.bool true)]])]⟩) (fun i => i ≤ keys.length) (fun i => keys.length - i) 0 (by simp) (Wk.both (by simp [wkL, wkV.same]) (by simp [wkB])) ?_
  rintro i hi
  by_cases hlt : i < keys.length
  · have hnx := hLx i hlt
    by_cases hi0 : i = 0
    · subst hi0
      simp [hlt, mkF]
      refine vcall_go (specShort_fx hE g keys[0] hg (hs _ (List.getElem_mem hlt))) (by simp [hga]) (by simp) (by simp) (by simp) ?_
      simp [okC, putElem, upd, frA, frA.frL]
      exact ⟨1, by omega, by omega, Wk.both (by simp [wkL, wkV.same]; exact .inl (by simp; decide)) (by simp [wkB]; simpa using hnx.symm)⟩
    · simp [hlt, mkF, hi0]
      refine vcall_go (specShort_fx hE g keys[i] hg (hs _ (List.getElem_mem hlt))) (by simp [hga]) (by simp) (by simp) (by simp) ?_
      simp [okC, putElem, upd, frA, frA.frL, AS.dem, mapV, dem, dem.demL, hro]
      refine ⟨by omega, i + 1, by omega, by omega, Wk.both (by simp [wkL, wkV.same]; rw [wrapN (by omega)]; exact .inl (by simp)) (by simp [wkB]; exact hnx.symm)⟩
  · obtain rfl : i = keys.length := by omega
    have h0 : keys.length ≠ 0 := fun e => hne (List.eq_nil_of_length_eq_zero e)
    have ht : L.take keys.length = L := List.take_of_length_le (by omega)
    simp [ht, h0, okC, putElem, upd]
    exact Fin_ret rfl rfl
omit hE in
theorem fldS_av (k t : ByteArray) : (txtF k t).av = [.lit (.string k), .lit (.string t), .sl ro 1 [], .lit (.bool false)] := rfl
omit hE in
theorem hex_size (s : ByteArray) : (hexS s).size ≤ 2 * s.size := by
  have h := hexLs_len s.data.toList
  have e : (hexS s).size = (hexLs s.data.toList).length := List.size_toArray
  have e2 : s.data.toList.length = s.size := by simp
  omega
omit hE in
theorem sumB_size {l : List Sm} (h : ∀ s ∈ l, s.bytes.size ≤ 1099511627) : (sumB l).size ≤ 1099511627 := by
  unfold sumB
  split
  · rename_i s hs
    exact h s (List.mem_of_find?_eq_some hs)
  · have : (by8 "").size = 0 := by decide +kernel
    omega
theorem specSumZ (p : Pk) {z : Nat} (hz : z = 2 ∨ p.sums = []) (h1 : p.sums.length ≤ 1048576) (h2 : ∀ s ∈ p.sums, s.bytes.size ≤ 1099511627) : Fx E 33 [] [.agg [.lit (.string p.name), .lit (.string p.version), .lit (.string p.source), .sl ro z (p.sums.map fun x => .agg x.av), .lit (.bool p.dev), .sl ro 1 (p.needs.map fun x => .lit (.string x))]] [] (.lit (.string (hexS (sumB p.sums)))) := by
  rcases hz with rfl | hz
  · exact specSum_fx hE p h1 h2
  · have he : hexS (by8 "") = by8 "" := by decide +kernel
    have hq : hexS (sumB p.sums) = by8 "" := by rw [hz]; exact he
    rw [hq, hz]
    refine (is33.to hE).fx [] (by simp) rfl rfl ?_
    simp [v33, okC]
    refine X_loop (τ := Nat) (fun i => ⟨[(1, .ptr 1000000000001 0 0), (3, .lit (.int .i64 0))], [(1000000000001, [.agg [.lit (.string p.name), .lit (.string p.version), .lit (.string p.source), .sl ro z [], .lit (.bool p.dev), .sl ro 1 (p.needs.map fun x => .lit (.string x))]])]⟩) (fun i => True) (fun i => 0) 0 trivial (Wk.both (by simp [wkL, wkV.same]) (by simp [wkB])) ?_
    rintro i _
    simp
    exact Fin_ret rfl rfl
set_option maxHeartbeats 1000000 in
theorem specTbl_4 (g : Gr) (name version src : ByteArray) (p : Pk) (A0 A3 : AV) (a0 : noC 26 A0 = true ∧ noC 24 A0 = true ∧ noC 32 A0 = true ∧ noC 41 A0 = true ∧ noC 42 A0 = true) (a3 : noC 26 A3 = true ∧ noC 24 A3 = true ∧ noC 32 A3 = true ∧ noC 41 A3 = true ∧ noC 42 A3 = true) (l : List Fld) (m : Mk) (hm : m = ⟨.cl 960, true⟩ ∨ m = ⟨.no, true⟩) (hg : g.packs.length ≤ 1048576) (hk : p.needs.length ≤ 1048576) (hs : ∀ k ∈ p.needs, k.size ≤ 1099511627776) {z : Nat} (hz : z = 2 ∨ p.sums = []) (h1 : p.sums.length ≤ 1048576) (h2 : ∀ s ∈ p.sums, s.bytes.size ≤ 1099511627) (hl : l.length ≤ 1000) (hl2 : ∀ f ∈ l, f.list = []) (b19 b28 : AV) (cs : ByteArray) (hb : noC 41 b19 = true ∧ noC 42 b19 = true ∧ noC 41 b28 = true ∧ noC 42 b28 = true) (hkey : ∀ x ∈ l, x.key ≠ by8 "dependencies") :
    Xe E.pl v15_4 ⟨[(0, A0), (1, .lit (.string name)), (2, .lit (.string version)), (3, A3), (4, .ptr 1000000000004 0 0), (7, .ptr 1000000000007 0 0), (8, .ptr 1000000000008 0 0), (9, .ptr 1000000000009 0 0), (10, .lit (.string cs)), (19, b19), (28, b28)], [(1000000000004, [.agg [.sl ro 1 (g.top.map fun x => .lit (.string x)), .sl ro 6 (g.packs.map fun x => .agg x.av)]]), (1000000000007, [.agg [.lit (.string p.name), .lit (.string p.version), .lit (.string src), .sl ro z (p.sums.map fun x => .agg x.av), .lit (.bool p.dev), .sl ro 1 (p.needs.map fun x => .lit (.string x))]]), (1000000000008, [.agg [.lit (.string (by8 "")), .sl ⟨.nl, true⟩ 1 []]]), (1000000000009, [.agg [.lit (.string (by8 "package")), .sl m 4 (flds l)]])]⟩ (Fin [VR.b 8 true 2] (.agg [.lit (.string (by8 "package")), .sl ⟨.no, true⟩ 4 (flds (l ++ fldD g p))]) []) .mk := by
  have hga : g.av = [.sl ro 1 (g.top.map fun x => .lit (.string x)), .sl ro 6 (g.packs.map fun x => .agg x.av)] := rfl
  have hm2 : noC 41 (.sl m 4 (flds l)) = true ∧ noC 42 (.sl m 4 (flds l)) = true ∧ m.fr = true ∧ skI m = ro := by rcases hm with rfl | rfl <;> exact ⟨rfl, rfl, rfl, rfl⟩
  simp [v15_4]
  by_cases c3 : p.needs = []
  · have e : fldD g p = [] := if_pos c3
    simp [c3, e, v15_5, v15_6, okC, putElem, upd]
    rcases hm with rfl | rfl <;> exact Fin_ret rfl rfl
  · have e : fldD g p = [depF g p.needs] := if_neg c3
    have hp := List.length_pos_iff.2 c3
    simp [hp]
    refine vcall_go (specList_fx hE g p.needs hg hk hs c3) (by simp [hga]) (by simp) (by simp) (by simp [a0, a3, hb, hm2]) ?_
    simp
    have hset := specSet_fx hE ⟨by8 "package", l⟩ (depF g p.needs) (by show l.length ≤ _; omega) (fun f hf => by rw [hl2 f hf]; simp) (by simp [depF]; omega)
    rw [setF_app (by exact hkey)] at hset
    refine vcall_go hset (by simp [Tb.av, flds, Fld.av, depF, hm2]) (by simp) (by simp) (by simp [a0, a3, hb, hm2]) ?_
    simp [okC, putElem, upd, frA, frA.frL, hm2, v15_5, v15_6]
    exact Fin_ret rfl (by rw [e]; rfl)
set_option maxHeartbeats 1000000 in
theorem specTbl_3 (g : Gr) (name version src : ByteArray) (p : Pk) (A0 A3 : AV) (a0 : noC 26 A0 = true ∧ noC 24 A0 = true ∧ noC 32 A0 = true ∧ noC 41 A0 = true ∧ noC 42 A0 = true) (a3 : noC 26 A3 = true ∧ noC 24 A3 = true ∧ noC 32 A3 = true ∧ noC 41 A3 = true ∧ noC 42 A3 = true) (l : List Fld) (m : Mk) (hm : m = ⟨.cl 960, true⟩ ∨ m = ⟨.no, true⟩) (hg : g.packs.length ≤ 1048576) (hk : p.needs.length ≤ 1048576) (hs : ∀ k ∈ p.needs, k.size ≤ 1099511627776) {z : Nat} (hz : z = 2 ∨ p.sums = []) (h1 : p.sums.length ≤ 1048576) (h2 : ∀ s ∈ p.sums, s.bytes.size ≤ 1099511627) (hl : l.length ≤ 100) (hl2 : ∀ f ∈ l, f.list = []) (b19 : Bool) (hkey : ∀ x ∈ l, x.key ≠ by8 "checksum" ∧ x.key ≠ by8 "dependencies") :
    Xe E.pl v15_3 ⟨[(0, A0), (1, .lit (.string name)), (2, .lit (.string version)), (3, A3), (4, .ptr 1000000000004 0 0), (7, .ptr 1000000000007 0 0), (8, .ptr 1000000000008 0 0), (9, .ptr 1000000000009 0 0), (19, .lit (.bool b19))], [(1000000000004, [.agg [.sl ro 1 (g.top.map fun x => .lit (.string x)), .sl ro 6 (g.packs.map fun x => .agg x.av)]]), (1000000000007, [.agg [.lit (.string p.name), .lit (.string p.version), .lit (.string src), .sl ro z (p.sums.map fun x => .agg x.av), .lit (.bool p.dev), .sl ro 1 (p.needs.map fun x => .lit (.string x))]]), (1000000000008, [.agg [.lit (.string (by8 "")), .sl ⟨.nl, true⟩ 1 []]]), (1000000000009, [.agg [.lit (.string (by8 "package")), .sl m 4 (flds l)]])]⟩ (Fin [VR.b 8 true 2] (.agg [.lit (.string (by8 "package")), .sl ⟨.no, true⟩ 4 (flds (l ++ (fldC p ++ fldD g p)))]) []) .mk := by
  have hm2 : noC 26 (.sl m 4 (flds l)) = true ∧ noC 32 (.sl m 4 (flds l)) = true ∧ m.fr = true ∧ skI m = ro := by rcases hm with rfl | rfl <;> exact ⟨rfl, rfl, rfl, rfl⟩
  simp [v15_3]
  refine vcall_go (specSumZ hE ⟨p.name, p.version, src, p.sums, p.dev, p.needs⟩ hz h1 h2) (by simp) (by simp) (by simp) (by simp [a0, a3, hm2]) ?_
  simp
  by_cases c2 : hexS (sumB p.sums) = by8 ""
  · have e : fldC p = [] := if_pos c2
    simp [c2]
    have := specTbl_4 hE g name version src p A0 A3 a0 a3 l m hm hg hk hs hz h1 h2 (by omega) hl2 (.lit (.bool b19)) (.lit (.bool false)) (by8 "") ⟨rfl, rfl, rfl, rfl⟩ fun x hx => (hkey x hx).2
    rw [e, List.nil_append]
    exact this
  · have e : fldC p = [txtF (by8 "checksum") (hexS (sumB p.sums))] := if_neg c2
    simp [c2, fill, upd, okC]
    have hset := specSet_fx hE ⟨by8 "package", l⟩ (txtF (by8 "checksum") (hexS (sumB p.sums))) (by show l.length ≤ _; omega) (fun f hf => by rw [hl2 f hf]; simp) (by simp [txtF])
    rw [setF_app (by exact fun x hx => (hkey x hx).1)] at hset
    refine vcall_go hset (by simp [Tb.av, flds, Fld.av, txtF, hm2]) (by simp) (by simp) (by simp [a0, a3, hm2]) ?_
    simp [okC, putElem, upd, frA, frA.frL, hm2]
    have := specTbl_4 hE g name version src p A0 A3 a0 a3 (l ++ [txtF (by8 "checksum") (hexS (sumB p.sums))]) ⟨.no, true⟩ (.inr rfl) hg hk hs hz h1 h2 (by simp; omega) (fun f hf => by rcases List.mem_append.1 hf with h | h; exact hl2 f h; rw [List.mem_singleton.1 h]; rfl) (.lit (.bool b19)) (.lit (.bool true)) (hexS (sumB p.sums)) ⟨rfl, rfl, rfl, rfl⟩ fun x hx => by
      rcases List.mem_append.1 hx with h | h
      · exact (hkey x h).2
      · rw [List.mem_singleton.1 h]
        show by8 "checksum" ≠ by8 "dependencies"
        decide +kernel
    rw [e, ← List.append_assoc]
    exact this
theorem specTbl_fx (g : Gr) (name version : ByteArray) (p : Pk) (hg : g.packs.length ≤ 1048576) (hk : p.needs.length ≤ 1048576) (hs : ∀ k ∈ p.needs, k.size ≤ 1099511627776) {z : Nat} (hz : z = 2 ∨ p.sums = []) (h1 : p.sums.length ≤ 1048576) (h2 : ∀ s ∈ p.sums, s.bytes.size ≤ 1099511627) : Fx E 15 [] [.agg g.av, .lit (.string name), .lit (.string version), .agg [.lit (.string p.name), .lit (.string p.version), .lit (.string p.source), .sl ro z (p.sums.map fun x => .agg x.av), .lit (.bool p.dev), .sl ro 1 (p.needs.map fun x => .lit (.string x))]] [] (.agg [.lit (.string (by8 "package")), .sl ⟨.no, true⟩ 4 (flds (fldsP g name version p))]) := by
  have hga : g.av = [.sl ro 1 (g.top.map fun x => .lit (.string x)), .sl ro 6 (g.packs.map fun x => .agg x.av)] := rfl
  have e0 : flds (fld0 name version) = [.agg [.lit (.string (by8 "name")), .lit (.string name), .sl ro 1 [], .lit (.bool false)], .agg [.lit (.string (by8 "version")), .lit (.string version), .sl ro 1 [], .lit (.bool false)]] := rfl
  have k0 : ∀ x ∈ fld0 name version, x.key ≠ by8 "source" ∧ x.key ≠ by8 "checksum" ∧ x.key ≠ by8 "dependencies" := by
    intro x hx
    simp only [fld0, List.mem_cons, List.not_mem_nil, or_false] at hx
    rcases hx with rfl | rfl
    · show by8 "name" ≠ _ ∧ by8 "name" ≠ _ ∧ by8 "name" ≠ _
      decide +kernel
    · show by8 "version" ≠ _ ∧ by8 "version" ≠ _ ∧ by8 "version" ≠ _
      decide +kernel
  have l0 : ∀ x ∈ fld0 name version, x.list = [] := by
    intro x hx
    simp only [fld0, List.mem_cons, List.not_mem_nil, or_false] at hx
    rcases hx with rfl | rfl <;> rfl
  refine (is15.to hE).fx [] (by simp) rfl rfl ?_
  simp [v15, v15_1, hga, okC, putElem, upd, fill, pvals]
  simp [v15_2, frA, frA.frL]
  by_cases c1 : p.source = by8 ""
  · have e : fldS p = [] := if_pos c1
    simp [c1]
    have := specTbl_3 hE g name version (by8 "") p (.agg g.av) (.agg [.lit (.string p.name), .lit (.string p.version), .lit (.string (by8 "")), .sl ro z (p.sums.map fun x => .agg x.av), .lit (.bool p.dev), .sl ro 1 (p.needs.map fun x => .lit (.string x))]) ⟨rfl, rfl, rfl, rfl, rfl⟩ ⟨rfl, rfl, rfl, rfl, rfl⟩ (fld0 name version) ⟨.cl 960, true⟩ (.inl rfl) hg hk hs hz h1 h2 (by show 2 ≤ 100; omega) l0 false fun x hx => (k0 x hx).2
    rw [fldsP, e, List.append_nil, List.append_assoc]
    exact this
  · have e : fldS p = [txtF (by8 "source") p.source] := if_neg c1
    simp [c1, fill, upd, okC]
    have hset := specSet_fx hE ⟨by8 "package", fld0 name version⟩ (txtF (by8 "source") p.source) (by show 2 ≤ 1048576; omega) (fun f hf => by rw [l0 f hf]; simp) (by simp [txtF])
    rw [setF_app (by exact fun x hx => (k0 x hx).1)] at hset
    refine vcall_go hset (by simp [Tb.av, flds, Fld.av, txtF, fld0]) (by simp) (by simp) (by simp) ?_
    simp [okC, putElem, upd, frA, frA.frL]
    have := specTbl_3 hE g name version p.source p (.agg g.av) (.agg [.lit (.string p.name), .lit (.string p.version), .lit (.string p.source), .sl ro z (p.sums.map fun x => .agg x.av), .lit (.bool p.dev), .sl ro 1 (p.needs.map fun x => .lit (.string x))]) ⟨rfl, rfl, rfl, rfl, rfl⟩ ⟨rfl, rfl, rfl, rfl, rfl⟩ (fld0 name version ++ [txtF (by8 "source") p.source]) ⟨.no, true⟩ (.inr rfl) hg hk hs hz h1 h2 (by show 3 ≤ 100; omega) (fun f hf => by rcases List.mem_append.1 hf with h | h; exact l0 f h; rw [List.mem_singleton.1 h]; rfl) true fun x hx => by
      rcases List.mem_append.1 hx with h | h
      · exact (k0 x h).2
      · rw [List.mem_singleton.1 h]
        show by8 "source" ≠ by8 "checksum" ∧ by8 "source" ≠ by8 "dependencies"
        decide +kernel
    rw [fldsP, e, List.append_assoc]
    exact this
omit hE in
/-- the tables of a graph -/
def rootP (g : Gr) : Pk := ⟨by8 "", by8 "", by8 "", [], false, g.top⟩
omit hE in
def tb0 : Tb := ⟨by8 "", [txtF (by8 "version") (by8 "4")]⟩
omit hE in
def tbP (g : Gr) (name version : ByteArray) (p : Pk) : Tb := ⟨by8 "package", fldsP g name version p⟩
omit hE in
def tbsG (g : Gr) (n : Nat) : List Tb := tb0 :: tbP g (by8 "root") (by8 "0.0.0") (rootP g) :: (g.packs.take n).map fun p => tbP g p.name p.version p
omit hE in
def tbs (l : List Tb) : List AV := l.map fun x => .agg x.av
omit hE in
theorem tbs_app (a b : List Tb) : tbs (a ++ b) = tbs a ++ tbs b := by simp [tbs]
omit hE in
theorem tbsG_next {g : Gr} {i : Nat} (h : i < g.packs.length) : tbsG g (i + 1) = tbsG g i ++ [tbP g g.packs[i].name g.packs[i].version g.packs[i]] := by
  unfold tbsG
  have e : g.packs.take (i + 1) = g.packs.take i ++ [g.packs[i]] := by rw [List.take_add_one, List.getElem?_eq_getElem h]; rfl
  rw [e, List.map_append]
  rfl
omit hE in
theorem tbs_len (g : Gr) {i : Nat} (h : i ≤ g.packs.length) : (tbs (tbsG g i)).length = i + 2 := by simp [tbs, tbsG]; omega
set_option maxHeartbeats 1000000 in
theorem specTables_fx (g : Gr) (h : g.small) : Fx E 5 [] [.agg g.av] [] (.sl ⟨.no, true⟩ 2 (tbs (tbsG g g.packs.length))) := by
  obtain ⟨⟨s1, s2⟩, s3, s4⟩ := h
  have hga : g.av = [.sl ro 1 (g.top.map fun x => .lit (.string x)), .sl ro 6 (g.packs.map fun x => .agg x.av)] := rfl
  refine (is5.to hE).fx [] (by simp) rfl rfl ?_
  simp [v5, hga, okC, putElem, upd, fill, pvals, frA, frA.frL]
  have hr := specTbl_fx hE g (by8 "root") (by8 "0.0.0") (rootP g) s3 s1 (fun k hk => by have := s2 k hk; omega) (z := 1) (.inr rfl) (by show 0 ≤ _; omega) (fun s hs => by cases hs)
  refine vcall_go hr (by simp [hga, rootP]) (by simp) (by simp) (by simp) ?_
  have hro : ro.ap = .no := rfl
  simp [okC, frA, frA.frL, AS.dem, mapV, dem, dem.demL, hro]
  refine X_loop (τ := Nat) (fun i => ⟨[(1, .ptr 1000000000001 0 0), (3, .sl ⟨.cl 512, true⟩ 2 (tbs (tbsG g i))), (4, .lit (.int .i64 i))], [(1000000000001, [.agg [.sl ro 1 (g.top.map fun x => .lit (.string x)), .sl ro 6 (g.packs.map fun x => .agg x.av)]])]⟩) (fun i => i ≤ g.packs.length) (fun i => g.packs.length - i) 0 (by simp) (Wk.both (by simp [wkL, wkV.same]; exact .inl rfl) (by simp [wkB])) ?_
  rintro i hi
  have hl := tbs_len g hi
  simp
  by_cases hlt : i < g.packs.length
  · have hav : g.packs[i].av = [.lit (.string g.packs[i].name), .lit (.string g.packs[i].version), .lit (.string g.packs[i].source), .sl ro 2 (g.packs[i].sums.map fun x => .agg x.av), .lit (.bool g.packs[i].dev), .sl ro 1 (g.packs[i].needs.map fun x => .lit (.string x))] := rfl
    obtain ⟨q1, q2, q3, ⟨q4, q5⟩, _, q6, q7⟩ := s4 _ (List.getElem_mem hlt)
    have hn := tbsG_next hlt
    simp [hlt, hav, mkF, mkF.mkL]
    refine vcall_go (specTbl_fx hE g g.packs[i].name g.packs[i].version g.packs[i] s3 q6 (fun k hk => by have := q7 k hk; omega) (.inl rfl) q4 (fun s hs => by have := (q5 s hs).2; omega)) (by simp [hga]) (by simp) (by simp) (by simp) ?_
    simp [okC, frA, frA.frL, AS.dem, mapV, dem, dem.demL, hro, hl]
    exact ⟨by omega, i + 1, by omega, by omega, Wk.both (by rw [hn, tbs_app]; simp [wkL, wkV.same]; rw [wrapN (by omega)]; exact ⟨.inl rfl, .inl (by simp)⟩) (by simp [wkB])⟩
  · obtain rfl : i = g.packs.length := by omega
    simp
    exact Fin_ret rfl rfl
end
end Go.Proofs.Yticamghmcikfcaa.Vm
