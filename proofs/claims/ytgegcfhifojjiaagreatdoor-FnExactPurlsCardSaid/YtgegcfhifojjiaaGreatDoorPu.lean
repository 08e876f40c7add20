/- All package URLs: both sides. -/
import Derived.Test.YtgegcfhifojjiaaGreatDoorGg
import Derived.Test.YtgegcfhifojjiaaGreatDoorPi
namespace Go.Proofs.YtgegcfhifojjiaaGreatDoor.Vm
open Go Go.RowKit
set_option linter.unusedVariables false
set_option linter.unusedSimpArgs false
def v31 : VC := .seq (.reg false [⟨some 2, .box 2 (.t 0), none⟩, ⟨some 4, .as (.c (.sl ⟨.nl, true⟩ 1 [])), none⟩] [4]) (.seq (.reg false [⟨some 7, .bsl 1 [], none⟩, ⟨some 5, .as (.t 7), none⟩] [7]) (.seq (.seq (.reg false [⟨some 6, .as (.c (.lit (.int .i64 0))), none⟩] []) (.block 0 (.loop (.seq (.seq (.reg false [⟨some 8, .mv (.t 6), none⟩, ⟨some 9, .fa 1 (.t 2), none⟩, ⟨some 10, .ld false 1 (.t 9), none⟩, ⟨some 11, .len false (.t 10), none⟩, ⟨some 12, .bin .lss 0 (.t 8) (.t 11), none⟩, ⟨some 13, .mv (.t 12), none⟩, ⟨some 14, .ld true 2 (.t 2), (some (13, true))⟩, ⟨some 15, .call false 71 [(.t 14)], (some (13, true))⟩, ⟨some 16, .pick (.t 13) (.t 15) (.c (.lit (.bool false))), none⟩, ⟨some 17, .mv (.t 16), none⟩, ⟨some 18, .mv (.t 1), (some (17, true))⟩, ⟨some 19, .call false 40 [(.t 18)], (some (17, true))⟩, ⟨some 20, .bin .neq 0 (.t 19) (.c (.lit (.string (by8 "")))), (some (17, true))⟩, ⟨some 21, .pick (.t 17) (.t 20) (.c (.lit (.bool false))), none⟩] [8, 9, 10, 11, 12, 13, 14, 15, 16, 17, 18, 19, 20]) (.cond (.t 21) (.skip) (.exit 0))) (.seq (.block 1 (.reg true [⟨some 24, .mv (.t 5), none⟩, ⟨some 25, .mv (.t 1), none⟩, ⟨some 26, .fa 1 (.t 2), none⟩, ⟨some 27, .ld false 1 (.t 26), none⟩, ⟨some 28, .mv (.t 6), none⟩, ⟨some 29, .ia 6 (.t 27) (.t 28), none⟩, ⟨some 30, .fa 0 (.t 29), none⟩, ⟨some 31, .ld false 1 (.t 30), none⟩, ⟨some 32, .fa 1 (.t 2), none⟩, ⟨some 33, .ld false 1 (.t 32), none⟩, ⟨some 34, .mv (.t 6), none⟩, ⟨some 35, .ia 6 (.t 33) (.t 34), none⟩, ⟨some 36, .fa 1 (.t 35), none⟩, ⟨some 37, .ld false 1 (.t 36), none⟩, ⟨some 38, .call true 11 [(.t 25), (.t 31), (.t 37)], none⟩, ⟨some 39, .bsl 1 [(.t 38)], none⟩, ⟨some 40, .app 1 16 (.t 24) (.t 39), none⟩, ⟨some 5, .as (.t 40), none⟩] [24, 25, 26, 27, 28, 29, 30, 31, 32, 33, 34, 35, 36, 37, 38, 39, 40])) (.reg false [⟨some 22, .mv (.t 6), none⟩, ⟨some 23, .bin .add 0 (.t 22) (.c (.lit (.int .i64 1))), none⟩, ⟨some 6, .as (.t 23), none⟩] [22, 23])))))) (.seq (.reg false [⟨some 41, .mv (.t 5), none⟩, ⟨some 4, .as (.t 41), none⟩] [41]) (.ret))))
theorem is31 : Is Go.Proofs.Tryz.prog 31 42 v31 [.t 4] := ⟨Go.Proofs.Tryz.f31, dl [(0, [4]), (1, [7]), (3, [8, 9, 10, 11, 12, 13, 14, 15, 16, 17, 18, 19, 20]), (5, [24, 25, 26, 27, 28, 29, 30, 31, 32, 33, 34, 35, 36, 37, 38, 39, 40]), (4, [22, 23]), (6, [41])], Go.Proofs.Tryz.func31, by kernel_rfl, by kernel_rfl, by kernel_rfl, by kernel_rfl⟩
def v32 : VC := .seq (.reg false [⟨some 2, .box 2 (.t 0), none⟩, ⟨some 4, .as (.c (.sl ⟨.nl, true⟩ 1 [])), none⟩] [4]) (.seq (.seq (.reg false [⟨some 8, .mv (.t 1), none⟩, ⟨some 9, .call false 44 [(.t 8)], none⟩, ⟨some 10, .bin .eql 0 (.t 9) (.c (.lit (.string (by8 "")))), none⟩, ⟨some 11, .mv (.t 10), none⟩, ⟨some 12, .ld true 2 (.t 2), (some (11, false))⟩, ⟨some 13, .call false 68 [(.t 12)], (some (11, false))⟩, ⟨some 14, .un .not (.t 13), (some (11, false))⟩, ⟨some 15, .pick (.t 11) (.c (.lit (.bool true))) (.t 14), none⟩] [8, 9, 10, 11, 12, 13, 14]) (.cond (.t 15) (.seq (.reg false [⟨some 4, .as (.c (.sl ⟨.nl, true⟩ 1 [])), none⟩] []) (.ret)) (.skip))) (.seq (.reg false [⟨some 16, .bsl 1 [], none⟩, ⟨some 5, .as (.t 16), none⟩] [16]) (.seq (.seq (.reg false [⟨some 17, .fa 1 (.t 2), none⟩, ⟨some 18, .ld false 1 (.t 17), none⟩, ⟨some 19, .len false (.t 18), none⟩, ⟨some 20, .mv (.c (.lit (.int .i64 0))), none⟩] [17]) (.block 0 (.loop (.seq (.reg false [⟨some 21, .bin .lss 0 (.t 20) (.t 19), none⟩] []) (.seq (.cond (.t 21) (.skip) (.exit 0)) (.seq (.block 1 (.seq (.reg false [⟨some 22, .ia 6 (.t 18) (.t 20), none⟩, ⟨some 23, .ld true 6 (.t 22), none⟩, ⟨some 7, .alloc (.agg [(.lit (.string (by8 ""))), (.lit (.string (by8 ""))), (.lit (.string (by8 ""))), (.sl ⟨.nl, true⟩ 1 []), (.lit (.bool false)), (.sl ⟨.nl, true⟩ 1 [])]), none⟩, ⟨none, .st 6 (.t 7) (.t 23), none⟩] [22, 23]) (.reg false [⟨some 24, .mv (.t 5), none⟩, ⟨some 25, .mv (.t 1), none⟩, ⟨some 26, .fa 0 (.t 7), none⟩, ⟨some 27, .ld false 1 (.t 26), none⟩, ⟨some 28, .fa 1 (.t 7), none⟩, ⟨some 29, .ld false 1 (.t 28), none⟩, ⟨some 30, .call false 12 [(.t 25), (.t 27), (.t 29)], none⟩, ⟨some 31, .bsl 1 [(.t 30)], none⟩, ⟨some 32, .app 1 16 (.t 24) (.t 31), none⟩, ⟨some 5, .as (.t 32), none⟩] [24, 25, 26, 27, 28, 29, 30, 31, 32]))) (.reg false [⟨some 33, .bin .add 0 (.t 20) (.c (.lit (.int .i64 1))), none⟩, ⟨some 20, .mv (.t 33), none⟩] [33]))))))) (.seq (.reg false [⟨some 34, .mv (.t 5), none⟩, ⟨some 4, .as (.t 34), none⟩] [34]) (.ret)))))
theorem is32 : Is Go.Proofs.Tryz.prog 32 35 v32 [.t 4] := ⟨Go.Proofs.Tryz.f32, dl [(0, [4]), (1, [8, 9, 10, 11, 12, 13, 14]), (3, [16]), (4, [17]), (6, [22, 23]), (7, [24, 25, 26, 27, 28, 29, 30, 31, 32]), (8, [33]), (9, [34])], Go.Proofs.Tryz.func32, by kernel_rfl, by kernel_rfl, by kernel_rfl, by kernel_rfl⟩
noncomputable def purlsTo (k : Int) (l : List Pk) (n : Nat) : List ByteArray := (l.take n).map fun p => purlT k p.name p.version
noncomputable def purls (k : Int) (g : Gr) : List ByteArray := if graphOk g = true ∧ kindT k ≠ by8 "" then purlsTo k g.packs g.packs.length else []
theorem purlsTo_succ {k : Int} {l : List Pk} {n : Nat} (h : n < l.length) : purlsTo k l (n + 1) = purlsTo k l n ++ [purlT k l[n].name l[n].version] := by
  unfold purlsTo
  rw [List.take_succ_eq_append_getElem h, List.map_append]; rfl
theorem purlsTo_len {k : Int} {l : List Pk} {n : Nat} (h : n ≤ l.length) : (purlsTo k l n).length = n := by simp [purlsTo]; omega
theorem purls_len (k : Int) (g : Gr) : (purls k g).length ≤ g.packs.length := by
  unfold purls; split
  · rw [purlsTo_len (Nat.le_refl _)]; omega
  · simp
noncomputable def purlsRes (k : Int) (g : Gr) : AV := .sl ⟨.no, true⟩ 1 ((purls k g).map fun x => .lit (.string x))
theorem fin_row {n sz : Nat} {xs : List AV} {s : AS} {r : AV} {ap : Ap} (h : s.get n = .sl ⟨ap, true⟩ sz xs) (hr : r = .sl ⟨.no, true⟩ sz xs) : Fin [.t n] r [] .ret s := Fin_wkz (s1 := ⟨[(n, .sl ⟨.no, true⟩ sz xs)], []⟩) (Wk.both (by simp [wkL, h]; exact wkV_no ap true sz xs) (by simp [wkB])) (r' := .sl ⟨.no, true⟩ sz xs) (by simp [resVs, resV, oneOr, AS.get, look]) (by rw [hr]; rfl)
section
variable {E : Env} (hE : E.P = Go.Proofs.Tryz.prog) (hZ : ∀ w, E.K w → KZ w)
include hE
set_option maxHeartbeats 4000000 in
theorem specPurls_fx (g : Gr) (hg : g.small) (k : Int) : Fx E 31 [] [.agg g.av, .lit (.int .i64 k)] [] (purlsRes k g) := by
  have hg0 := hg
  obtain ⟨⟨hta, htb⟩, hl, hx⟩ := hg
  have hgv : g.av = [.sl ro 1 (g.top.map fun x => .lit (.string x)), .sl ro 6 (g.packs.map fun x => .agg x.av)] := rfl
  refine (is31.to hE).fx [] (by simp) rfl rfl ?_
  simp [v31, hgv, okC]
  refine X_loop (τ := Nat) (fun i => ⟨[(1, .lit (.int .i64 k)), (2, .ptr 1002 0 0), (5, .sl ⟨.cl 448, true⟩ 1 ((purlsTo k g.packs i).map fun x => .lit (.string x))), (6, .lit (.int .i64 i))], [(1002, [.agg g.av])]⟩) (fun i => i ≤ g.packs.length ∧ (i = 0 ∨ (graphOk g = true ∧ kindT k ≠ by8 ""))) (fun i => g.packs.length - i) 0 ⟨by omega, .inl rfl⟩ (Wk.both (by simp [wkL, wkV.same, purlsTo, frA.frL]) (by simp [wkB, hgv])) ?_
  rintro i ⟨hi, hok⟩
  have hpl := purlsTo_len (k := k) hi
  simp [hgv]
  have fin0 : purlsTo k g.packs 0 = [] := rfl
  by_cases hlt : i < g.packs.length
  · simp [hlt, hgv]
    refine vcall_go (specGraph_fx hE g hg0) (by simp [hgv, ro]) (by simp) (by simp) (by simp) ?_
    simp
    cases c0 : graphOk g
    · have hi0 : i = 0 := by rcases hok with h | h; exact h; rw [c0] at h; cases h.1
      subst hi0
      have hp : purls k g = [] := by rw [purls, if_neg (by rw [c0]; simp)]
      simp
      exact fin_row rfl (by rw [purlsRes, hp]; rfl)
    · simp
      refine vcall_go (specKind_fx hE k) (by simp) (by simp) (by simp) (by simp) ?_
      simp
      by_cases c1 : kindT k = by8 ""
      · have hi0 : i = 0 := by rcases hok with h | h; exact h; exact absurd c1 h.2
        subst hi0
        have hp : purls k g = [] := by rw [purls, if_neg (by rw [c1]; simp)]
        simp [c1]
        exact fin_row rfl (by rw [purlsRes, hp]; rfl)
      · have hps := hx _ (List.getElem_mem hlt)
        have hpv : g.packs[i].av = [.lit (.string g.packs[i].name), .lit (.string g.packs[i].version), .lit (.string g.packs[i].source), .sl ro 2 (g.packs[i].sums.map fun x => .agg x.av), .lit (.bool g.packs[i].dev), .sl ro 1 (g.packs[i].needs.map fun x => .lit (.string x))] := rfl
        simp [c1, hlt, hpv, mkF, mkF.mkL, ro]
        refine vcall_go (specPurl_fx hE k g.packs[i].name g.packs[i].version hps.1 hps.2.1) (by simp) (by simp) (by simp) (by simp) ?_
        simp [okC, frA, frA.frL, AS.dem, mapV, dem, dem.demL]
        refine ⟨by omega, i + 1, ⟨by omega, .inr c1⟩, by omega, Wk.both (by simp [wkL, wkV.same, purlsTo_succ hlt]; rw [wrap_i64 (by omega) (by omega)]; exact wkV.same _) (by simp [wkB, hgv, ro])⟩
  · obtain rfl : i = g.packs.length := by omega
    have hp : purls k g = purlsTo k g.packs g.packs.length := by
      unfold purls; split
      · rfl
      · rename_i h
        rcases hok with h2 | h2
        · rw [h2]; rfl
        · exact absurd h2 h
    simp
    exact fin_row rfl (by rw [purlsRes, hp])
set_option maxHeartbeats 4000000 in
include hZ in
theorem implPurls_fx (g : Gr) (hg : g.small) (k : Int) : Fx E 32 [] [.agg g.av, .lit (.int .i64 k)] [] (purlsRes k g) := by
  have hg0 := hg
  obtain ⟨⟨hta, htb⟩, hl, hx⟩ := hg
  have hgv : g.av = [.sl ro 1 (g.top.map fun x => .lit (.string x)), .sl ro 6 (g.packs.map fun x => .agg x.av)] := rfl
  refine (is32.to hE).fx [] (by simp) rfl rfl ?_
  simp [v32, hgv, okC]
  refine vcall_go (implKind_fx hE k) (by simp) (by simp) (by simp) (by simp) ?_
  simp
  by_cases c1 : kindT k = by8 ""
  · have hp : purls k g = [] := by rw [purls, if_neg (by rw [c1]; simp)]
    simp [c1]
    exact fin_row rfl (by rw [purlsRes, hp]; rfl)
  simp [c1]
  refine vcall_go (implGraph_fx hE hZ g hg0) (by simp [hgv, ro]) (by simp) (by simp) (by simp) ?_
  simp
  cases c0 : graphOk g
  · have hp : purls k g = [] := by rw [purls, if_neg (by rw [c0]; simp)]
    simp
    exact fin_row rfl (by rw [purlsRes, hp]; rfl)
  have hp : purls k g = purlsTo k g.packs g.packs.length := by rw [purls, if_pos ⟨c0, c1⟩]
  simp [mkF]
  refine X_loop (τ := Nat) (fun i => ⟨[(1, .lit (.int .i64 k)), (2, .ptr 1002 0 0), (5, .sl ⟨.cl 1024, true⟩ 1 ((purlsTo k g.packs i).map fun x => .lit (.string x))), (18, .sl ro 6 (g.packs.map fun x => .agg x.av)), (19, .lit (.int .i64 g.packs.length)), (20, .lit (.int .i64 i))], [(1002, [.agg g.av])]⟩) (fun i => i ≤ g.packs.length) (fun i => g.packs.length - i) 0 (by omega) (Wk.both (by simp [wkL, wkV.same, purlsTo, frA.frL, ro]) (by simp [wkB, hgv])) ?_
  intro i hi
  have hpl := purlsTo_len (k := k) hi
  simp [hgv]
  by_cases hlt : i < g.packs.length
  · have hps := hx _ (List.getElem_mem hlt)
    have hpv : g.packs[i].av = [.lit (.string g.packs[i].name), .lit (.string g.packs[i].version), .lit (.string g.packs[i].source), .sl ro 2 (g.packs[i].sums.map fun x => .agg x.av), .lit (.bool g.packs[i].dev), .sl ro 1 (g.packs[i].needs.map fun x => .lit (.string x))] := rfl
    simp [hlt, hpv, okC, putElem, upd, mkF, mkF.mkL, ro]
    refine vcall_go (implPurl_fx hE hZ k g.packs[i].name g.packs[i].version hps.1 hps.2.1) (by simp) (by simp) (by simp) (by simp) ?_
    simp [okC, frA, frA.frL, AS.dem, mapV, dem, dem.demL]
    refine ⟨by omega, i + 1, by omega, by omega, Wk.both (by simp [wkL, wkV.same, purlsTo_succ hlt]; rw [wrap_i64 (by omega) (by omega)]; exact wkV.same _) (by simp [wkB, hgv, ro])⟩
  · obtain rfl : i = g.packs.length := by omega
    simp
    exact fin_row rfl (by rw [purlsRes, hp])
end
end Go.Proofs.YtgegcfhifojjiaaGreatDoor.Vm
