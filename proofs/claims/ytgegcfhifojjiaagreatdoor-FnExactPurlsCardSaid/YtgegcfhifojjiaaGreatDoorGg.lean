/- Graphs: what a right graph is: both sides. -/
import Derived.Test.YtgegcfhifojjiaaGreatDoorGk
namespace Go.Proofs.YtgegcfhifojjiaaGreatDoor.Vm
open Go Go.RowKit
set_option linter.unusedVariables false
set_option linter.unusedSimpArgs false
theorem Pk.zero (p : Pk) : (AV.agg p.av).cells = p.av := rfl
section
variable {E : Env} (hE : E.P = Go.Proofs.Tryz.prog) (hZ : ∀ w, E.K w → KZ w)
include hE
set_option maxHeartbeats 2000000 in
theorem specKeys_fx (g : Gr) (hg : g.small) (ks : List ByteArray) (hk : ks.length ≤ 1048576) : Fx E 136 [] [.agg g.av, .sl ro 1 (ks.map fun x => .lit (.string x))] [] (.lit (.bool (keysOk g.packs ks))) := by
  have hgv : g.av = [.sl ro 1 (g.top.map fun x => .lit (.string x)), .sl ro 6 (g.packs.map fun x => .agg x.av)] := rfl
  refine (is136.to hE).fx [] (by simp) rfl rfl ?_
  simp [v136, hgv, okC]
  refine X_loop (τ := Nat) (fun i => ⟨[(1, .sl ro 1 (ks.map fun x => .lit (.string x))), (2, .ptr 1002 0 0), (5, .lit (.int .i64 i))], [(1002, [.agg g.av])]⟩) (fun i => i ≤ ks.length ∧ upTo (keyAt g.packs ks) i) (fun i => ks.length - i) 0 ⟨by omega, upTo.zero _⟩ (Wk.both (by simp [wkL, wkV.same]) (by simp [wkB, hgv])) ?_
  rintro i ⟨hi, hall⟩
  simp [hgv]
  by_cases hlt : i < ks.length
  · have no : keyAt g.packs ks i = false → keysOk g.packs ks = false := allN_false hlt
    have hat : keyAt g.packs ks i = (decide (0 ≤ findG g.packs ks[i]) && (decide (i = 0) || slt (ks.getD (i - 1) (by8 "")) ks[i])) := by rw [keyAt, getD_lt hlt]
    simp [hlt, ro, mkF]
    refine vcall_go (specFind_fx hE g hg ks[i]) (by simp [hgv, ro]) (by simp) (by simp) (by simp) ?_
    simp
    by_cases c1 : findG g.packs ks[i] < 0
    · have := no (by rw [hat]; simp; omega)
      simp [c1]
      exact Fin_ret rfl (by rw [this]; rfl)
    · have c1' : 0 ≤ findG g.packs ks[i] := by omega
      simp [c1]
      rcases Nat.eq_zero_or_pos i with rfl | h0
      · have hn := hall.next (by rw [hat]; simp [c1'])
        simp
        exact ⟨1, ⟨by omega, hn⟩, by omega, Wk.both (by simp [wkL, wkV.same, ro]; rw [wrap_i64 (by omega) (by omega)]; exact wkV.same _) (by simp [wkB, hgv, ro])⟩
      · obtain ⟨k, rfl⟩ : ∃ k, i = k + 1 := ⟨i - 1, by omega⟩
        have hk : k < ks.length := by omega
        have c2 : (0 : Int) < (k : Int) + 1 := by omega
        have c4 : (0 : Int) ≤ (k : Int) + 1 := by omega
        have c5 : ((k : Int) + 1).toNat = k + 1 := by omega
        have hw : IntKind.i64.wrap (k : Int) = k := wrap_i64 (by omega) (by omega)
        rw [show k + 1 - 1 = k by omega, getD_lt hk] at hat
        simp [c2, c4, c5, hw, hk, hlt, mkF, ro]
        cases c3 : slt ks[k] ks[k + 1]
        · have := no (by rw [hat, c3]; simp)
          simp
          exact Fin_ret rfl (by rw [this]; rfl)
        · simp
          exact ⟨k + 1 + 1, ⟨by omega, hall.next (by rw [hat, c3]; simp [c1'])⟩, by omega, Wk.both (by simp [wkL, wkV.same, ro]; rw [wrap_i64 (by omega) (by omega)]; exact wkV.same _) (by simp [wkB, hgv, ro])⟩
  · obtain rfl : i = ks.length := by omega
    simp
    exact Fin_ret rfl (by rw [keysOk, hall.all]; rfl)
set_option maxHeartbeats 2000000 in
theorem implKeys_fx (g : Gr) (hg : g.small) (ks : List ByteArray) (hk : ks.length ≤ 1048576) : Fx E 133 [] [.agg g.av, .sl ro 1 (ks.map fun x => .lit (.string x))] [] (.lit (.bool (keysOk g.packs ks))) := by
  have hgv : g.av = [.sl ro 1 (g.top.map fun x => .lit (.string x)), .sl ro 6 (g.packs.map fun x => .agg x.av)] := rfl
  refine (is133.to hE).fx [] (by simp) rfl rfl ?_
  simp [v133, hgv, okC]
  refine X_loop (τ := Nat) (fun i => ⟨[(1, .sl ro 1 (ks.map fun x => .lit (.string x))), (2, .ptr 1002 0 0), (7, .sl ro 1 (ks.map fun x => .lit (.string x))), (8, .lit (.int .i64 ks.length)), (9, .lit (.int .i64 i))], [(1002, [.agg g.av])]⟩) (fun i => i ≤ ks.length ∧ upTo (keyAt g.packs ks) i) (fun i => ks.length - i) 0 ⟨by omega, upTo.zero _⟩ (Wk.both (by simp [wkL, wkV.same]) (by simp [wkB, hgv])) ?_
  rintro i ⟨hi, hall⟩
  simp [hgv]
  by_cases hlt : i < ks.length
  · have no : keyAt g.packs ks i = false → keysOk g.packs ks = false := allN_false hlt
    have hat : keyAt g.packs ks i = (decide (0 ≤ findG g.packs ks[i]) && (decide (i = 0) || slt (ks.getD (i - 1) (by8 "")) ks[i])) := by rw [keyAt, getD_lt hlt]
    simp [hlt, ro, mkF]
    refine vcall_go (implFind_fx hE g hg ks[i]) (by simp [hgv, ro]) (by simp) (by simp) (by simp) ?_
    simp
    by_cases c1 : findG g.packs ks[i] < 0
    · have := no (by rw [hat]; simp; omega)
      simp [c1]
      exact Fin_ret rfl (by rw [this]; rfl)
    · have c1' : 0 ≤ findG g.packs ks[i] := by omega
      simp [c1]
      rcases Nat.eq_zero_or_pos i with rfl | h0
      · have hn := hall.next (by rw [hat]; simp [c1'])
        simp
        exact ⟨1, ⟨by omega, hn⟩, by omega, Wk.both (by simp [wkL, wkV.same, ro]; rw [wrap_i64 (by omega) (by omega)]; exact wkV.same _) (by simp [wkB, hgv, ro])⟩
      · obtain ⟨k, rfl⟩ : ∃ k, i = k + 1 := ⟨i - 1, by omega⟩
        have hk : k < ks.length := by omega
        have c2 : (0 : Int) < (k : Int) + 1 := by omega
        have hw : IntKind.i64.wrap (k : Int) = k := wrap_i64 (by omega) (by omega)
        rw [show k + 1 - 1 = k by omega, getD_lt hk] at hat
        simp [c2, hw, hk, mkF, ro]
        rw [geq_slt]
        cases c3 : slt ks[k] ks[k + 1]
        · have := no (by rw [hat, c3]; simp)
          simp
          exact Fin_ret rfl (by rw [this]; rfl)
        · simp
          exact ⟨k + 1 + 1, ⟨by omega, hall.next (by rw [hat, c3]; simp [c1'])⟩, by omega, Wk.both (by simp [wkL, wkV.same, ro]; rw [wrap_i64 (by omega) (by omega)]; exact wkV.same _) (by simp [wkB, hgv, ro])⟩
  · obtain rfl : i = ks.length := by omega
    simp
    exact Fin_ret rfl (by rw [keysOk, hall.all]; rfl)
set_option maxHeartbeats 4000000 in
theorem specGraph_fx (g : Gr) (hg : g.small) : Fx E 71 [] [.agg g.av] [] (.lit (.bool (graphOk g))) := by
  have hg0 := hg
  obtain ⟨⟨hta, htb⟩, hl, hx⟩ := hg
  have hgv : g.av = [.sl ro 1 (g.top.map fun x => .lit (.string x)), .sl ro 6 (g.packs.map fun x => .agg x.av)] := rfl
  refine (is71.to hE).fx [] (by simp) rfl rfl ?_
  simp [v71, hgv, okC]
  refine X_loop (τ := Nat) (fun i => ⟨[(1, .ptr 1001 0 0), (3, .lit (.int .i64 i))], [(1001, [.agg g.av])]⟩) (fun i => i ≤ g.packs.length ∧ upTo (packAt g.packs) i) (fun i => g.packs.length - i) 0 ⟨by omega, upTo.zero _⟩ (Wk.both (by simp [wkL, wkV.same]) (by simp [wkB, hgv])) ?_
  rintro i ⟨hi, hall⟩
  simp [hgv]
  by_cases hlt : i < g.packs.length
  · have hps := hx _ (List.getElem_mem hlt)
    have hpn := hps.2.2.2.2.2.1
    have no : packAt g.packs i = false → graphOk g = false := fun h => by rw [graphOk, allN_false hlt h, Bool.false_and, Bool.false_and]
    have hat : packAt g.packs i = (packOk g.packs[i] && (decide (i = 0) || slt (keyOf (g.packs.getD (i - 1) pk0)) (keyOf g.packs[i])) && keysOk g.packs g.packs[i].needs) := by rw [packAt, getD_lt hlt]
    have ht : List.take 6 g.packs[i].av = g.packs[i].av := rfl
    have hpv : g.packs[i].av = [.lit (.string g.packs[i].name), .lit (.string g.packs[i].version), .lit (.string g.packs[i].source), .sl ro 2 (g.packs[i].sums.map fun x => .agg x.av), .lit (.bool g.packs[i].dev), .sl ro 1 (g.packs[i].needs.map fun x => .lit (.string x))] := rfl
    simp [hlt, Pk.len, ht]
    refine vcall_go (specPack_fx hE g.packs[i] hps) (by simp [Pk.pl]) (by simp) (by simp) (by simp) ?_
    simp
    cases c1 : packOk g.packs[i]
    · have := no (by rw [hat, c1]; rfl)
      simp
      exact Fin_ret rfl (by rw [this]; rfl)
    simp [hlt, Pk.len, ht, hpv, mkF, ro]
    refine vcall_go (specKeys_fx hE g hg0 g.packs[i].needs hpn) (by simp [hgv, ro]) (by simp) (by simp) (by simp) ?_
    simp
    cases c2 : keysOk g.packs g.packs[i].needs
    · have := no (by rw [hat, c2]; simp)
      simp
      exact Fin_ret rfl (by rw [this]; rfl)
    simp
    rcases Nat.eq_zero_or_pos i with rfl | h0
    · have hn := hall.next (by rw [hat]; simp [c1, c2])
      simp
      exact ⟨1, ⟨by omega, hn⟩, by omega, Wk.both (by simp [wkL, wkV.same, ro]; rw [wrap_i64 (by omega) (by omega)]; exact wkV.same _) (by simp [wkB, hgv, ro])⟩
    · obtain ⟨k, rfl⟩ : ∃ k, i = k + 1 := ⟨i - 1, by omega⟩
      have hk : k < g.packs.length := by omega
      have ht2 : List.take 6 g.packs[k].av = g.packs[k].av := rfl
      have c3 : (0 : Int) < (k : Int) + 1 := by omega
      have c4 : (0 : Int) ≤ (k : Int) + 1 := by omega
      have c5 : ((k : Int) + 1).toNat = k + 1 := by omega
      have hw : IntKind.i64.wrap (k : Int) = k := wrap_i64 (by omega) (by omega)
      rw [show k + 1 - 1 = k by omega, getD_lt hk] at hat
      simp [c3, c4, c5, hw, hk, hlt, Pk.len, ht, ht2]
      refine vcall_go (specKey_fx hE g.packs[k] (hx _ (List.getElem_mem hk))) (by simp [Pk.pl]) (by simp) (by simp) (by simp) ?_
      simp [c3, c4, c5, hw, hk, hlt, Pk.len, ht, ht2]
      refine vcall_go (specKey_fx hE g.packs[k + 1] hps) (by simp [Pk.pl]) (by simp) (by simp) (by simp) ?_
      simp
      cases c6 : slt (keyOf g.packs[k]) (keyOf g.packs[k + 1])
      · have := no (by rw [hat, c6]; simp)
        simp
        exact Fin_ret rfl (by rw [this]; rfl)
      · simp
        exact ⟨k + 1 + 1, ⟨by omega, hall.next (by rw [hat, c6]; simp [c1, c2])⟩, by omega, Wk.both (by simp [wkL, wkV.same, ro]; rw [wrap_i64 (by omega) (by omega)]; exact wkV.same _) (by simp [wkB, hgv, ro])⟩
  · obtain rfl : i = g.packs.length := by omega
    have hpa := hall.all
    simp
    by_cases c1 : (g.packs.length : Int) ≤ 40
    · simp [c1]
      refine vcall_go (specKeys_fx hE g hg0 g.top hta) (by simp [hgv, ro]) (by simp) (by simp) (by simp) ?_
      simp
      exact Fin_ret rfl (by rw [graphOk, hpa, decide_eq_true c1]; simp [reC])
    · simp [c1]
      exact Fin_ret rfl (by rw [graphOk, decide_eq_false c1]; simp [reC])
include hZ in
set_option maxHeartbeats 4000000 in
theorem implGraph_fx (g : Gr) (hg : g.small) : Fx E 68 [] [.agg g.av] [] (.lit (.bool (graphOk g))) := by
  have hg0 := hg
  obtain ⟨⟨hta, htb⟩, hl, hx⟩ := hg
  have hgv : g.av = [.sl ro 1 (g.top.map fun x => .lit (.string x)), .sl ro 6 (g.packs.map fun x => .agg x.av)] := rfl
  refine (is68.to hE).fx [] (by simp) rfl rfl ?_
  simp [v68, hgv, okC]
  refine X_loop (τ := Nat) (fun i => ⟨[(1, .ptr 1001 0 0), (6, .sl ro 6 (g.packs.map fun x => .agg x.av)), (7, .lit (.int .i64 g.packs.length)), (8, .lit (.int .i64 i))], [(1001, [.agg g.av])]⟩) (fun i => i ≤ g.packs.length ∧ upTo (packAt g.packs) i) (fun i => g.packs.length - i) 0 ⟨by omega, upTo.zero _⟩ (Wk.both (by simp [wkL, wkV.same]) (by simp [wkB, hgv])) ?_
  rintro i ⟨hi, hall⟩
  simp [hgv]
  by_cases hlt : i < g.packs.length
  · have hps := hx _ (List.getElem_mem hlt)
    have hpn := hps.2.2.2.2.2.1
    have no : packAt g.packs i = false → graphOk g = false := fun h => by rw [graphOk, allN_false hlt h, Bool.false_and, Bool.false_and]
    have hat : packAt g.packs i = (packOk g.packs[i] && (decide (i = 0) || slt (keyOf (g.packs.getD (i - 1) pk0)) (keyOf g.packs[i])) && keysOk g.packs g.packs[i].needs) := by rw [packAt, getD_lt hlt]
    have ht : List.take 6 g.packs[i].av = g.packs[i].av := rfl
    have hpv : g.packs[i].av = [.lit (.string g.packs[i].name), .lit (.string g.packs[i].version), .lit (.string g.packs[i].source), .sl ro 2 (g.packs[i].sums.map fun x => .agg x.av), .lit (.bool g.packs[i].dev), .sl ro 1 (g.packs[i].needs.map fun x => .lit (.string x))] := rfl
    simp [hlt, Pk.len, ht, hpv, okC, putElem, upd, mkF, mkF.mkL, ro]
    refine vcall_go (implPack_fx hE hZ g.packs[i] hps) (by simp [hpv, ro]) (by simp) (by simp) (by simp) ?_
    simp
    cases c1 : packOk g.packs[i]
    · have := no (by rw [hat, c1]; rfl)
      simp
      exact Fin_ret rfl (by rw [this]; rfl)
    simp
    rcases Nat.eq_zero_or_pos i with rfl | h0
    · simp
      refine vcall_go (implKeys_fx hE g hg0 g.packs[0].needs hpn) (by simp [hgv, ro]) (by simp) (by simp) (by simp) ?_
      simp
      cases c2 : keysOk g.packs g.packs[0].needs
      · have := no (by rw [hat, c2]; simp)
        simp
        exact Fin_ret rfl (by rw [this]; rfl)
      have hn := hall.next (by rw [hat]; simp [c1, c2])
      simp
      exact ⟨1, ⟨by omega, hn⟩, by omega, Wk.both (by simp [wkL, wkV.same, ro]; rw [wrap_i64 (by omega) (by omega)]; exact wkV.same _) (by simp [wkB, hgv, ro])⟩
    · obtain ⟨k, rfl⟩ : ∃ k, i = k + 1 := ⟨i - 1, by omega⟩
      have hk : k < g.packs.length := by omega
      have ht2 : List.take 6 g.packs[k].av = g.packs[k].av := rfl
      have c3 : (0 : Int) < (k : Int) + 1 := by omega
      have hw : IntKind.i64.wrap (k : Int) = k := wrap_i64 (by omega) (by omega)
      rw [show k + 1 - 1 = k by omega, getD_lt hk] at hat
      simp [c3, hw, hk, Pk.len, ht2]
      refine vcall_go (implKey_fx hE g.packs[k + 1] hps) (by simp [hpv, ro]) (by simp) (by simp) (by simp) ?_
      simp [c3, hw, hk, Pk.len, ht2]
      refine vcall_go (implKey_fx hE g.packs[k] (hx _ (List.getElem_mem hk))) (by simp [Pk.pl]) (by simp) (by simp) (by simp) ?_
      simp
      rw [geq_slt]
      cases c6 : slt (keyOf g.packs[k]) (keyOf g.packs[k + 1])
      · have := no (by rw [hat, c6]; simp)
        simp
        exact Fin_ret rfl (by rw [this]; rfl)
      simp
      refine vcall_go (implKeys_fx hE g hg0 g.packs[k + 1].needs hpn) (by simp [hgv, ro]) (by simp) (by simp) (by simp) ?_
      simp
      cases c2 : keysOk g.packs g.packs[k + 1].needs
      · have := no (by rw [hat, c2]; simp)
        simp
        exact Fin_ret rfl (by rw [this]; rfl)
      · simp
        exact ⟨k + 1 + 1, ⟨by omega, hall.next (by rw [hat, c6]; simp [c1, c2])⟩, by omega, Wk.both (by simp [wkL, wkV.same, ro]; rw [wrap_i64 (by omega) (by omega)]; exact wkV.same _) (by simp [wkB, hgv, ro])⟩
  · obtain rfl : i = g.packs.length := by omega
    have hpa := hall.all
    simp
    by_cases c1 : (g.packs.length : Int) ≤ 40
    · simp [c1]
      refine vcall_go (implKeys_fx hE g hg0 g.top hta) (by simp [hgv, ro]) (by simp) (by simp) (by simp) ?_
      simp
      exact Fin_ret rfl (by rw [graphOk, hpa, decide_eq_true c1]; simp [reC])
    · simp [c1]
      exact Fin_ret rfl (by rw [graphOk, decide_eq_false c1]; simp [reC])
end
end Go.Proofs.YtgegcfhifojjiaaGreatDoor.Vm
