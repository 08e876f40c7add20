/- Package URLs: impl's side. -/
import Derived.Test.YtgegcfhifojjiaaGreatDoorPp
namespace Go.Proofs.YtgegcfhifojjiaaGreatDoor.Vm
open Go Go.RowKit
set_option linter.unusedVariables false
set_option linter.unusedSimpArgs false
def v12 : VC := .seq (.reg false [⟨some 6, .as (.c (.lit (.string (by8 "")))), none⟩] [6]) (.seq (.seq (.reg false [⟨some 10, .mv (.t 0), none⟩, ⟨some 11, .call false 44 [(.t 10)], none⟩, ⟨some 12, .bin .eql 0 (.t 11) (.c (.lit (.string (by8 "")))), none⟩, ⟨some 13, .mv (.t 12), none⟩, ⟨some 14, .mv (.t 1), (some (13, false))⟩, ⟨some 15, .call false 45 [(.t 14)], (some (13, false))⟩, ⟨some 16, .un .not (.t 15), (some (13, false))⟩, ⟨some 17, .pick (.t 13) (.c (.lit (.bool true))) (.t 16), none⟩, ⟨some 18, .mv (.t 17), none⟩, ⟨some 19, .mv (.t 2), (some (18, false))⟩, ⟨some 20, .call false 46 [(.t 19)], (some (18, false))⟩, ⟨some 21, .un .not (.t 20), (some (18, false))⟩, ⟨some 22, .pick (.t 18) (.c (.lit (.bool true))) (.t 21), none⟩] [10, 11, 12, 13, 14, 15, 16, 17, 18, 19, 20, 21]) (.cond (.t 22) (.seq (.reg false [⟨some 6, .as (.c (.lit (.string (by8 "")))), none⟩] []) (.ret)) (.skip))) (.seq (.reg false [⟨some 23, .mv (.t 1), none⟩, ⟨some 24, .call false 47 [(.t 23), (.c (.lit (.string (by8 "/"))))], none⟩, ⟨some 7, .as (.t 24), none⟩] [23, 24]) (.seq (.seq (.reg false [⟨some 25, .mv (.t 7), none⟩, ⟨some 26, .len false (.t 25), none⟩, ⟨some 27, .mv (.c (.lit (.int .i64 0))), none⟩] []) (.block 0 (.loop (.seq (.reg false [⟨some 28, .bin .lss 0 (.t 27) (.t 26), none⟩] []) (.seq (.cond (.t 28) (.skip) (.exit 0)) (.seq (.block 1 (.seq (.reg false [⟨some 29, .mv (.t 27), none⟩, ⟨some 30, .ia 1 (.t 25) (.t 27), none⟩, ⟨some 31, .ld false 1 (.t 30), none⟩, ⟨some 8, .as (.t 29), none⟩, ⟨some 9, .as (.t 31), none⟩] [29, 30, 31]) (.reg false [⟨some 32, .mv (.t 7), none⟩, ⟨some 33, .mv (.t 8), none⟩, ⟨some 34, .mv (.t 9), none⟩, ⟨some 35, .call false 48 [(.t 34)], none⟩, ⟨some 36, .ia 1 (.t 32) (.t 33), none⟩, ⟨none, .st 1 (.t 36) (.t 35), none⟩] [32, 33, 34, 35, 36]))) (.reg false [⟨some 37, .bin .add 0 (.t 27) (.c (.lit (.int .i64 1))), none⟩, ⟨some 27, .mv (.t 37), none⟩] [37]))))))) (.seq (.reg false [⟨some 38, .mv (.t 0), none⟩, ⟨some 39, .call false 44 [(.t 38)], none⟩, ⟨some 40, .bin .add 0 (.c (.lit (.string (by8 "pkg:")))) (.t 39), none⟩, ⟨some 41, .bin .add 0 (.t 40) (.c (.lit (.string (by8 "/")))), none⟩, ⟨some 42, .mv (.t 7), none⟩, ⟨some 43, .call false 49 [(.t 42), (.c (.lit (.string (by8 "/"))))], none⟩, ⟨some 44, .bin .add 0 (.t 41) (.t 43), none⟩, ⟨some 45, .bin .add 0 (.t 44) (.c (.lit (.string (by8 "@")))), none⟩, ⟨some 46, .mv (.t 2), none⟩, ⟨some 47, .call false 48 [(.t 46)], none⟩, ⟨some 48, .bin .add 0 (.t 45) (.t 47), none⟩, ⟨some 6, .as (.t 48), none⟩] [38, 39, 40, 41, 42, 43, 44, 45, 46, 47, 48]) (.ret)))))
theorem is12 : Is Go.Proofs.Tryz.prog 12 49 v12 [.t 6] := ⟨Go.Proofs.Tryz.f12, dl [(0, [6]), (1, [10, 11, 12, 13, 14, 15, 16, 17, 18, 19, 20, 21]), (3, [23, 24]), (6, [29, 30, 31]), (7, [32, 33, 34, 35, 36]), (8, [37]), (9, [38, 39, 40, 41, 42, 43, 44, 45, 46, 47, 48])], Go.Proofs.Tryz.func12, by kernel_rfl, by kernel_rfl, by kernel_rfl, by kernel_rfl⟩
/-- a row of texts, turned up to a place -/
def rowG (f : ByteArray → ByteArray) (l : List ByteArray) (i : Nat) : List AV := ((l.take i).map f ++ l.drop i).map fun x => .lit (.string x)
theorem rowG_zero (f : ByteArray → ByteArray) (l : List ByteArray) : rowG f l 0 = l.map fun x => .lit (.string x) := by simp [rowG]
theorem rowG_all (f : ByteArray → ByteArray) (l : List ByteArray) : rowG f l l.length = (l.map f).map fun x => .lit (.string x) := by simp [rowG]
theorem rowG_get {f : ByteArray → ByteArray} {l : List ByteArray} {i : Nat} (h : i < l.length) : (rowG f l i)[i]? = some (.lit (.string l[i])) := by
  unfold rowG
  rw [List.getElem?_map, List.getElem?_append_right (by simp; omega)]
  simp [Nat.min_eq_left (Nat.le_of_lt h), h]
theorem rowG_set {f : ByteArray → ByteArray} {l : List ByteArray} {i : Nat} (h : i < l.length) : (rowG f l i).set i (.lit (.string (f l[i]))) = rowG f l (i + 1) := by
  have e : ((l.take i).map f ++ l.drop i).set i (f l[i]) = (l.take (i + 1)).map f ++ l.drop (i + 1) := by
    have hz : ((l.take i).map f).length = i := by simp; omega
    rw [List.drop_eq_getElem_cons h, List.set_append_right _ _ (by omega), List.take_succ_eq_append_getElem h, hz, Nat.sub_self, List.set_cons_zero, List.map_append, List.map_cons, List.map_nil, List.append_assoc, List.singleton_append]
  unfold rowG
  rw [← e, List.map_set]
theorem rowG_len {f : ByteArray → ByteArray} {l : List ByteArray} {i : Nat} (h : i ≤ l.length) : (rowG f l i).length = l.length := by simp [rowG]; omega
theorem lits_strip (l : List ByteArray) : strip.stripL (l.map fun x => AV.lit (.string x)) = l.map fun x => AV.lit (.string x) := by
  induction l with
  | nil => rfl
  | cons x l ih => simp [strip.stripL, strip, ih]
theorem lits_dat (l : List ByteArray) : dat.datL (l.map fun x => AV.lit (.string x)) = true := by
  induction l with
  | nil => rfl
  | cons x l ih => simp [dat.datL, dat, ih]
theorem lits_res (l : List ByteArray) : resOk.resL (l.map fun x => AV.lit (.string x)) = true := by
  induction l with
  | nil => rfl
  | cons x l ih => simp [resOk.resL, resOk, ih]
theorem lits_noC (d : Nat) (l : List ByteArray) : noC.noL d (l.map fun x => AV.lit (.string x)) = true := by
  induction l with
  | nil => rfl
  | cons x l ih => simp [noC.noL, noC, ih]
theorem rowG_noC (d : Nat) (f : ByteArray → ByteArray) (l : List ByteArray) (i : Nat) : noC.noL d (rowG f l i) = true := lits_noC d _
theorem lits_relab (t : Nat) (b : Bool) (l : List ByteArray) : relab.relabL t b (l.map fun x => AV.lit (.string x)) = l.map fun x => AV.lit (.string x) := by
  induction l with
  | nil => rfl
  | cons x l ih => simp [relab.relabL, relab, ih]
section
variable {E : Env} (hE : E.P = Go.Proofs.Tryz.prog) (hZ : ∀ w, E.K w → KZ w)
include hE hZ
set_option maxHeartbeats 1000000 in
theorem implPurl_fx (k : Int) (name ver : ByteArray) (hn : name.size ≤ 1048576) (hv : ver.size ≤ 1048576) : Fx E 12 [] [.lit (.int .i64 k), .lit (.string name), .lit (.string ver)] [] (.lit (.string (purlT k name ver))) := by
  refine (is12.to hE).fx [] (by simp) rfl rfl ?_
  simp [v12]
  refine vcall_go (implKind_fx hE k) (by simp) (by simp) (by simp) (by simp) ?_
  simp
  by_cases c1 : kindT k = by8 ""
  · simp [c1]
    exact Fin_ret rfl (by simp [purlT, c1, reC])
  simp [c1]
  refine vcall_go (implName_fx hE hZ name (by omega)) (by simp) (by simp) (by simp) (by simp) ?_
  simp
  cases c2 : nameOk name
  · simp
    exact Fin_ret rfl (by simp [purlT, c2, reC])
  simp
  refine vcall_go (isVersion_fx hE hZ ver (by omega)) (by simp) (by simp) (by simp) (by simp) ?_
  simp
  cases c3 : isVer ver
  · simp
    exact Fin_ret rfl (by simp [purlT, c3, reC])
  simp
  have e47 : by8 "/" = one 47 := by decide +kernel
  rw [e47]
  refine vcall_strs (args := [.string name, .string (one 47)]) (split_calls hE hZ name (one 47) (by omega) (by decide)) (by simp) ?_
  rw [show spB (one 47) name = spl 47 name from rfl]
  have hk := kind_size k
  have e4 : (by8 "pkg:").size = 4 := by decide +kernel
  have e6 : (by8 "@").size = 1 := by decide +kernel
  have e5 : (one 47).size = 1 := rfl
  have hres : purlT k name ver = by8 "pkg:" ++ kindT k ++ barT (spl 47 name) ++ by8 "@" ++ pct ver := by simp [purlT, c1, c2, c3]
  have hlen := spl_len_le 47 name
  have hparts : ∀ p ∈ spl 47 name, p.size ≤ 1048576 := fun p hp => by
    obtain ⟨i, hi, rfl⟩ := List.getElem_of_mem hp
    have := spl_size (List.getElem?_eq_getElem hi)
    omega
  have hnn : spl 47 name ≠ [] := by
    have := spB_len (sep := one 47) (s := name) (by decide)
    intro e
    rw [show spB (one 47) name = spl 47 name from rfl, e] at this
    simp at this
  obtain ⟨ps, hps⟩ : ∃ ps, spl 47 name = ps := ⟨_, rfl⟩
  rw [hps] at hres hlen hparts hnn ⊢
  have hpl : ps.length ≤ 1048577 := by omega
  have hpv := pct_size ver
  simp
  refine X_loop (τ := Nat) (fun i => ⟨[(0, .lit (.int .i64 k)), (2, .lit (.string ver)), (7, .bs 1024 1 ps.length), (25, .bs 1024 1 ps.length), (26, .lit (.int .i64 ps.length)), (27, .lit (.int .i64 i))], [(1024, rowG pct ps i)]⟩) (fun i => i ≤ ps.length) (fun i => ps.length - i) 0 (by simp) (Wk.both (by simp [wkL, wkV.same]) (by simp [wkB, rowG_zero])) ?_
  rintro i hi
  simp
  by_cases hlt : i < ps.length
  · have hpp := pct_size ps[i]
    have hp1 := hparts _ (List.getElem_mem hlt)
    simp [hlt, rowG_get hlt]
    refine vcall_go (implPct_fx hE ps[i] (by omega)) (by simp) (by simp) (by simp) (by simp [rowG_noC]) ?_
    simp [hlt, rowG_get hlt, okC, putElem, upd]
    rw [rowG_set hlt]
    exact ⟨i + 1, by omega, by omega, Wk.both (by simp [wkL, wkV.same]; rw [wrapN (by omega)]; exact wkV.same _) (by simp [wkB])⟩
  · obtain rfl : i = ps.length := by omega
    simp
    rw [rowG_all]
    obtain ⟨qs, hqs⟩ : ∃ qs, ps.map pct = qs := ⟨_, rfl⟩
    have hql : ps.length = qs.length := by rw [← hqs]; simp
    have hbar : (one 47 ++ joinB qs (one 47)) = barT ps := by
      cases ps with
      | nil => exact absurd rfl hnn
      | cons p r => rw [← hqs, ← joinB_bar p r, e47]
    have hbs : (barT ps).size ≤ 4000000000000 := by
      have h1 := barT_size ps 1048576 hparts
      have h3 := Nat.mul_le_mul_right (3 * 1048576 + 1) hpl
      omega
    have hjs : (joinB qs (one 47)).size ≤ 4000000000000 := by
      rw [← hbar, ByteArray.size_append] at hbs
      omega
    rw [hqs, hql]
    refine vcall_go (implKind_fx hE k) (by simp) (by simp) (by simp) (by simp [lits_noC]) ?_
    simp
    refine ⟨by omega, by omega, ?_⟩
    refine vcall_box (n := 1024) (join_bx hE qs (one 47) (by omega) (by omega)) rfl (by simp; rfl) (by simp [argOk]) (by simp [ptrs, dd]) (by simp [lits_noC]) rfl (lits_strip qs) (lits_dat qs) ⟨lits_res qs, lits_dat qs⟩ ?_
    rw [lits_relab]
    simp
    refine ⟨by omega, by omega, ?_⟩
    refine vcall_go (implPct_fx hE ver (by omega)) (by simp) (by simp) (by simp) (by simp [lits_noC]) ?_
    simp
    refine ⟨by omega, Fin_ret rfl ?_⟩
    rw [hres, ← hbar]
    simp [reC, ByteArray.append_assoc]
end
end Go.Proofs.YtgegcfhifojjiaaGreatDoor.Vm
