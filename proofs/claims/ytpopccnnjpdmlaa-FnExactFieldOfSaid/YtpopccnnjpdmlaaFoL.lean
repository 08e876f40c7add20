/- FieldOf: the law. -/
import Derived.Test.YtpopccnnjpdmlaaFo
import Derived.Test.YtpopccnnjpdmlaaVmOpen
namespace Go.Proofs.Ytpopccnnjpdmlaa.Vm
open Go Go.RowKit
set_option linter.unusedVariables false
set_option linter.unusedSimpArgs false
def v4 : VC := .seq (.reg false [⟨some 2, .box 2 (.t 0), none⟩, ⟨some 4, .as (.c (.lit (.bool false))), none⟩] [4]) (.seq (.seq (.reg false [⟨some 16, .mv (.t 1), none⟩, ⟨some 17, .len true (.t 16), none⟩, ⟨some 18, .bin .gtr 0 (.t 17) (.c (.lit (.int .i64 1048576))), none⟩] [16, 17]) (.cond (.t 18) (.seq (.reg false [⟨some 4, .as (.c (.lit (.bool true))), none⟩] []) (.ret)) (.skip))) (.seq (.reg false [⟨some 5, .as (.c (.lit (.int .i64 1048576))), none⟩] []) (.seq (.reg false [⟨some 19, .ld true 2 (.t 2), none⟩, ⟨some 20, .mv (.t 5), none⟩, ⟨some 21, .call false 13 [(.t 19), (.t 20)], none⟩, ⟨some 5, .as (.t 21), none⟩] [19, 20, 21]) (.seq (.seq (.reg false [⟨some 22, .mv (.t 5), none⟩, ⟨some 23, .bin .lss 0 (.t 22) (.c (.lit (.int .i64 0))), none⟩] [22]) (.cond (.t 23) (.seq (.reg false [⟨some 4, .as (.c (.lit (.bool true))), none⟩] []) (.ret)) (.skip))) (.seq (.reg false [⟨some 25, .ld true 2 (.t 2), none⟩, ⟨some 26, .call false 15 [(.t 25)], none⟩, ⟨some 27, .mv (.t 1), none⟩, ⟨some 28, .call false 14 [(.t 26), (.t 27)], none⟩, ⟨some 24, .mv (.t 28), none⟩, ⟨some 29, .ext (.t 24) 0, none⟩, ⟨some 30, .ext (.t 24) 1, none⟩, ⟨some 6, .alloc (.agg [(.lit (.string (by8 ""))), (.lit (.string (by8 ""))), (.sl ⟨.nl, true⟩ 1 []), (.lit (.bool false))]), none⟩, ⟨none, .st 4 (.t 6) (.t 29), none⟩, ⟨some 7, .as (.t 30), none⟩] [25, 26, 27, 28, 24, 29, 30]) (.seq (.reg false [⟨some 31, .ld true 2 (.t 2), none⟩, ⟨some 32, .call false 15 [(.t 31)], none⟩, ⟨some 8, .alloc (.agg [(.lit (.string (by8 ""))), (.sl ⟨.nl, true⟩ 1 [])]), none⟩, ⟨none, .st 2 (.t 8) (.t 32), none⟩] [31, 32]) (.seq (.reg false [⟨some 34, .ld true 2 (.t 8), none⟩, ⟨some 35, .mv (.t 1), none⟩, ⟨some 36, .call false 16 [(.t 34), (.t 35)], none⟩, ⟨some 33, .mv (.t 36), none⟩, ⟨some 37, .ext (.t 33) 0, none⟩, ⟨some 38, .ext (.t 33) 1, none⟩, ⟨some 9, .alloc (.agg [(.lit (.string (by8 ""))), (.lit (.string (by8 ""))), (.sl ⟨.nl, true⟩ 1 []), (.lit (.bool false))]), none⟩, ⟨none, .st 4 (.t 9) (.t 37), none⟩, ⟨some 10, .as (.t 38), none⟩] [34, 35, 36, 33, 37, 38]) (.seq (.seq (.reg false [⟨some 39, .ld true 4 (.t 9), none⟩, ⟨some 40, .ld true 4 (.t 6), none⟩, ⟨some 41, .call false 17 [(.t 39), (.t 40)], none⟩, ⟨some 42, .un .not (.t 41), none⟩, ⟨some 43, .mv (.t 42), none⟩, ⟨some 44, .mv (.t 10), (some (43, false))⟩, ⟨some 45, .mv (.t 7), (some (43, false))⟩, ⟨some 46, .bin .neq 2 (.t 44) (.t 45), (some (43, false))⟩, ⟨some 47, .pick (.t 43) (.c (.lit (.bool true))) (.t 46), none⟩] [39, 40, 41, 42, 43, 44, 45, 46]) (.cond (.t 47) (.seq (.reg false [⟨some 4, .as (.c (.lit (.bool false))), none⟩] []) (.ret)) (.skip))) (.seq (.seq (.reg true [⟨some 48, .ld true 2 (.t 8), none⟩, ⟨some 49, .ld true 2 (.t 2), none⟩, ⟨some 50, .call true 15 [(.t 49)], none⟩, ⟨some 51, .call true 18 [(.t 48), (.t 50)], none⟩, ⟨some 52, .un .not (.t 51), none⟩] [48, 49, 50, 51]) (.cond (.t 52) (.seq (.reg false [⟨some 4, .as (.c (.lit (.bool false))), none⟩] []) (.ret)) (.skip))) (.seq (.reg false [⟨some 11, .as (.c (.lit (.int .i64 1))), none⟩] []) (.seq (.reg false [⟨some 53, .ld true 2 (.t 8), none⟩, ⟨some 54, .mv (.t 11), none⟩, ⟨some 55, .call false 19 [(.t 53), (.t 54)], none⟩, ⟨some 11, .as (.t 55), none⟩] [53, 54, 55]) (.seq (.seq (.reg false [⟨some 56, .mv (.t 11), none⟩, ⟨some 57, .bin .lss 0 (.t 56) (.c (.lit (.int .i64 0))), none⟩, ⟨some 58, .mv (.t 57), none⟩, ⟨some 59, .ld true 4 (.t 9), (some (58, false))⟩, ⟨some 60, .ld true 4 (.t 6), (some (58, false))⟩, ⟨some 61, .call false 17 [(.t 59), (.t 60)], (some (58, false))⟩, ⟨some 62, .un .not (.t 61), (some (58, false))⟩, ⟨some 63, .pick (.t 58) (.c (.lit (.bool true))) (.t 62), none⟩, ⟨some 64, .mv (.t 63), none⟩, ⟨some 65, .mv (.t 10), (some (64, false))⟩, ⟨some 66, .mv (.t 7), (some (64, false))⟩, ⟨some 67, .bin .neq 2 (.t 65) (.t 66), (some (64, false))⟩, ⟨some 68, .pick (.t 64) (.c (.lit (.bool true))) (.t 67), none⟩] [56, 57, 58, 59, 60, 61, 62, 63, 64, 65, 66, 67]) (.cond (.t 68) (.seq (.reg false [⟨some 4, .as (.c (.lit (.bool false))), none⟩] []) (.ret)) (.skip))) (.seq (.reg false [⟨some 12, .as (.c (.lit (.int .i64 1))), none⟩] []) (.seq (.reg false [⟨some 69, .ld true 4 (.t 9), none⟩, ⟨some 70, .mv (.t 12), none⟩, ⟨some 71, .call false 20 [(.t 69), (.t 70)], none⟩, ⟨some 12, .as (.t 71), none⟩] [69, 70, 71]) (.seq (.reg false [⟨some 13, .as (.c (.lit (.int .i64 1))), none⟩] []) (.seq (.reg false [⟨some 72, .ld true 4 (.t 9), none⟩, ⟨some 73, .mv (.t 13), none⟩, ⟨some 74, .call false 21 [(.t 72), (.t 73)], none⟩, ⟨some 13, .as (.t 74), none⟩] [72, 73, 74]) (.seq (.seq (.reg false [⟨some 75, .mv (.t 13), none⟩, ⟨some 76, .bin .lss 0 (.t 75) (.c (.lit (.int .i64 0))), none⟩] [75]) (.cond (.t 76) (.seq (.reg false [⟨some 4, .as (.c (.lit (.bool false))), none⟩] []) (.ret)) (.skip))) (.seq (.seq (.reg false [⟨some 77, .mv (.t 13), none⟩, ⟨some 78, .mv (.t 12), none⟩, ⟨some 79, .bin .neq 0 (.t 77) (.t 78), none⟩] [77, 78]) (.cond (.t 79) (.seq (.reg false [⟨some 4, .as (.c (.lit (.bool false))), none⟩] []) (.ret)) (.skip))) (.seq (.reg false [⟨some 81, .ld true 2 (.t 2), none⟩, ⟨some 82, .call false 15 [(.t 81)], none⟩, ⟨some 83, .mv (.t 1), none⟩, ⟨some 84, .call false 16 [(.t 82), (.t 83)], none⟩, ⟨some 80, .mv (.t 84), none⟩, ⟨some 85, .ext (.t 80) 0, none⟩, ⟨some 86, .ext (.t 80) 1, none⟩, ⟨some 14, .alloc (.agg [(.lit (.string (by8 ""))), (.lit (.string (by8 ""))), (.sl ⟨.nl, true⟩ 1 []), (.lit (.bool false))]), none⟩, ⟨none, .st 4 (.t 14) (.t 85), none⟩, ⟨some 15, .as (.t 86), none⟩] [81, 82, 83, 84, 80, 85, 86]) (.seq (.seq (.reg false [⟨some 87, .ld true 4 (.t 14), none⟩, ⟨some 88, .ld true 4 (.t 6), none⟩, ⟨some 89, .call false 17 [(.t 87), (.t 88)], none⟩, ⟨some 90, .un .not (.t 89), none⟩, ⟨some 91, .mv (.t 90), none⟩, ⟨some 92, .mv (.t 15), (some (91, false))⟩, ⟨some 93, .mv (.t 7), (some (91, false))⟩, ⟨some 94, .bin .neq 2 (.t 92) (.t 93), (some (91, false))⟩, ⟨some 95, .pick (.t 91) (.c (.lit (.bool true))) (.t 94), none⟩] [87, 88, 89, 90, 91, 92, 93, 94]) (.cond (.t 95) (.seq (.reg false [⟨some 4, .as (.c (.lit (.bool false))), none⟩] []) (.ret)) (.skip))) (.seq (.reg false [⟨some 13, .as (.c (.lit (.int .i64 1))), none⟩] []) (.seq (.reg false [⟨some 96, .ld true 4 (.t 9), none⟩, ⟨some 97, .mv (.t 13), none⟩, ⟨some 98, .call false 21 [(.t 96), (.t 97)], none⟩, ⟨some 13, .as (.t 98), none⟩] [96, 97, 98]) (.seq (.seq (.reg false [⟨some 99, .mv (.t 13), none⟩, ⟨some 100, .bin .lss 0 (.t 99) (.c (.lit (.int .i64 0))), none⟩] [99]) (.cond (.t 100) (.seq (.reg false [⟨some 4, .as (.c (.lit (.bool false))), none⟩] []) (.ret)) (.skip))) (.seq (.seq (.reg false [⟨some 101, .mv (.t 13), none⟩, ⟨some 102, .mv (.t 12), none⟩, ⟨some 103, .bin .neq 0 (.t 101) (.t 102), none⟩] [101, 102]) (.cond (.t 103) (.seq (.reg false [⟨some 4, .as (.c (.lit (.bool false))), none⟩] []) (.ret)) (.skip))) (.seq (.reg false [⟨some 4, .as (.c (.lit (.bool true))), none⟩] []) (.ret))))))))))))))))))))))))))
theorem is4 : Is Go.Proofs.Try.prog 4 104 v4 [.t 4] := ⟨Go.Proofs.Try.f4, dl [(0, [4]), (1, [16, 17]), (4, [19, 20, 21]), (5, [22]), (7, [25, 26, 27, 28, 24, 29, 30]), (8, [31, 32]), (9, [34, 35, 36, 33, 37, 38]), (10, [39, 40, 41, 42, 43, 44, 45, 46]), (12, [48, 49, 50, 51]), (15, [53, 54, 55]), (16, [56, 57, 58, 59, 60, 61, 62, 63, 64, 65, 66, 67]), (19, [69, 70, 71]), (21, [72, 73, 74]), (22, [75]), (24, [77, 78]), (26, [81, 82, 83, 84, 80, 85, 86]), (27, [87, 88, 89, 90, 91, 92, 93, 94]), (30, [96, 97, 98]), (31, [99]), (33, [101, 102])], Go.Proofs.Try.func4, by kernel_rfl, by kernel_rfl, by kernel_rfl, by kernel_rfl⟩
theorem szGo_bound {α : Type} {f : α → Int → Int} (hf : ∀ x l, 0 ≤ l → f x l ≤ l) : ∀ {xs : List α} {l : Int}, 0 ≤ l → 0 ≤ szGo f xs l → ∀ x ∈ xs, ∃ m, 0 ≤ m ∧ m ≤ l ∧ 0 ≤ f x m
  | [], _, _, _, x, hx => by simp at hx
  | y :: xs, l, h0, h, x, hx => by
    simp only [szGo] at h
    split at h
    · omega
    · rename_i h1
      rcases List.mem_cons.1 hx with rfl | hx
      · exact ⟨l, h0, Int.le_refl l, by omega⟩
      · obtain ⟨m, m1, m2, m3⟩ := szGo_bound hf (l := f y l) (by omega) h x hx
        have := hf y l h0
        exact ⟨m, m1, by omega, m3⟩
theorem szL_bound {α : Type} {f : α → Int → Int} (hf : ∀ x l, 0 ≤ l → f x l ≤ l) {xs : List α} {l : Int} (h : 0 ≤ szL f xs l) : (xs.length : Int) ≤ l ∧ ∀ x ∈ xs, ∃ m, 0 ≤ m ∧ m ≤ l ∧ 0 ≤ f x m := by
  unfold szL at h
  split at h
  · omega
  · refine ⟨by omega, fun x hx => ?_⟩
    obtain ⟨m, m1, m2, m3⟩ := szGo_bound hf (l := l - xs.length) (by omega) h x hx
    exact ⟨m, m1, by omega, m3⟩
theorem szIf_bound {l : Int} {k : Int → Int} (h : 0 ≤ szIf l k) : 0 ≤ l ∧ 0 ≤ k l ∧ szIf l k = k l := by
  unfold szIf at h ⊢
  split at h
  · omega
  · rename_i h1; exact ⟨by omega, h, if_neg h1⟩
theorem Fld.bound {x : Fld} {l : Int} (h : 0 ≤ x.sz l) : (x.key.size : Int) ≤ l ∧ x.sz l + x.list.length ≤ l := by
  unfold Fld.sz at h ⊢
  obtain ⟨h1, h, e1⟩ := szIf_bound h
  rw [e1]
  obtain ⟨h2, h, e2⟩ := szIf_bound h
  rw [e2]
  obtain ⟨h3, h, e3⟩ := szIf_bound h
  rw [e3]
  unfold szL at h3 ⊢
  split at h3
  · omega
  · rename_i h4
    rw [if_neg h4]
    have := szGo_le (f := fun (x : ByteArray) l => l - x.size) (xs := x.list) (l := l - x.key.size - x.text.size - x.list.length) (fun x _ l _ => by omega) (by omega)
    omega
theorem szGo_cnt : ∀ {xs : List Fld} {l : Int}, 0 ≤ l → 0 ≤ szGo Fld.sz xs l → szGo Fld.sz xs l + cntL xs ≤ l + 3 * xs.length
  | [], l, h0, h => by simp [szGo, cntL]
  | y :: xs, l, h0, h => by
    simp only [szGo] at h ⊢
    split at h
    · omega
    · rename_i h1
      rw [if_neg h1]
      have a := (Fld.bound (x := y) (l := l) (by omega)).2
      have b := szGo_cnt (xs := xs) (l := y.sz l) (by omega) h
      simp only [cntL, Fld.cnt, List.length_cons]
      omega
theorem Tb.bound {x : Tb} {l : Int} (h : 0 ≤ x.sz l) (hl : l ≤ 1048576) : x.name.size ≤ 1048576 ∧ x.fields.length ≤ 1048576 ∧ (∀ f ∈ x.fields, f.list.length ≤ 1048576) ∧ cntL x.fields ≤ 8388608 := by
  obtain ⟨h1, h, _⟩ := szIf_bound h
  obtain ⟨h2, h, _⟩ := szIf_bound h
  have hb := szL_bound (f := Fld.sz) Fld.sz_le h2
  refine ⟨by omega, by omega, fun f hf => ?_, ?_⟩
  · obtain ⟨m, m1, m2, m3⟩ := hb.2 f hf
    have := (Fld.bound m3).2
    omega
  · unfold szL at h2
    split at h2
    · omega
    · have := szGo_cnt (xs := x.fields) (l := l - x.name.size - x.fields.length) (by omega) h2
      omega
theorem all2_refl {α : Type} {p : α → α → Bool} (h : ∀ x, p x x = true) : ∀ (l : List α), all2 p l l = true
  | [] => rfl
  | a :: l => by simp [all2, h, all2_refl h l]
theorem Fld.eq_refl (x : Fld) : x.eq x = true := by simp [Fld.eq, all2_refl]
theorem Tb.eq_refl (x : Tb) : x.eq x = true := by simp [Tb.eq, all2_refl Fld.eq_refl]
@[simp] theorem noC_slow (d t : Nat) (fr : Bool) (sz : Nat) (xs : List AV) : noC d (.sl ⟨.ow t, fr⟩ sz xs) = true := rfl
theorem flatL_strs (l : List ByteArray) : flat.flatL (l.map fun x => AV.lit (.string x)) = true := by
  induction l with
  | nil => rfl
  | cons x l ih => simp [flat.flatL, flat, isSl, ih]
theorem flatL_flds (l : List Fld) : flat.flatL (l.map fun x => AV.agg x.av) = true := by
  induction l with
  | nil => rfl
  | cons x l ih =>
    have h1 : flat.flatL x.av = true := by simp [Fld.av, flat.flatL, flat, isSl, flatL_strs]
    simp only [List.map_cons, flat.flatL, flat, h1, ih, Bool.and_self]
theorem rowOk_strs (l : List ByteArray) : rowOk 1 (l.map fun x => AV.lit (.string x)) = true := by simp [rowOk, AV.cells, isLit]
/-- the field that a result holds -/
def resF : Option Fld → Fld
  | some f => f
  | none => ⟨by8 "", by8 "", [], false⟩
section
variable {E : Env} (hE : E.P = Go.Proofs.Try.prog)
include hE
set_option maxHeartbeats 8000000 in
theorem law_fx (x : Tb) (key : ByteArray) (hg : x.good) : Fx E 4 [] [.agg x.av, .lit (.string key)] [] (.lit (.bool true)) := by
  refine (is4.to hE).fxo (by simp [Tb.av]) (by simp) rfl ?_
  simp [v4, Tb.av, ownA, ownA.ownL, okC, mkF, ro]
  by_cases c0 : (1048576 : Int) < key.size
  · simp [c0]
    exact Fin_ret rfl rfl
  simp [c0]
  refine vcall_go (szTable_fx hE x 1048576 hg (by omega) (by omega)) (by simp [Tb.av, ro]) (by simp) (by simp) (by simp) ?_
  simp
  by_cases c1 : x.sz 1048576 < 0
  · simp [c1]
    exact Fin_ret rfl rfl
  obtain ⟨b1, b2, b3, b4⟩ := Tb.bound (x := x) (l := 1048576) (by omega) (by omega)
  have hto : Fx E 15 [] [.agg x.av] [] (.agg [.lit (.string x.name), .sl ⟨.no, true⟩ 4 (x.fields.map fun x => .agg x.av)]) := toTable_fx hE x b2 b3
  have hsp := specFieldOf_fx hE x key b2 b3
  have him := implFieldOf_fx hE x key b2 b3
  simp [c1]
  refine vcall_go hto (by simp [Tb.av, ro]) (by simp) (by simp) (by simp) ?_
  simp [Tb.av, mkF, mkF.mkL]
  obtain ⟨r, hr⟩ : ∃ r, findF x.fields key = r := ⟨_, rfl⟩
  rw [hr] at hsp him
  have hres : ∃ ap, fldRes r = .tup [.agg [.lit (.string (resF r).key), .lit (.string (resF r).text), .sl ⟨ap, true⟩ 1 ((resF r).list.map fun x => .lit (.string x)), .lit (.bool (resF r).isL)], .lit (.bool r.isSome)] ∧ (resF r).list.length ≤ 1048576 := by
    cases r with
    | none => exact ⟨.nl, rfl, by simp [resF]⟩
    | some f => exact ⟨.no, rfl, b3 f (List.mem_of_find?_eq_some hr)⟩
  obtain ⟨ap, hre, hrl⟩ := hres
  rw [hre] at hsp him
  obtain ⟨f, hf⟩ : ∃ f, resF r = f := ⟨_, rfl⟩
  rw [hf] at hsp him hrl
  refine vcall_own (T := 28) hsp (by simp [Tb.av, ro]) (by simp) (by simp) (by simp) (by simp [AS.noW, AS.putO, allV, noW, noW.noL]) (by decide) (by intro h; omega) rfl ?_
  simp [ownA, ownA.ownL, okC, putElem, upd]
  refine vcall_own (T := 32) hto (by simp [Tb.av, ro]) (by simp) (by simp) (by simp) (by simp [AS.noW, AS.putO, allV, noW, noW.noL]) (by decide) (by intro h; omega) rfl ?_
  simp [ownA, ownA.ownL, okC, putElem, upd]
  refine vcall_own (T := 100036) him (by simp [Tb.av, ro]) (by simp) (by simp) (by simp) (by simp [AS.noW, AS.putO, allV, noW, noW.noL]) (by decide) (fun _ => Nat.le_refl _) rfl ?_
  simp [ownA, ownA.ownL, okC, putElem, upd]
  refine vcall_go (eqField_fx hE f f hrl) (by simp [Fld.av, ro]) (by simp) (by simp) (by simp) ?_
  simp [Fld.eq_refl]
  refine vcall_go hto (by simp [Tb.av, ro]) (by simp) (by simp) (by simp) ?_
  simp
  refine vcall_go (eqTable_fx hE x x b2 b3) (by simp [Tb.av, ro]) (by simp) (by simp) (by simp) ?_
  simp [Tb.eq_refl]
  refine vcall_junk (T := 32) (rv := .int .i64 ((1 : Int) + cntL x.fields)) (by simpa [hsT, hsT.hsTL, hsL_flds] using markTable_junk hE x 1 (by omega) b2 (by omega)) (by decide) (by simp [okJ, okJ.okJL, flatL_flds]) ?_
  have hk1 : ¬ ((1 : Int) + cntL x.fields < 0) := by omega
  simp [AS.kp, mapV, kp, kp.kpL, kpB, okC, List.filter, hk1, mkF]
  refine vcall_go (eqField_fx hE f f hrl) (by simp [Fld.av, ro]) (by simp) (by simp) (by simp) ?_
  simp [Fld.eq_refl]
  by_cases hn : f.list = []
  · refine vcall_go (markField_nil hE f hn 1 (by omega)) (by simp [Fld.av, ro]) (by simp) (by simp) (by simp) ?_
    simp
    refine vcall_go (heldField_fx hE f.key f.text f.isL 0 1 (by omega) (by omega)) (by simp [ro, hn, mkRow]) (by simp) (by simp) (by simp) ?_
    simp
    refine vcall_go hto (by simp [Tb.av, ro]) (by simp) (by simp) (by simp) ?_
    simp
    refine vcall_own (T := 84) him (by simp [Tb.av, ro]) (by simp) (by simp) (by simp) (by simp [AS.noW, AS.putO, allV, noW, noW.noL]) (by decide) (by intro h; omega) rfl ?_
    simp [ownA, ownA.ownL, okC, putElem, upd]
    refine vcall_go (eqField_fx hE f f hrl) (by simp [Fld.av, ro]) (by simp) (by simp) (by simp) ?_
    simp [Fld.eq_refl]
    refine vcall_go (heldField_fx hE f.key f.text f.isL 0 1 (by omega) (by omega)) (by simp [ro, hn, mkRow]) (by simp) (by simp) (by simp) ?_
    simp
    exact Fin_ret rfl rfl
  · have hk2 : ¬ ((1 : Int) + f.list.length < 0) := by omega
    refine vcall_row (T := 100036) (sz := 1) (xs := f.list.map fun x => .lit (.string x)) (ys := (mkRow 1 f.list.length).map fun x => .lit (.string x)) (rv := .int .i64 ((1 : Int) + f.list.length)) (by simpa [bsT, bsT.bsTL] using markField_row hE f 1 (by omega) (by omega)) (by decide) (by simp [okT, okT.okTL]) rfl (by decide) (by simpa using hn) (rowOk_strs _) (rowOk_strs _) (by simp [mkRow]) ?_
    simp [AS.kp, mapV, kp, kp.kpL, kpB, okC, List.filter, mkF]
    refine vcall_go (heldField_fx hE f.key f.text f.isL f.list.length 1 (by omega) (by omega)) (by simp [ro]) (by simp) (by simp) (by simp) ?_
    simp [hk2]
    refine vcall_go hto (by simp [Tb.av, ro]) (by simp) (by simp) (by simp) ?_
    simp
    refine vcall_own (T := 84) him (by simp [Tb.av, ro]) (by simp) (by simp) (by simp) (by simp [AS.noW, AS.putO, allV, noW, noW.noL]) (by decide) (by intro h; omega) rfl ?_
    simp [ownA, ownA.ownL, okC, putElem, upd]
    refine vcall_go (eqField_fx hE f f hrl) (by simp [Fld.av, ro]) (by simp) (by simp) (by simp) ?_
    simp [Fld.eq_refl]
    refine vcall_go (heldField_fx hE f.key f.text f.isL f.list.length 1 (by omega) (by omega)) (by simp [ro]) (by simp) (by simp) (by simp) ?_
    simp [hk2]
    exact Fin_ret rfl rfl
end
end Go.Proofs.Ytpopccnnjpdmlaa.Vm
