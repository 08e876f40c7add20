/- Unmet: both sides. -/
import Derived.Test.YtpopccnnjpdmlaaUn
namespace Go.Proofs.Ytpopccnnjpdmlaa.Vm
open Go Go.RowKit
set_option linter.unusedVariables false
set_option linter.unusedSimpArgs false
def v63 : VC := .seq (.reg false [⟨some 3, .box 2 (.t 1), none⟩, ⟨some 4, .as (.c (.lit (.int .i64 0))), none⟩] [4]) (.seq (.seq (.reg false [⟨some 5, .as (.c (.lit (.int .i64 0))), none⟩] []) (.block 0 (.loop (.seq (.seq (.reg false [⟨some 7, .mv (.t 5), none⟩, ⟨some 8, .mv (.t 0), none⟩, ⟨some 9, .len false (.t 8), none⟩, ⟨some 10, .bin .lss 0 (.t 7) (.t 9), none⟩] [7, 8, 9]) (.cond (.t 10) (.skip) (.exit 0))) (.seq (.block 1 (.seq (.reg false [⟨some 6, .as (.c (.lit (.int .i64 0))), none⟩] []) (.block 2 (.loop (.seq (.seq (.reg false [⟨some 13, .mv (.t 6), none⟩, ⟨some 14, .mv (.t 0), none⟩, ⟨some 15, .mv (.t 5), none⟩, ⟨some 16, .ia 5 (.t 14) (.t 15), none⟩, ⟨some 17, .fa 0 (.t 16), none⟩, ⟨some 18, .ld false 1 (.t 17), none⟩, ⟨some 19, .len false (.t 18), none⟩, ⟨some 20, .bin .lss 0 (.t 13) (.t 19), none⟩] [13, 14, 15, 16, 17, 18, 19]) (.cond (.t 20) (.skip) (.exit 2))) (.seq (.block 3 (.seq (.reg true [⟨some 23, .mv (.t 0), none⟩, ⟨some 24, .mv (.t 5), none⟩, ⟨some 25, .ia 5 (.t 23) (.t 24), none⟩, ⟨some 26, .fa 0 (.t 25), none⟩, ⟨some 27, .ld false 1 (.t 26), none⟩, ⟨some 28, .mv (.t 6), none⟩, ⟨some 29, .ia 2 (.t 27) (.t 28), none⟩, ⟨some 30, .ld true 2 (.t 29), none⟩, ⟨some 31, .ld true 2 (.t 3), none⟩, ⟨some 32, .bin .eql 1 (.t 30) (.t 31), none⟩] [23, 24, 25, 26, 27, 28, 29, 30, 31]) (.cond (.t 32) (.seq (.reg false [⟨some 33, .mv (.t 5), none⟩, ⟨some 4, .as (.t 33), none⟩] [33]) (.ret)) (.skip)))) (.reg false [⟨some 21, .mv (.t 6), none⟩, ⟨some 22, .bin .add 0 (.t 21) (.c (.lit (.int .i64 1))), none⟩, ⟨some 6, .as (.t 22), none⟩] [21, 22]))))))) (.reg false [⟨some 11, .mv (.t 5), none⟩, ⟨some 12, .bin .add 0 (.t 11) (.c (.lit (.int .i64 1))), none⟩, ⟨some 5, .as (.t 12), none⟩] [11, 12])))))) (.seq (.reg false [⟨some 4, .as (.c (.lit (.int .i64 (-1)))), none⟩] []) (.ret)))
theorem is63 : Is Go.Proofs.Try.prog 63 34 v63 [.t 4] := ⟨Go.Proofs.Try.f63, dl [(0, [4]), (2, [7, 8, 9]), (5, [13, 14, 15, 16, 17, 18, 19]), (7, [23, 24, 25, 26, 27, 28, 29, 30, 31]), (8, [33]), (6, [21, 22]), (3, [11, 12])], Go.Proofs.Try.func63, by kernel_rfl, by kernel_rfl, by kernel_rfl, by kernel_rfl⟩
def v88 : VC := .seq (.reg false [⟨some 3, .box 2 (.t 1), none⟩, ⟨some 4, .as (.c (.lit (.int .i64 0))), none⟩] [4]) (.seq (.seq (.reg false [⟨some 6, .mv (.t 0), none⟩, ⟨some 7, .len false (.t 6), none⟩, ⟨some 8, .mv (.c (.lit (.int .i64 0))), none⟩] [6]) (.block 0 (.loop (.seq (.reg false [⟨some 9, .bin .lss 0 (.t 8) (.t 7), none⟩] []) (.seq (.cond (.t 9) (.skip) (.exit 0)) (.seq (.block 1 (.seq (.reg false [⟨some 10, .mv (.t 8), none⟩, ⟨some 5, .as (.t 10), none⟩] [10]) (.seq (.reg true [⟨some 11, .ld true 2 (.t 3), none⟩, ⟨some 12, .mv (.t 0), none⟩, ⟨some 13, .mv (.t 5), none⟩, ⟨some 14, .ia 2 (.t 12) (.t 13), none⟩, ⟨some 15, .ld true 2 (.t 14), none⟩, ⟨some 16, .bin .eql 1 (.t 11) (.t 15), none⟩] [11, 12, 13, 14, 15]) (.cond (.t 16) (.seq (.reg false [⟨some 17, .mv (.t 5), none⟩, ⟨some 4, .as (.t 17), none⟩] [17]) (.ret)) (.skip))))) (.reg false [⟨some 18, .bin .add 0 (.t 8) (.c (.lit (.int .i64 1))), none⟩, ⟨some 8, .mv (.t 18), none⟩] [18]))))))) (.seq (.reg false [⟨some 4, .as (.c (.lit (.int .i64 (-1)))), none⟩] []) (.ret)))
theorem is88 : Is Go.Proofs.Try.prog 88 19 v88 [.t 4] := ⟨Go.Proofs.Try.f88, dl [(0, [4]), (1, [6]), (3, [10]), (4, [11, 12, 13, 14, 15]), (5, [17]), (6, [18])], Go.Proofs.Try.func88, by kernel_rfl, by kernel_rfl, by kernel_rfl, by kernel_rfl⟩
def v66 : VC := .seq (.reg false [⟨some 3, .box 2 (.t 1), none⟩, ⟨some 4, .as (.c (.lit (.bool false))), none⟩] [4]) (.seq (.reg false [⟨some 5, .mv (.t 0), none⟩, ⟨some 6, .ld true 2 (.t 3), none⟩, ⟨some 7, .call false 88 [(.t 5), (.t 6)], none⟩, ⟨some 8, .bin .geq 0 (.t 7) (.c (.lit (.int .i64 0))), none⟩, ⟨some 4, .as (.t 8), none⟩] [5, 6, 7, 8]) (.ret))
theorem is66 : Is Go.Proofs.Try.prog 66 9 v66 [.t 4] := ⟨Go.Proofs.Try.f66, dl [(0, [4]), (1, [5, 6, 7, 8])], Go.Proofs.Try.func66, by kernel_rfl, by kernel_rfl, by kernel_rfl, by kernel_rfl⟩
def v87 : VC := .seq (.reg false [⟨some 2, .box 5 (.t 0), none⟩, ⟨some 3, .as (.c (.lit (.bool false))), none⟩] [3]) (.seq (.reg false [⟨some 4, .fa 0 (.t 2), none⟩, ⟨some 5, .ld false 1 (.t 4), none⟩, ⟨some 6, .ld true 2 (.t 1), none⟩, ⟨some 7, .call false 66 [(.t 5), (.t 6)], none⟩, ⟨some 3, .as (.t 7), none⟩] [4, 5, 6, 7]) (.ret))
theorem is87 : Is Go.Proofs.Try.prog 87 8 v87 [.t 3] := ⟨Go.Proofs.Try.f87, dl [(0, [3]), (1, [4, 5, 6, 7])], Go.Proofs.Try.func87, by kernel_rfl, by kernel_rfl, by kernel_rfl, by kernel_rfl⟩
def v86 : VC := .seq (.reg false [⟨some 4, .as (.c (.lit (.int .i64 0))), none⟩] [4]) (.seq (.seq (.reg false [⟨some 6, .mv (.t 0), none⟩, ⟨some 7, .len false (.t 6), none⟩, ⟨some 8, .mv (.c (.lit (.int .i64 0))), none⟩] [6]) (.block 0 (.loop (.seq (.reg false [⟨some 9, .bin .lss 0 (.t 8) (.t 7), none⟩] []) (.seq (.cond (.t 9) (.skip) (.exit 0)) (.seq (.block 1 (.seq (.reg false [⟨some 10, .mv (.t 8), none⟩, ⟨some 5, .as (.t 10), none⟩] [10]) (.seq (.reg false [⟨some 11, .mv (.t 1), none⟩, ⟨some 12, .mv (.t 0), none⟩, ⟨some 13, .mv (.t 5), none⟩, ⟨some 14, .ia 5 (.t 12) (.t 13), none⟩, ⟨some 15, .ld true 5 (.t 14), none⟩, ⟨some 16, .callv false (.t 11) [(.t 15)], none⟩] [11, 12, 13, 14, 15]) (.cond (.t 16) (.seq (.reg false [⟨some 17, .mv (.t 5), none⟩, ⟨some 4, .as (.t 17), none⟩] [17]) (.ret)) (.skip))))) (.reg false [⟨some 18, .bin .add 0 (.t 8) (.c (.lit (.int .i64 1))), none⟩, ⟨some 8, .mv (.t 18), none⟩] [18]))))))) (.seq (.reg false [⟨some 4, .as (.c (.lit (.int .i64 (-1)))), none⟩] []) (.ret)))
theorem is86 : Is Go.Proofs.Try.prog 86 19 v86 [.t 4] := ⟨Go.Proofs.Try.f86, dl [(0, [4]), (1, [6]), (3, [10]), (4, [11, 12, 13, 14, 15]), (5, [17]), (6, [18])], Go.Proofs.Try.func86, by kernel_rfl, by kernel_rfl, by kernel_rfl, by kernel_rfl⟩
def v65 : VC := .seq (.reg false [⟨some 3, .box 2 (.t 1), none⟩, ⟨some 4, .as (.c (.lit (.int .i64 0))), none⟩] [4]) (.seq (.reg false [⟨some 5, .mv (.t 0), none⟩, ⟨some 6, .mkf 87 [(.t 3)], none⟩, ⟨some 7, .call false 86 [(.t 5), (.t 6)], none⟩, ⟨some 4, .as (.t 7), none⟩] [5, 6, 7]) (.ret))
theorem is65 : Is Go.Proofs.Try.prog 65 8 v65 [.t 4] := ⟨Go.Proofs.Try.f65, dl [(0, [4]), (1, [5, 6, 7])], Go.Proofs.Try.func65, by kernel_rfl, by kernel_rfl, by kernel_rfl, by kernel_rfl⟩
def fidx {α : Type} (p : α → Bool) (l : List α) : Int := if l.findIdx p < l.length then (l.findIdx p : Nat) else -1
theorem fidx_found {α : Type} {p : α → Bool} {l : List α} {i : Nat} (h : i < l.length) (h1 : p l[i] = true) (h2 : ∀ (m : Nat) (g : α), m < i → l[m]? = some g → p g = false) : fidx p l = i := by
  have e : l.findIdx p = i := by
    rw [List.findIdx_eq h]
    exact ⟨h1, fun j hj => h2 j _ hj (List.getElem?_eq_getElem _)⟩
  unfold fidx
  rw [e, if_pos h]
theorem fidx_none {α : Type} {p : α → Bool} {l : List α} (h2 : ∀ (m : Nat) (g : α), l[m]? = some g → p g = false) : fidx p l = -1 := by
  have e : ¬ l.findIdx p < l.length := by
    rw [List.findIdx_lt_length]
    rintro ⟨x, hx, hp⟩
    obtain ⟨m, hm, rfl⟩ := List.getElem_of_mem hx
    rw [h2 m _ (List.getElem?_eq_getElem hm)] at hp; cases hp
  unfold fidx
  rw [if_neg e]
theorem fidx_has {α : Type} (p : α → Bool) (l : List α) : decide (0 ≤ fidx p l) = l.any p := by
  unfold fidx
  by_cases h : l.findIdx p < l.length
  · rw [if_pos h]
    have := List.findIdx_lt_length.1 h
    simp only [Int.natCast_nonneg, decide_true]
    exact (List.any_eq_true.2 (by obtain ⟨x, hx, hp⟩ := this; exact ⟨x, hx, hp⟩)).symm
  · rw [if_neg h]
    have h2 : ¬ ∃ x, x ∈ l ∧ p x = true := fun hh => h (List.findIdx_lt_length.2 (by obtain ⟨x, hx, hp⟩ := hh; exact ⟨x, hx, hp⟩))
    have : l.any p = false := by
      rw [List.any_eq_false]
      intro x hx hp
      exact h2 ⟨x, hx, hp⟩
    rw [this]; rfl
theorem Nd.ext' {a b : Nd} : a = b ↔ a.name = b.name ∧ a.range = b.range := by cases a; cases b; simp
def hasN (l : List Nd) (n : Nd) : Bool := l.any fun h => decide (h = n)
theorem hasN_true {l : List Nd} {n : Nd} {i : Nat} (h : i < l.length) (e : l[i] = n) : hasN l n = true := by
  unfold hasN; rw [List.any_eq_true]; exact ⟨l[i], List.getElem_mem h, by simp [e]⟩
theorem hasN_false {l : List Nd} {n : Nd} (h : ∀ (k : Nat) (x : Nd), l[k]? = some x → x ≠ n) : hasN l n = false := by
  unfold hasN; rw [List.any_eq_false]; intro x hx
  obtain ⟨k, hk, rfl⟩ := List.getElem_of_mem hx
  simpa using h k _ (List.getElem?_eq_getElem hk)
section
variable {E : Env} (hE : E.P = Go.Proofs.Try.prog)
include hE
theorem idxN_fx (l : List Nd) (n : Nd) (hl : l.length ≤ 1099511627776) : Fx E 88 [] [.sl ro 2 (l.map fun x => .agg x.av), .agg n.av] [] (.lit (.int .i64 (fidx (fun h => decide (h = n)) l))) := by
  refine (is88.to hE).fx [] (by simp) rfl rfl ?_
  have hnv : n.av = [.lit (.string n.name), .lit (.string n.range)] := rfl
  simp [v88, hnv, okC]
  refine X_loop (τ := Nat) (fun i => ⟨[(0, .sl ro 2 (l.map fun x => .agg x.av)), (3, .ptr 1003 0 0), (7, .lit (.int .i64 l.length)), (8, .lit (.int .i64 i))], [(1003, [.agg n.av])]⟩) (fun i => i ≤ l.length ∧ ∀ (m : Nat) (g : Nd), m < i → l[m]? = some g → decide (g = n) = false) (fun i => l.length - i) 0 (by simp) (Wk.both (by simp [wkL, wkV.same]) (by simp [wkB, hnv])) ?_
  rintro i ⟨hi, hall⟩
  simp [hnv]
  by_cases hlt : i < l.length
  · have hav : l[i].av = [.lit (.string l[i].name), .lit (.string l[i].range)] := rfl
    simp [hlt, ro, mkF, mkF.mkL, hav]
    by_cases c : l[i] = n
    · obtain ⟨c1, c2⟩ := Nd.ext'.1 c
      simp [c1, c2]
      exact Fin_ret rfl (by rw [fidx_found hlt (by simp [c]) hall]; rfl)
    · have hb : (decide (n.name = l[i].name) && decide (n.range = l[i].range)) = false := by
        cases h : (decide (n.name = l[i].name) && decide (n.range = l[i].range)) with
        | false => rfl
        | true => simp only [Bool.and_eq_true, decide_eq_true_eq] at h; exact absurd (Nd.ext'.2 ⟨h.1.symm, h.2.symm⟩) c
      have nxt : ∀ (m : Nat) (g : Nd), m < i + 1 → l[m]? = some g → decide (g = n) = false := fun m g hm hg => by
        rcases Nat.lt_succ_iff_lt_or_eq.1 hm with h | rfl
        · exact hall m g h hg
        · rw [List.getElem?_eq_getElem hlt] at hg; rw [← Option.some.inj hg]; simpa using c
      simp [hb]
      exact ⟨i + 1, ⟨by omega, fun m g hm hg => by simpa using nxt m g hm hg⟩, by omega, Wk.both (by simp [wkL, wkV.same, ro]; rw [wrapN (by omega)]; exact wkV.same _) (by simp [wkB, hnv])⟩
  · simp [hlt]
    exact Fin_ret rfl (by rw [fidx_none fun m g hg => hall m g (by have := (List.getElem?_eq_some_iff.1 hg).1; omega) hg]; rfl)
theorem contN_fx (l : List Nd) (n : Nd) (hl : l.length ≤ 1099511627776) : Fx E 66 [] [.sl ro 2 (l.map fun x => .agg x.av), .agg n.av] [] (.lit (.bool (hasN l n))) := by
  refine (is66.to hE).fx [] (by simp) rfl rfl ?_
  have hnv : n.av = [.lit (.string n.name), .lit (.string n.range)] := rfl
  simp [v66, hnv, okC, mkF]
  refine vcall_go (idxN_fx hE l n hl) (by simp [hnv, ro]) (by simp) (by simp) (by simp) ?_
  simp
  exact Fin_ret rfl (by rw [hasN, ← fidx_has]; rfl)
theorem res1_fx (e : En) (n : Nd) (hl : e.heads.length ≤ 1048576) : Fx E 87 [[.agg n.av]] [.agg e.av, .ptr 0 0 0] [[.agg n.av]] (.lit (.bool (hasN e.heads n))) := by
  refine (is87.to hE).fxb [] (by simp) rfl ⟨rfl, rfl⟩ rfl (by simp) ?_
  have hnv : n.av = [.lit (.string n.name), .lit (.string n.range)] := rfl
  simp [v87, En.av, hnv, okC, mkF]
  refine vcall_go (contN_fx hE e.heads n (by omega)) (by simp [hnv, ro]) (by simp) (by simp) (by simp) ?_
  simp
  exact FinB_ret rfl rfl rfl rfl
theorem idxE_fx (l : List En) (n : Nd) (hl : l.length ≤ 1048576) (hx : ∀ e ∈ l, e.heads.length ≤ 1048576) : Fx E 86 [[.agg n.av]] [.sl ro 5 (l.map fun x => .agg x.av), .fn 87 [.ptr 0 0 0]] [[.agg n.av]] (.lit (.int .i64 (fidx (fun e => hasN e.heads n) l))) := by
  refine (is86.to hE).fxb [] (by simp) rfl ⟨rfl, rfl⟩ rfl (by simp) ?_
  have hok : fnOk E.P 87 = true := hE ▸ (by kernel_rfl : fnOk Go.Proofs.Try.prog 87 = true)
  simp [v86]
  refine X_loop (τ := Nat) (fun i => ⟨[(0, .sl ro 5 (l.map fun x => .agg x.av)), (1, .fn 87 [.ptr 0 0 0]), (7, .lit (.int .i64 l.length)), (8, .lit (.int .i64 i))], [(0, [.agg n.av])]⟩) (fun i => i ≤ l.length ∧ ∀ (m : Nat) (g : En), m < i → l[m]? = some g → hasN g.heads n = false) (fun i => l.length - i) 0 (by simp) (Wk.both (by simp [wkL, wkV.same]) (by simp [wkB])) ?_
  rintro i ⟨hi, hall⟩
  simp
  by_cases hlt : i < l.length
  · have ht : List.take 5 l[i].av = l[i].av := rfl
    simp [hlt, hok, En.len]
    refine vcall_box (n := 0) (res1_fx hE l[i] n (hx _ (List.getElem_mem hlt))) rfl (by simp [ht]; rfl) (by simp [argOk]) (by simp [ptrs, dd]) (by simp) rfl (by simp [Nd.pl]) rfl ⟨rfl, rfl⟩ ?_
    have hr : relab.relabL 16 false n.av = n.av := rfl
    simp [relab, hr]
    cases c : hasN l[i].heads n
    · simp
      refine ⟨i + 1, ⟨by omega, fun m f hm hf => ?_⟩, by omega, Wk.both (by simp [wkL, wkV.same]; rw [wrapN (by omega)]; exact wkV.same _) (by simp [wkB])⟩
      rcases Nat.lt_succ_iff_lt_or_eq.1 hm with h | rfl
      · exact hall m f h hf
      · rw [List.getElem?_eq_getElem hlt] at hf; rw [← Option.some.inj hf]; exact c
    · simp
      exact FinB_ret rfl (by rw [fidx_found hlt c hall]; rfl) rfl rfl
  · simp [hlt]
    exact FinB_ret rfl (by rw [fidx_none fun m g hg => hall m g (by have := (List.getElem?_eq_some_iff.1 hg).1; omega) hg]; rfl) rfl rfl
theorem implRes_fx (l : List En) (n : Nd) (hl : l.length ≤ 1048576) (hx : ∀ e ∈ l, e.heads.length ≤ 1048576) : Fx E 65 [] [.sl ro 5 (l.map fun x => .agg x.av), .agg n.av] [] (.lit (.int .i64 (fidx (fun e => hasN e.heads n) l))) := by
  refine (is65.to hE).fx [] (by simp) rfl rfl ?_
  have hnv : n.av = [.lit (.string n.name), .lit (.string n.range)] := rfl
  simp [v65, hnv, okC]
  refine vcall_box (n := 1003) (idxE_fx hE l n hl hx) rfl (by simp; rfl) (by simp [argOk]) (by simp [ptrs, dd]) (by simp) rfl (by simp [hnv]) (by simp) ⟨rfl, rfl⟩ ?_
  simp
  exact Fin_ret rfl rfl
theorem specRes_fx (l : List En) (n : Nd) (hl : l.length ≤ 1048576) (hx : ∀ e ∈ l, e.heads.length ≤ 1048576) : Fx E 63 [] [.sl ro 5 (l.map fun x => .agg x.av), .agg n.av] [] (.lit (.int .i64 (fidx (fun e => hasN e.heads n) l))) := by
  refine (is63.to hE).fx [] (by simp) rfl rfl ?_
  have hnv : n.av = [.lit (.string n.name), .lit (.string n.range)] := rfl
  simp [v63, hnv, okC]
  refine X_loop (τ := Nat) (fun i => ⟨[(0, .sl ro 5 (l.map fun x => .agg x.av)), (3, .ptr 1003 0 0), (5, .lit (.int .i64 i))], [(1003, [.agg n.av])]⟩) (fun i => i ≤ l.length ∧ ∀ (m : Nat) (g : En), m < i → l[m]? = some g → hasN g.heads n = false) (fun i => l.length - i) 0 (by simp) (Wk.both (by simp [wkL, wkV.same]) (by simp [wkB, hnv])) ?_
  rintro i ⟨hi, hall⟩
  simp [hnv]
  by_cases hlt : i < l.length
  · simp [hlt]
    have hle := hx _ (List.getElem_mem hlt)
    have hev : l[i].av = [.sl ro 2 (l[i].heads.map fun x => .agg x.av), .lit (.string l[i].version), .lit (.string l[i].resolved), .lit (.string l[i].integrity), .sl ro 2 (l[i].needs.map fun x => .agg x.av)] := rfl
    refine X_loop (τ := Nat) (fun k => ⟨[(0, .sl ro 5 (l.map fun x => .agg x.av)), (3, .ptr 1003 0 0), (5, .lit (.int .i64 i)), (6, .lit (.int .i64 k))], [(1003, [.agg n.av])]⟩) (fun k => k ≤ l[i].heads.length ∧ ∀ (m : Nat) (g : Nd), m < k → l[i].heads[m]? = some g → g ≠ n) (fun k => l[i].heads.length - k) 0 (by simp) (Wk.both (by simp [wkL, wkV.same]) (by simp [wkB, hnv])) ?_
    rintro k ⟨hk, hall2⟩
    simp [hlt, hev, mkF, ro, hnv]
    by_cases hlt2 : k < l[i].heads.length
    · have hav : l[i].heads[k].av = [.lit (.string l[i].heads[k].name), .lit (.string l[i].heads[k].range)] := rfl
      simp [hlt, hlt2, ro, mkF, mkF.mkL, hev, hav, hnv]
      by_cases c : l[i].heads[k] = n
      · obtain ⟨c1, c2⟩ := Nd.ext'.1 c
        simp [c1, c2]
        exact Fin_ret rfl (by rw [fidx_found hlt (hasN_true hlt2 c) hall]; rfl)
      · have hb : (decide (l[i].heads[k].name = n.name) && decide (l[i].heads[k].range = n.range)) = false := by
          cases h : (decide (l[i].heads[k].name = n.name) && decide (l[i].heads[k].range = n.range)) with
          | false => rfl
          | true => simp only [Bool.and_eq_true, decide_eq_true_eq] at h; exact absurd (Nd.ext'.2 h) c
        simp [hb]
        refine ⟨k + 1, ⟨by omega, fun m g hm hg => ?_⟩, by omega, Wk.both (by simp [wkL, wkV.same, ro]; rw [wrapN (by omega)]; exact wkV.same _) (by simp [wkB, hnv])⟩
        rcases Nat.lt_succ_iff_lt_or_eq.1 hm with h | rfl
        · exact hall2 m g h hg
        · rw [List.getElem?_eq_getElem hlt2] at hg; rw [← Option.some.inj hg]; exact c
    · simp [hlt2]
      refine ⟨i + 1, ⟨by omega, fun m g hm hg => ?_⟩, by omega, Wk.both (by simp [wkL, wkV.same, ro]; rw [wrapN (by omega)]; exact wkV.same _) (by simp [wkB, hnv])⟩
      rcases Nat.lt_succ_iff_lt_or_eq.1 hm with h | rfl
      · exact hall m g h hg
      · rw [List.getElem?_eq_getElem hlt] at hg; rw [← Option.some.inj hg]
        exact hasN_false fun q x hq => hall2 q x (by have := (List.getElem?_eq_some_iff.1 hq).1; omega) hq
  · simp [hlt]
    exact Fin_ret rfl (by rw [fidx_none fun m g hg => hall m g (by have := (List.getElem?_eq_some_iff.1 hg).1; omega) hg]; rfl)
end
end Go.Proofs.Ytpopccnnjpdmlaa.Vm
