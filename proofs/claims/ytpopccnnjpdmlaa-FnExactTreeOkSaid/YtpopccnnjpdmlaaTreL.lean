/- TreeOk: the law. -/
import Derived.Test.YtpopccnnjpdmlaaTreI
import Derived.Test.YtpopccnnjpdmlaaVmOpen
namespace Go.Proofs.Ytpopccnnjpdmlaa.Vm
open Go Go.RowKit
set_option linter.unusedVariables false
set_option linter.unusedSimpArgs false
def v11 : VC := .seq (.reg false [⟨some 1, .box 5 (.t 0), none⟩, ⟨some 2, .as (.c (.lit (.bool false))), none⟩] [2]) (.seq (.reg false [⟨some 3, .alloc (.lit (.int .i64 0)), none⟩, ⟨none, .st 1 (.t 3) (.c (.lit (.int .i64 600))), none⟩] []) (.seq (.reg false [⟨some 4, .ld true 5 (.t 1), none⟩, ⟨some 5, .call false 51 [(.t 4), (.c (.lit (.int .i64 0))), (.t 3)], none⟩, ⟨some 2, .as (.t 5), none⟩] [4, 5]) (.ret)))
theorem is11 : Is Go.Proofs.Try.prog 11 6 v11 [.t 2] := ⟨Go.Proofs.Try.f11, dl [(0, [2]), (2, [4, 5])], Go.Proofs.Try.func11, by kernel_rfl, by kernel_rfl, by kernel_rfl, by kernel_rfl⟩
def v3 : VC := .seq (.reg false [⟨some 1, .box 5 (.t 0), none⟩, ⟨some 2, .as (.c (.lit (.bool false))), none⟩] [2]) (.seq (.reg false [⟨some 3, .as (.c (.lit (.int .i64 1048576))), none⟩] []) (.seq (.reg false [⟨some 7, .ld true 5 (.t 1), none⟩, ⟨some 8, .mv (.t 3), none⟩, ⟨some 9, .call false 8 [(.t 7), (.t 8)], none⟩, ⟨some 3, .as (.t 9), none⟩] [7, 8, 9]) (.seq (.seq (.reg false [⟨some 10, .mv (.t 3), none⟩, ⟨some 11, .bin .lss 0 (.t 10) (.c (.lit (.int .i64 0))), none⟩] [10]) (.cond (.t 11) (.seq (.reg false [⟨some 2, .as (.c (.lit (.bool true))), none⟩] []) (.ret)) (.skip))) (.seq (.reg false [⟨some 12, .ld true 5 (.t 1), none⟩, ⟨some 13, .call false 10 [(.t 12)], none⟩, ⟨some 14, .call false 9 [(.t 13)], none⟩, ⟨some 4, .as (.t 14), none⟩] [12, 13, 14]) (.seq (.reg false [⟨some 15, .ld true 5 (.t 1), none⟩, ⟨some 16, .call false 10 [(.t 15)], none⟩, ⟨some 5, .alloc (.agg [(.lit (.int .i64 0)), (.lit (.int .i64 0)), (.lit (.string (by8 ""))), (.sl ⟨.nl, true⟩ 1 []), (.sl ⟨.nl, true⟩ 1 [])]), none⟩, ⟨none, .st 5 (.t 5) (.t 16), none⟩] [15, 16]) (.seq (.reg false [⟨some 17, .ld true 5 (.t 5), none⟩, ⟨some 18, .call false 11 [(.t 17)], none⟩, ⟨some 6, .as (.t 18), none⟩] [17, 18]) (.seq (.seq (.reg false [⟨some 19, .mv (.t 6), none⟩, ⟨some 20, .mv (.t 4), none⟩, ⟨some 21, .bin .neq 2 (.t 19) (.t 20), none⟩] [19, 20]) (.cond (.t 21) (.seq (.reg false [⟨some 2, .as (.c (.lit (.bool false))), none⟩] []) (.ret)) (.skip))) (.seq (.seq (.reg true [⟨some 22, .ld true 5 (.t 5), none⟩, ⟨some 23, .ld true 5 (.t 1), none⟩, ⟨some 24, .call true 10 [(.t 23)], none⟩, ⟨some 25, .call true 12 [(.t 22), (.t 24)], none⟩, ⟨some 26, .un .not (.t 25), none⟩] [22, 23, 24, 25]) (.cond (.t 26) (.seq (.reg false [⟨some 2, .as (.c (.lit (.bool false))), none⟩] []) (.ret)) (.skip))) (.seq (.reg false [⟨some 2, .as (.c (.lit (.bool true))), none⟩] []) (.ret))))))))))
theorem is3 : Is Go.Proofs.Try.prog 3 27 v3 [.t 2] := ⟨Go.Proofs.Try.f3, dl [(0, [2]), (2, [7, 8, 9]), (3, [10]), (5, [12, 13, 14]), (6, [15, 16]), (7, [17, 18]), (8, [19, 20]), (10, [22, 23, 24, 25])], Go.Proofs.Try.func3, by kernel_rfl, by kernel_rfl, by kernel_rfl, by kernel_rfl⟩
theorem szGo_bound {α : Type} {f : α → Int → Int} (hf : ∀ x l, 0 ≤ l → f x l ≤ l) : ∀ {xs : List α} {l : Int}, 0 ≤ l → 0 ≤ szGo f xs l → ∀ x ∈ xs, ∃ m, 0 ≤ m ∧ m ≤ l ∧ 0 ≤ f x m
  | [], _, _, _, x, hx => by simp at hx
  | y :: xs, l, h0, h, x, hx => by
    simp only [szGo] at h
    split at h
    · omega
    · rename_i h1
      rcases List.mem_cons.1 hx with rfl | hx
      · exact ⟨l, h0, Int.le_refl l, by omega⟩
      · obtain ⟨m, m1, m2, m3⟩ := szGo_bound hf (l := f y l) (by omega) h x hx
        have := hf y l h0
        exact ⟨m, m1, by omega, m3⟩
theorem szL_bound {α : Type} {f : α → Int → Int} (hf : ∀ x l, 0 ≤ l → f x l ≤ l) {xs : List α} {l : Int} (h : 0 ≤ szL f xs l) : (xs.length : Int) ≤ l ∧ ∀ x ∈ xs, ∃ m, 0 ≤ m ∧ m ≤ l ∧ 0 ≤ f x m := by
  unfold szL at h
  split at h
  · omega
  · refine ⟨by omega, fun x hx => ?_⟩
    obtain ⟨m, m1, m2, m3⟩ := szGo_bound hf (l := l - xs.length) (by omega) h x hx
    exact ⟨m, m1, by omega, m3⟩
theorem szIf_bound {l : Int} {k : Int → Int} (h : 0 ≤ szIf l k) : 0 ≤ l ∧ 0 ≤ k l := by
  unfold szIf at h
  split at h
  · omega
  · exact ⟨by omega, h⟩
theorem szGo_add {α : Type} {f : α → Int → Int} {c : α → Nat} (hc : ∀ x l, 0 ≤ l → 0 ≤ f x l → f x l + (c x : Int) ≤ l) : ∀ {xs : List α} {l : Int}, 0 ≤ l → 0 ≤ szGo f xs l → szGo f xs l + ((xs.map c).sum : Nat) ≤ l
  | [], l, h0, h => by simp [szGo]
  | y :: xs, l, h0, h => by
    simp only [szGo] at h ⊢
    split at h
    · omega
    · rename_i h1
      rw [if_neg h1]
      have a := hc y l h0 (by omega)
      have b := szGo_add hc (xs := xs) (l := f y l) (by omega) h
      simp only [List.map_cons, List.sum_cons]
      omega
theorem Tr.cntL_sum : ∀ l : List Tr, Tr.cntL l = (l.map fun x => x.cnt - 1).sum + l.length
  | [] => rfl
  | x :: l => by
    have := Tr.cnt_pos x
    rw [Tr.cntL_cons, Tr.cntL_sum l]; simp; omega
/-- what is left says how many there are -/
theorem Tr.szN_cnt : ∀ (m : Nat) (x : Tr) (l : Int), x.goodN m → 0 ≤ l → 0 ≤ x.szN m l → x.szN m l + (x.cnt - 1 : Nat) ≤ l
  | 0, x, l, hg, _, _ => hg.elim
  | m + 1, x, l, hg, h0, h => by
    obtain ⟨g1, g2, g3, g4, g5⟩ := hg
    have hle : x.szN (m + 1) l = szIf (l - x.s.size) fun l => szIf (szL (fun (x : ByteArray) l => l - x.size) x.keys l) fun l => szIf (szL (Tr.szN m) x.kids l) fun l => l := rfl
    rw [hle] at h ⊢
    obtain ⟨h1, h⟩ := szIf_bound h
    have e1 := szIf_pos (l := l - x.s.size) (k := fun l => szIf (szL (fun (x : ByteArray) l => l - x.size) x.keys l) fun l => szIf (szL (Tr.szN m) x.kids l) fun l => l) (by omega)
    rw [e1]
    obtain ⟨h2, h⟩ := szIf_bound h
    have e2 := szIf_pos (l := szL (fun (x : ByteArray) l => l - x.size) x.keys (l - x.s.size)) (k := fun l => szIf (szL (Tr.szN m) x.kids l) fun l => l) (by omega)
    rw [e2]
    obtain ⟨h3, h⟩ := szIf_bound h
    have e3 := szIf_pos (l := szL (Tr.szN m) x.kids (szL (fun (x : ByteArray) l => l - x.size) x.keys (l - x.s.size))) (k := fun l => l) (by omega)
    rw [e3]
    have k1 := szL_le (f := fun (x : ByteArray) l => l - x.size) (xs := x.keys) (l := l - x.s.size) (fun x _ l _ => by omega) h1
    generalize szL (fun (x : ByteArray) l => l - x.size) x.keys (l - x.s.size) = l2 at h2 h3 k1 ⊢
    rw [Tr.cnt_eq, Tr.cntL_sum]
    unfold szL at h3 ⊢
    split at h3
    · omega
    · rename_i h4
      rw [if_neg h4]
      have key : ∀ (ys : List Tr) (l : Int), (∀ y ∈ ys, y.goodN m) → 0 ≤ l → 0 ≤ szGo (Tr.szN m) ys l → szGo (Tr.szN m) ys l + ((ys.map fun x => x.cnt - 1).sum : Nat) ≤ l := by
        intro ys
        induction ys with
        | nil => intro l _ _ _; simp [szGo]
        | cons y ys ih =>
          intro l hy h0 h
          simp only [szGo] at h ⊢
          split at h
          · omega
          · rename_i h5
            rw [if_neg h5]
            have a := Tr.szN_cnt m y l (hy y List.mem_cons_self) h0 (by omega)
            have b := ih (Tr.szN m y l) (fun z hz => hy z (List.mem_cons_of_mem _ hz)) (by omega) h
            simp only [List.map_cons, List.sum_cons]
            omega
      have := key x.kids (l2 - x.kids.length) g5 (by omega) h3
      omega
theorem Tr.szN_fit : ∀ (m : Nat) (x : Tr) (l : Int), x.goodN m → 0 ≤ l → l ≤ 1048576 → 0 ≤ x.szN m l → x.fitN m
  | 0, x, l, hg, _, _, _ => hg.elim
  | m + 1, x, l, hg, h0, hl, h => by
    obtain ⟨g1, g2, g3, g4, g5⟩ := hg
    have hle : x.szN (m + 1) l = szIf (l - x.s.size) fun l => szIf (szL (fun (x : ByteArray) l => l - x.size) x.keys l) fun l => szIf (szL (Tr.szN m) x.kids l) fun l => l := rfl
    rw [hle] at h
    obtain ⟨h1, h⟩ := szIf_bound h
    obtain ⟨h2, h⟩ := szIf_bound h
    obtain ⟨h3, h⟩ := szIf_bound h
    have k1 := szL_le (f := fun (x : ByteArray) l => l - x.size) (xs := x.keys) (l := l - x.s.size) (fun x _ l _ => by omega) h1
    have b1 := szL_bound (f := fun (x : ByteArray) l => l - x.size) (fun x l _ => by omega) h2
    have b2 := szL_bound (f := Tr.szN m) (Tr.szN_le m) h3
    refine ⟨by omega, fun s hs => ?_, by omega, by omega, fun y hy => ?_⟩
    · obtain ⟨q, q1, q2, q3⟩ := b1.2 s hs
      omega
    · obtain ⟨q, q1, q2, q3⟩ := b2.2 y hy
      exact Tr.szN_fit m y q (g5 y hy) q1 (by omega) q3
theorem Tr.fitN_cnt : ∀ (m : Nat) (x : Tr) (k : Nat), x.fitN m → x.cnt ≤ k → x.fitN k
  | 0, x, k, h, _ => h.elim
  | m + 1, x, 0, h, hk => by have := Tr.cnt_pos x; omega
  | m + 1, x, k + 1, h, hk => ⟨h.1, h.2.1, h.2.2.1, h.2.2.2.1, fun y hy => Tr.fitN_cnt m y k (h.2.2.2.2 y hy) (Tr.cnt_kid hk hy)⟩
section
variable {E : Env} (hE : E.P = Go.Proofs.Try.prog)
include hE
theorem implTreeOk_fx (m : Nat) (x : Tr) (hg : x.fitN m) (hm : m ≤ 1099511627776) (hc : x.cnt ≤ 1099511627776) : Fx E 11 [] [.agg x.av] [] (.lit (.bool (rightN m x 8 && decide (x.cnt ≤ 600)))) := by
  have hsp := (fitL_spec m x 0 600 (by omega) (by omega) hg).1
  refine (is11.to hE).fx [] (by simp) rfl rfl ?_
  simp [v11, Tr.av_eq x, okC, mkF, putElem, upd, ro]
  refine vcall_box (n := 1003) (treeFits_fx hE m x 0 600 hg (by omega) (by omega) (by omega) (by omega)) rfl (by rw [Tr.av_eq x]; rfl) (by simp [argOk]) (by simp [ptrs, dd]) (by simp) rfl (by simp) (by simp) ⟨rfl, rfl⟩ ?_
  simp
  have e : decide ((x.cnt : Int) ≤ 600) = decide (x.cnt ≤ 600) := decide_eq_decide.2 (by omega)
  rw [show (8 : Int) - 0 = 8 from rfl, e] at hsp
  exact Fin_ret rfl (by rw [← hsp]; rfl)
set_option maxHeartbeats 2000000 in
theorem law_fx (m : Nat) (x : Tr) (hg : x.goodN m) : Fx E 3 [] [.agg x.av] [] (.lit (.bool true)) := by
  refine (is3.to hE).fx [] (by simp) rfl rfl ?_
  simp [v3, Tr.av_eq x, okC, mkF, ro]
  refine vcall_go (szTree_fx hE m x 1048576 hg (by omega) (by omega)) (by rw [Tr.av_eq x]; simp [ro]) (by simp) (by simp) (by simp) ?_
  simp
  by_cases c1 : Tr.szN m x 1048576 < 0
  · simp [c1]
    exact Fin_ret rfl rfl
  · have hc := Tr.szN_cnt m x 1048576 hg (by omega) (by omega)
    have hcb := Tr.szN_le m x 1048576 (by omega)
    have hf := Tr.fitN_cnt m x x.cnt (Tr.szN_fit m x 1048576 hg (by omega) (by omega) (by omega)) (Nat.le_refl _)
    have hto := toTree_fx hE _ x hf
    simp [c1, mkF]
    refine vcall_go hto (by rw [Tr.av_eq x]; simp [ro]) (by simp) (by simp) (by simp) ?_
    simp
    refine vcall_go (specTreeOk_fx hE _ x hf (by omega) (by omega)) (by rw [Tr.av_eq x]; simp [ro, mkF, mkF.mkL, strip.stripL, strip]) (by simp) (by simp) (by simp) ?_
    simp [mkF]
    refine vcall_go hto (by rw [Tr.av_eq x]; simp [ro]) (by simp) (by simp) (by simp) ?_
    simp [Tr.av_eq x, okC, mkF, mkF.mkL, putElem, upd]
    refine vcall_go (implTreeOk_fx hE _ x hf (by omega) (by omega)) (by rw [Tr.av_eq x]; simp [ro, mkF, mkF.mkL, strip.stripL, strip]) (by simp) (by simp) (by simp) ?_
    simp [mkF]
    refine vcall_go hto (by rw [Tr.av_eq x]; simp [ro]) (by simp) (by simp) (by simp) ?_
    simp [Tr.av_eq x, okC, mkF, mkF.mkL, putElem, upd]
    refine vcall_go (eqTree_fx hE _ x x hf) (by rw [Tr.av_eq x]; simp [ro, mkF, mkF.mkL, strip.stripL, strip]) (by simp) (by simp) (by simp) ?_
    simp [Tr.eqN_refl]
    exact Fin_ret rfl rfl
end
end Go.Proofs.Ytpopccnnjpdmlaa.Vm
