/- Sums, read: the program. -/
import Derived.Test.YtgegcfhifojjiaaDoorIn
namespace Go.Proofs.YtgegcfhifojjiaaDoor.Vm
open Go Go.RowKit
set_option linter.unusedVariables false
set_option linter.unusedSimpArgs false
def v20 : VC := .seq (.reg false [⟨some 2, .as (.c (.sl ⟨.nl, true⟩ 1 [])), none⟩] [2]) (.seq (.reg false [⟨some 3, .mv (.t 0), none⟩, ⟨some 4, .call false 44 [(.t 3), (.c (.lit (.string (by8 " "))))], none⟩, ⟨some 2, .as (.t 4), none⟩] [3, 4]) (.ret))
theorem is20 : Is Go.Proofs.Tryd.prog 20 5 v20 [.t 2] := ⟨Go.Proofs.Tryd.f20, dl [(0, [2]), (1, [3, 4])], Go.Proofs.Tryd.func20, by kernel_rfl, by kernel_rfl, by kernel_rfl, by kernel_rfl⟩
def v6 : VC := .seq (.reg false [⟨some 2, .as (.c (.sl ⟨.nl, true⟩ 1 [])), none⟩, ⟨some 3, .as (.c (.lit (.bool false))), none⟩] [2, 3]) (.seq (.reg false [⟨some 12, .bsl 2 [], none⟩, ⟨some 4, .as (.t 12), none⟩] [12]) (.seq (.seq (.reg false [⟨some 13, .mv (.t 0), none⟩, ⟨some 14, .call false 20 [(.t 13)], none⟩, ⟨some 15, .len false (.t 14), none⟩, ⟨some 16, .mv (.c (.lit (.int .i64 0))), none⟩] [13]) (.block 0 (.loop (.seq (.reg false [⟨some 17, .bin .lss 0 (.t 16) (.t 15), none⟩] []) (.seq (.cond (.t 17) (.skip) (.exit 0)) (.seq (.block 1 (.seq (.reg false [⟨some 18, .ia 1 (.t 14) (.t 16), none⟩, ⟨some 19, .ld false 1 (.t 18), none⟩, ⟨some 6, .as (.t 19), none⟩] [18, 19]) (.seq (.seq (.reg false [⟨some 20, .mv (.t 0), none⟩, ⟨some 21, .bin .eql 0 (.t 20) (.c (.lit (.string (by8 "")))), none⟩] [20]) (.cond (.t 21) (.exit 0) (.skip))) (.seq (.reg false [⟨some 23, .mv (.t 6), none⟩, ⟨some 24, .call false 21 [(.t 23), (.c (.lit (.string (by8 "-"))))], none⟩, ⟨some 22, .mv (.t 24), none⟩, ⟨some 25, .ext (.t 22) 0, none⟩, ⟨some 26, .ext (.t 22) 1, none⟩, ⟨some 27, .ext (.t 22) 2, none⟩, ⟨some 7, .as (.t 25), none⟩, ⟨some 8, .as (.t 26), none⟩, ⟨some 9, .as (.t 27), none⟩] [23, 24, 22, 25, 26, 27, 9]) (.seq (.reg false [⟨some 29, .mv (.t 8), none⟩, ⟨some 30, .call false 22 [(.t 29)], none⟩, ⟨some 28, .mv (.t 30), none⟩, ⟨some 31, .ext (.t 28) 0, none⟩, ⟨some 32, .ext (.t 28) 1, none⟩, ⟨some 10, .as (.t 31), none⟩, ⟨some 11, .as (.t 32), none⟩] [29, 30, 28, 31, 32, 11]) (.reg false [⟨some 33, .mv (.t 4), none⟩, ⟨some 34, .mv (.t 7), none⟩, ⟨some 35, .mv (.t 10), none⟩, ⟨some 36, .bld [(.lit (.string (by8 ""))), (.lit (.string (by8 "")))] [(0, 1, (.t 34)), (1, 1, (.t 35))], none⟩, ⟨some 37, .bsl 2 [(.t 36)], none⟩, ⟨some 38, .app 2 32 (.t 33) (.t 37), none⟩, ⟨some 4, .as (.t 38), none⟩] [33, 34, 35, 36, 37, 38])))))) (.reg false [⟨some 39, .bin .add 0 (.t 16) (.c (.lit (.int .i64 1))), none⟩, ⟨some 16, .mv (.t 39), none⟩] [39]))))))) (.seq (.seq (.reg false [⟨some 40, .mv (.t 4), none⟩, ⟨some 41, .call false 23 [(.t 40)], none⟩, ⟨some 42, .un .not (.t 41), none⟩, ⟨some 43, .mv (.t 42), none⟩, ⟨some 44, .mv (.t 4), (some (43, false))⟩, ⟨some 45, .call false 24 [(.t 44)], (some (43, false))⟩, ⟨some 46, .mv (.t 0), (some (43, false))⟩, ⟨some 47, .bin .neq 0 (.t 45) (.t 46), (some (43, false))⟩, ⟨some 48, .pick (.t 43) (.c (.lit (.bool true))) (.t 47), none⟩] [40, 41, 42, 43, 44, 45, 46, 47]) (.cond (.t 48) (.seq (.reg false [⟨some 2, .as (.c (.sl ⟨.nl, true⟩ 1 [])), none⟩, ⟨some 3, .as (.c (.lit (.bool false))), none⟩] []) (.ret)) (.skip))) (.seq (.reg false [⟨some 49, .mv (.t 4), none⟩, ⟨some 2, .as (.t 49), none⟩, ⟨some 3, .as (.c (.lit (.bool true))), none⟩] [49]) (.ret)))))
theorem is6 : Is Go.Proofs.Tryd.prog 6 50 v6 [.t 2, .t 3] := ⟨Go.Proofs.Tryd.f6, dl [(0, [2, 3]), (1, [12]), (2, [13]), (4, [18, 19]), (5, [20]), (6, [23, 24, 22, 25, 26, 27, 9]), (7, [29, 30, 28, 31, 32, 11]), (8, [33, 34, 35, 36, 37, 38]), (9, [39]), (10, [40, 41, 42, 43, 44, 45, 46, 47]), (12, [49])], Go.Proofs.Tryd.func6, by kernel_rfl, by kernel_rfl, by kernel_rfl, by kernel_rfl⟩
theorem cutC_eq (p : ByteArray) : ∃ d, cutC 45 p = .tup [.lit (.string (cutL p)), .lit (.string (cutR p)), .lit (.bool d)] := by
  unfold cutC cutL cutR
  by_cases h : 0 ≤ Lib.indexB p (one 45)
  · rw [if_pos h, if_neg (by omega), if_neg (by omega)]; exact ⟨_, rfl⟩
  · rw [if_neg h, if_pos (by omega), if_pos (by omega)]; exact ⟨_, rfl⟩
theorem unRes_eq (s : ByteArray) : ∃ ok, unRes s = .tup [.lit (.string ((unB s).getD (by8 ""))), .lit (.bool ok)] := by
  unfold unRes
  cases unB s with
  | none => exact ⟨_, rfl⟩
  | some b => exact ⟨_, rfl⟩
section
variable {E : Env} (hE : E.P = Go.Proofs.Tryd.prog) (hM : ∀ w, E.K w → KM w)
include hE hM
theorem implWords_fx (s : ByteArray) (hs : s.size ≤ 4294967280) : Fx E 20 [] [.lit (.string s)] [] (.sl ⟨.no, true⟩ 1 ((spl 32 s).map fun x => .lit (.string x))) := by
  refine (is20.to hE).fx [] (by simp) rfl rfl ?_
  simp [v20]
  refine vcall_go (splitM_fx hE hM s (one 32) (by omega) (by decide)) (by rw [← by32]; rfl) (by simp) (by simp) (by simp) ?_
  simp
  exact Fin_ret rfl rfl
set_option maxHeartbeats 8000000 in
theorem implGetI_fx (s : ByteArray) (hs : s.size ≤ 1048576) : Fx E 6 [] [.lit (.string s)] [] (giRes s) := by
  have hno : giI s = none → giRes s = .tup [.sl ⟨.no, true⟩ 2 [], .lit (.bool false)] := fun h => by rw [giRes, h]
  have hyes : ∀ l, giI s = some l → giRes s = .tup [.sl ⟨.no, true⟩ 2 (l.map fun x => .agg x.av), .lit (.bool true)] := fun l h => by rw [giRes, h]
  have hz : ∀ (i : Nat) p, (spl 32 s)[i]? = some p → p.size ≤ s.size := fun i p h => spl_size h
  have hll := spl_len_le 32 s
  refine (is6.to hE).fx [] (by simp) rfl (giRes_ok s) ?_
  simp [v6]
  refine vcall_go (implWords_fx hE hM s (by omega)) (by simp) (by simp) (by simp) (by simp) ?_
  have hg : giI s = if s = by8 "" then some [] else if sumsOk ((spl 32 s).map smI) = true ∧ pig ((spl 32 s).map smI) = s then some ((spl 32 s).map smI) else none := rfl
  have hwne : 0 < (spl 32 s).length := List.length_pos_iff.2 (spl_ne 32 s)
  obtain ⟨w, hw⟩ : ∃ w, spl 32 s = w := ⟨_, rfl⟩
  rw [hw] at hz hll hg hwne ⊢
  have hsm : ∀ x ∈ w.map smI, x.small := fun x hx => by
    obtain ⟨p, hp, rfl⟩ := List.mem_map.1 hx
    obtain ⟨j, hj, rfl⟩ := List.getElem_of_mem hp
    exact smI_small (Nat.le_trans (hz j _ (List.getElem?_eq_getElem hj)) hs)
  simp
  refine X_loop (τ := Nat) (fun i => ⟨[(0, .lit (.string s)), (4, .sl ⟨.cl 768, true⟩ 2 (((w.take i).map smI).map fun x => .agg x.av)), (14, .sl ⟨.no, true⟩ 1 (w.map fun x => .lit (.string x))), (15, .lit (.int .i64 w.length)), (16, .lit (.int .i64 i))], []⟩) (fun i => i ≤ w.length ∧ (i = 0 ∨ s ≠ by8 "")) (fun i => w.length - i) 0 ⟨by omega, .inl rfl⟩ (Wk.both (by simp [wkL, wkV.same, frA.frL]) trivial) ?_
  rintro i ⟨hi, hi0⟩
  simp
  by_cases hlt : i < w.length
  · simp [hlt, mkF]
    by_cases hs0 : s = by8 ""
    · have h0 : i = 0 := by rcases hi0 with h | h; exact h; exact absurd hs0 h
      subst h0
      have hn : giI s = some [] := by rw [hg, if_pos hs0]
      have hr : sumsOk [] = true := by decide +kernel
      have hr2 := implSums_fx hE [] (by simp) (by simp)
      rw [hr] at hr2
      simp [hs0]
      refine vcall_go hr2 (by simp [ro]) (by simp) (by simp) (by simp) ?_
      simp
      refine vcall_go (implPutI_fx hE [] (by simp) (by simp)) (by simp [ro]) (by simp) (by simp) (by simp) ?_
      rw [show pig [] = by8 "" from joinB_nil _]
      simp
      exact fin_row2 (by decide) rfl rfl (hyes [] hn)
    · have hpz := hz i _ (List.getElem?_eq_getElem hlt)
      have hrz := cutR_size w[i]
      simp [hs0]
      obtain ⟨d, hd⟩ := cutC_eq w[i]
      refine vcall_go (cutM_fx hE hM 45 w[i] (by omega)) (by rw [← by45']; rfl) (by simp) (by simp) (by simp) ?_
      rw [hd]
      simp
      obtain ⟨ok, hk⟩ := unRes_eq (cutR w[i])
      refine vcall_go (implGet64_fx hE (cutR w[i]) (by omega)) (by simp) (by simp) (by simp) (by simp) ?_
      rw [hk]
      simp [fill, upd, okC, frA, frA.frL, AS.dem, mapV, dem, dem.demL]
      have hav : (smI w[i]).av = [.lit (.string (cutL w[i])), .lit (.string ((unB (cutR w[i])).getD (by8 "")))] := rfl
      have htk : List.take (i + 1) (List.map ((fun x : Sm => AV.agg x.av) ∘ smI) w) = List.take i (List.map ((fun x : Sm => AV.agg x.av) ∘ smI) w) ++ [AV.agg (smI w[i]).av] := by
        rw [List.take_succ_eq_append_getElem (by simpa using hlt), List.getElem_map]; rfl
      rw [hav] at htk
      refine ⟨by omega, i + 1, ⟨by omega, .inr hs0⟩, by omega, Wk.both (by simp [wkL, wkV.same, htk]; rw [wrapN (by omega)]; exact wkV.same _) trivial⟩
  · obtain rfl : i = w.length := by omega
    have hs0 : ¬ s = by8 "" := by rcases hi0 with h | h; omega; exact h
    rw [if_neg hs0] at hg
    rw [show List.take w.length (List.map ((fun x : Sm => AV.agg x.av) ∘ smI) w) = (w.map smI).map (fun x => AV.agg x.av) by rw [List.take_of_length_le (by simp), List.map_map]]
    obtain ⟨out, ho⟩ : ∃ out, w.map smI = out := ⟨_, rfl⟩
    have hol : out.length = w.length := by rw [← ho, List.length_map]
    rw [ho] at hg hsm ⊢
    simp
    refine vcall_go (implSums_fx hE out (by omega) hsm) (by simp [ro]) (by simp) (by simp) (by simp) ?_
    simp
    cases c1 : sumsOk out
    · have hn : giI s = none := by rw [hg, c1]; simp
      simp
      exact fin_nil2 (by decide) rfl rfl (hno hn)
    simp
    refine vcall_go (implPutI_fx hE out (by omega) hsm) (by simp [ro]) (by simp) (by simp) (by simp) ?_
    by_cases c2 : pig out = s
    · have hn : giI s = some out := by rw [hg, c1, if_pos ⟨rfl, c2⟩]
      simp [c2]
      exact fin_row2 (by decide) rfl rfl (hyes out hn)
    · have hn : giI s = none := by rw [hg, if_neg fun h => c2 h.2]
      simp [c2]
      exact fin_nil2 (by decide) rfl rfl (hno hn)
end
end Go.Proofs.YtgegcfhifojjiaaDoor.Vm
