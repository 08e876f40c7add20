/- Unmet: the law. -/
import Derived.Test.YtpopccnnjpdmlaaUnT
import Derived.Test.YtpopccnnjpdmlaaBnd
namespace Go.Proofs.Ytpopccnnjpdmlaa.Vm
open Go Go.RowKit
set_option linter.unusedVariables false
set_option linter.unusedSimpArgs false
def v5 : VC := .seq (.reg false [⟨some 2, .as (.c (.lit (.bool false))), none⟩] [2]) (.seq (.reg false [⟨some 3, .as (.c (.lit (.int .i64 1048576))), none⟩] []) (.seq (.reg false [⟨some 11, .mv (.t 0), none⟩, ⟨some 12, .mv (.t 3), none⟩, ⟨some 13, .call false 22 [(.t 11), (.t 12)], none⟩, ⟨some 3, .as (.t 13), none⟩] [11, 12, 13]) (.seq (.seq (.reg false [⟨some 14, .mv (.t 3), none⟩, ⟨some 15, .bin .lss 0 (.t 14) (.c (.lit (.int .i64 0))), none⟩] [14]) (.cond (.t 15) (.seq (.reg false [⟨some 2, .as (.c (.lit (.bool true))), none⟩] []) (.ret)) (.skip))) (.seq (.reg false [⟨some 16, .mv (.t 0), none⟩, ⟨some 17, .call false 24 [(.t 16)], none⟩, ⟨some 18, .call false 23 [(.t 17)], none⟩, ⟨some 4, .as (.t 18), none⟩] [16, 17, 18]) (.seq (.reg false [⟨some 19, .mv (.t 0), none⟩, ⟨some 20, .call false 24 [(.t 19)], none⟩, ⟨some 5, .as (.t 20), none⟩] [19, 20]) (.seq (.reg false [⟨some 21, .mv (.t 5), none⟩, ⟨some 22, .call false 25 [(.t 21)], none⟩, ⟨some 6, .as (.t 22), none⟩] [21, 22]) (.seq (.seq (.reg false [⟨some 23, .mv (.t 6), none⟩, ⟨some 24, .mv (.t 4), none⟩, ⟨some 25, .call false 26 [(.t 23), (.t 24)], none⟩, ⟨some 26, .un .not (.t 25), none⟩] [23, 24, 25]) (.cond (.t 26) (.seq (.reg false [⟨some 2, .as (.c (.lit (.bool false))), none⟩] []) (.ret)) (.skip))) (.seq (.seq (.reg false [⟨some 27, .mv (.t 5), none⟩, ⟨some 28, .mv (.t 0), none⟩, ⟨some 29, .call false 24 [(.t 28)], none⟩, ⟨some 30, .call false 27 [(.t 27), (.t 29)], none⟩, ⟨some 31, .un .not (.t 30), none⟩] [27, 28, 29, 30]) (.cond (.t 31) (.seq (.reg false [⟨some 2, .as (.c (.lit (.bool false))), none⟩] []) (.ret)) (.skip))) (.seq (.reg false [⟨some 7, .as (.c (.lit (.int .i64 1))), none⟩] []) (.seq (.reg false [⟨some 32, .mv (.t 5), none⟩, ⟨some 33, .mv (.t 7), none⟩, ⟨some 34, .call false 28 [(.t 32), (.t 33)], none⟩, ⟨some 7, .as (.t 34), none⟩] [32, 33, 34]) (.seq (.seq (.reg false [⟨some 35, .mv (.t 7), none⟩, ⟨some 36, .bin .lss 0 (.t 35) (.c (.lit (.int .i64 0))), none⟩, ⟨some 37, .mv (.t 36), none⟩, ⟨some 38, .mv (.t 6), (some (37, false))⟩, ⟨some 39, .mv (.t 4), (some (37, false))⟩, ⟨some 40, .call false 26 [(.t 38), (.t 39)], (some (37, false))⟩, ⟨some 41, .un .not (.t 40), (some (37, false))⟩, ⟨some 42, .pick (.t 37) (.c (.lit (.bool true))) (.t 41), none⟩] [35, 36, 37, 38, 39, 40, 41]) (.cond (.t 42) (.seq (.reg false [⟨some 2, .as (.c (.lit (.bool false))), none⟩] []) (.ret)) (.skip))) (.seq (.reg false [⟨some 8, .as (.c (.lit (.int .i64 1))), none⟩] []) (.seq (.reg false [⟨some 43, .mv (.t 6), none⟩, ⟨some 44, .mv (.t 8), none⟩, ⟨some 45, .call false 29 [(.t 43), (.t 44)], none⟩, ⟨some 8, .as (.t 45), none⟩] [43, 44, 45]) (.seq (.reg false [⟨some 9, .as (.c (.lit (.int .i64 1))), none⟩] []) (.seq (.reg false [⟨some 46, .mv (.t 6), none⟩, ⟨some 47, .mv (.t 9), none⟩, ⟨some 48, .call false 30 [(.t 46), (.t 47)], none⟩, ⟨some 9, .as (.t 48), none⟩] [46, 47, 48]) (.seq (.seq (.reg false [⟨some 49, .mv (.t 9), none⟩, ⟨some 50, .bin .lss 0 (.t 49) (.c (.lit (.int .i64 0))), none⟩] [49]) (.cond (.t 50) (.seq (.reg false [⟨some 2, .as (.c (.lit (.bool false))), none⟩] []) (.ret)) (.skip))) (.seq (.seq (.reg false [⟨some 51, .mv (.t 9), none⟩, ⟨some 52, .mv (.t 8), none⟩, ⟨some 53, .bin .neq 0 (.t 51) (.t 52), none⟩] [51, 52]) (.cond (.t 53) (.seq (.reg false [⟨some 2, .as (.c (.lit (.bool false))), none⟩] []) (.ret)) (.skip))) (.seq (.reg false [⟨some 54, .mv (.t 0), none⟩, ⟨some 55, .call false 24 [(.t 54)], none⟩, ⟨some 56, .call false 25 [(.t 55)], none⟩, ⟨some 10, .as (.t 56), none⟩] [54, 55, 56]) (.seq (.seq (.reg false [⟨some 57, .mv (.t 10), none⟩, ⟨some 58, .mv (.t 4), none⟩, ⟨some 59, .call false 26 [(.t 57), (.t 58)], none⟩, ⟨some 60, .un .not (.t 59), none⟩] [57, 58, 59]) (.cond (.t 60) (.seq (.reg false [⟨some 2, .as (.c (.lit (.bool false))), none⟩] []) (.ret)) (.skip))) (.seq (.reg false [⟨some 9, .as (.c (.lit (.int .i64 1))), none⟩] []) (.seq (.reg false [⟨some 61, .mv (.t 6), none⟩, ⟨some 62, .mv (.t 9), none⟩, ⟨some 63, .call false 30 [(.t 61), (.t 62)], none⟩, ⟨some 9, .as (.t 63), none⟩] [61, 62, 63]) (.seq (.seq (.reg false [⟨some 64, .mv (.t 9), none⟩, ⟨some 65, .bin .lss 0 (.t 64) (.c (.lit (.int .i64 0))), none⟩] [64]) (.cond (.t 65) (.seq (.reg false [⟨some 2, .as (.c (.lit (.bool false))), none⟩] []) (.ret)) (.skip))) (.seq (.seq (.reg false [⟨some 66, .mv (.t 9), none⟩, ⟨some 67, .mv (.t 8), none⟩, ⟨some 68, .bin .neq 0 (.t 66) (.t 67), none⟩] [66, 67]) (.cond (.t 68) (.seq (.reg false [⟨some 2, .as (.c (.lit (.bool false))), none⟩] []) (.ret)) (.skip))) (.seq (.reg false [⟨some 2, .as (.c (.lit (.bool true))), none⟩] []) (.ret)))))))))))))))))))))))))
theorem is5 : Is Go.Proofs.Try.prog 5 69 v5 [.t 2] := ⟨Go.Proofs.Try.f5, dl [(0, [2]), (2, [11, 12, 13]), (3, [14]), (5, [16, 17, 18]), (6, [19, 20]), (7, [21, 22]), (8, [23, 24, 25]), (10, [27, 28, 29, 30]), (13, [32, 33, 34]), (14, [35, 36, 37, 38, 39, 40, 41]), (17, [43, 44, 45]), (19, [46, 47, 48]), (20, [49]), (22, [51, 52]), (24, [54, 55, 56]), (25, [57, 58, 59]), (28, [61, 62, 63]), (29, [64]), (31, [66, 67])], Go.Proofs.Try.func5, by kernel_rfl, by kernel_rfl, by kernel_rfl, by kernel_rfl⟩
theorem szL_lenb {α : Type} {f : α → Int → Int} (hf : ∀ x l, 0 ≤ l → f x l ≤ l) {xs : List α} {l : Int} (h : 0 ≤ szL f xs l) (h0 : 0 ≤ l) : szL f xs l + xs.length ≤ l := by
  unfold szL at h ⊢
  split at h
  · omega
  · rename_i h4
    rw [if_neg h4]
    have := szGo_le (f := f) (xs := xs) (l := l - xs.length) (fun x _ l h => hf x l h) (by omega)
    omega
theorem En.bound {x : En} {l : Int} (h : 0 ≤ x.sz l) (h0 : 0 ≤ l) : x.sz l + x.heads.length + x.needs.length ≤ l := by
  unfold En.sz at h ⊢
  obtain ⟨h1, h, e1⟩ := szIf_bound h
  rw [e1]
  obtain ⟨h2, h, e2⟩ := szIf_bound h
  rw [e2]
  obtain ⟨h3, h, e3⟩ := szIf_bound h
  rw [e3]
  obtain ⟨h4, h, e4⟩ := szIf_bound h
  rw [e4]
  obtain ⟨h5, h, e5⟩ := szIf_bound h
  rw [e5]
  have k1 := szL_lenb Nd.sz_le h1 h0
  have k2 := szL_lenb Nd.sz_le h5 h4
  omega
theorem szGo_cntE : ∀ {xs : List En} {l : Int}, 0 ≤ l → 0 ≤ szGo En.sz xs l → 2 * szGo En.sz xs l + cntE xs ≤ 2 * l + 3 * xs.length
  | [], l, h0, h => by simp [szGo, cntE]
  | y :: xs, l, h0, h => by
    simp only [szGo] at h ⊢
    split at h
    · omega
    · rename_i h1
      rw [if_neg h1]
      have a := En.bound (x := y) (l := l) (by omega) h0
      have b := szGo_cntE (xs := xs) (l := y.sz l) (by omega) h
      simp only [cntE, En.cnt, List.length_cons]
      omega
theorem Ens.bound {xs : List En} (h : 0 ≤ szL En.sz xs 1048576) : xs.length ≤ 1048576 ∧ (∀ e ∈ xs, e.heads.length ≤ 1048576 ∧ e.needs.length ≤ 1048576) ∧ cntE xs ≤ 8388608 := by
  have hb := szL_bound (f := En.sz) En.sz_le h
  refine ⟨by omega, fun f hf => ?_, ?_⟩
  · obtain ⟨m, m1, m2, m3⟩ := hb.2 f hf
    have := En.bound m3 m1
    omega
  · unfold szL at h
    split at h
    · omega
    · have := szGo_cntE (xs := xs) (l := 1048576 - xs.length) (by omega) h
      omega
theorem Nd.eq_refl (x : Nd) : x.eq x = true := by simp [Nd.eq]
theorem En.eq_refl (x : En) : x.eq x = true := by simp [En.eq, all2_refl Nd.eq_refl]
theorem unm_len (l : List En) : (unm l).length ≤ cntE l := by
  have := outI_len l l.length (Nat.le_refl _)
  rwa [outI_all, List.take_length] at this
section
variable {E : Env} (hE : E.P = Go.Proofs.Try.prog)
include hE
set_option maxHeartbeats 8000000 in
theorem law_fx (l : List En) (hg : ∀ x ∈ l, x.good) (hl : l.length ≤ 9223372036854775807) : Fx E 5 [] [.sl ro 5 (l.map fun x => .agg x.av)] [] (.lit (.bool true)) := by
  refine (is5.to hE).fxo (by simp) (by simp) rfl ?_
  simp [v5, ownA, ownA.ownL, okC, mkF, ro]
  refine vcall_go (szEntryS_fx hE l 1048576 hg (by omega) (by omega) hl) (by simp [ro]) (by simp) (by simp) (by simp) ?_
  simp
  by_cases c1 : szL En.sz l 1048576 < 0
  · simp [c1]
    exact Fin_ret rfl rfl
  obtain ⟨b1, b2, b3⟩ := Ens.bound (xs := l) (by omega)
  have hto := toEntryS_fx hE l b1 b2
  have hsp := specUnmet_fx hE l b1 b2 (by omega)
  have him := implUnmet_fx hE l b1 b2 (by omega)
  have hul := unm_len l
  obtain ⟨u, hu⟩ : ∃ u, unm l = u := ⟨_, rfl⟩
  rw [hu] at hsp him hul
  have hul : u.length ≤ 8388608 := by omega
  simp [c1]
  refine vcall_go hto (by simp [ro]) (by simp) (by simp) (by simp) ?_
  simp
  refine vcall_own (T := 18) hsp (by simp [ro]) (by simp) (by simp) (by simp) (by simp [AS.noW, AS.putO, allV, noW, noW.noL]) (by decide) (by intro h; omega) rfl ?_
  simp [ownA, ownA.ownL, okC, putElem, upd]
  refine vcall_own (T := 20) hto (by simp [ro]) (by simp) (by simp) (by simp) (by simp [AS.noW, AS.putO, allV, noW, noW.noL]) (by decide) (by intro h; omega) rfl ?_
  simp [ownA, ownA.ownL, okC, putElem, upd]
  refine vcall_own (T := 100022) him (by simp [ro]) (by simp) (by simp) (by simp) (by simp [AS.noW, AS.putO, allV, noW, noW.noL]) (by decide) (fun _ => Nat.le_refl _) rfl ?_
  simp [ownA, ownA.ownL, okC, putElem, upd]
  refine vcall_go (eqNeedS_fx hE u u (by omega)) (by simp [ro]) (by simp) (by simp) (by simp) ?_
  simp [all2_refl Nd.eq_refl]
  refine vcall_go hto (by simp [ro]) (by simp) (by simp) (by simp) ?_
  simp
  refine vcall_go (eqEntryS_fx hE l l b1 b2) (by simp [ro]) (by simp) (by simp) (by simp) ?_
  simp [all2_refl En.eq_refl]
  refine vcall_junk (T := 20) (rv := .int .i64 ((1 : Int) + cntE l)) (by simpa [hsT, hsT.hsTL, hsL_ens] using markEntry_junk hE l 1 (by omega) b1 (by omega)) (by decide) (by simp [okJ, okJ.okJL, flatL_ens]) ?_
  have hk1 : ¬ ((1 : Int) + cntE l < 0) := by omega
  simp [AS.kp, mapV, kp, kp.kpL, kpB, okC, List.filter, hk1, mkF]
  refine vcall_go (eqNeedS_fx hE u u (by omega)) (by simp [ro]) (by simp) (by simp) (by simp) ?_
  simp [all2_refl Nd.eq_refl]
  by_cases hn : u = []
  · have hh := heldNeed_fx hE 0 1 (by omega) (by omega) (by omega)
    refine vcall_go (markNeed_nil hE 1 (by omega)) (by simp [ro, hn]) (by simp) (by simp) (by simp) ?_
    simp
    refine vcall_go hh (by simp [ro, hn, mkNs]) (by simp) (by simp) (by simp) ?_
    simp
    refine vcall_go hto (by simp [ro]) (by simp) (by simp) (by simp) ?_
    simp
    refine vcall_own (T := 56) him (by simp [ro]) (by simp) (by simp) (by simp) (by simp [AS.noW, AS.putO, allV, noW, noW.noL]) (by decide) (by intro h; omega) rfl ?_
    simp [ownA, ownA.ownL, okC, putElem, upd]
    refine vcall_go (eqNeedS_fx hE u u (by omega)) (by simp [ro]) (by simp) (by simp) (by simp) ?_
    simp [all2_refl Nd.eq_refl]
    refine vcall_go hh (by simp [ro, hn, mkNs]) (by simp) (by simp) (by simp) ?_
    simp
    exact Fin_ret rfl rfl
  · have hk2 : ¬ ((1 : Int) + 2 * u.length < 0) := by omega
    have hh := heldNeed_fx hE u.length 1 (by omega) (by omega) (by omega)
    refine vcall_row (T := 100022) (sz := 2) (xs := u.map fun x => .agg x.av) (ys := (mkNs 1 u.length).map fun x => .agg x.av) (rv := .int .i64 ((1 : Int) + 2 * u.length)) (by simpa [bsT, bsT.bsTL] using markNeed_row hE u 1 (by omega) (by omega) (by omega)) (by decide) (by simp [okT, okT.okTL]) rfl (by decide) (by simpa using hn) (rowOk_nds _) (rowOk_nds _) (by simp [mkNs]) ?_
    simp [AS.kp, mapV, kp, kp.kpL, kpB, okC, List.filter, mkF]
    refine vcall_go hh (by simp [ro]) (by simp) (by simp) (by simp) ?_
    simp [hk2]
    refine vcall_go hto (by simp [ro]) (by simp) (by simp) (by simp) ?_
    simp
    refine vcall_own (T := 56) him (by simp [ro]) (by simp) (by simp) (by simp) (by simp [AS.noW, AS.putO, allV, noW, noW.noL]) (by decide) (by intro h; omega) rfl ?_
    simp [ownA, ownA.ownL, okC, putElem, upd]
    refine vcall_go (eqNeedS_fx hE u u (by omega)) (by simp [ro]) (by simp) (by simp) (by simp) ?_
    simp [all2_refl Nd.eq_refl]
    refine vcall_go hh (by simp [ro]) (by simp) (by simp) (by simp) ?_
    simp [hk2]
    exact Fin_ret rfl rfl
end
end Go.Proofs.Ytpopccnnjpdmlaa.Vm
