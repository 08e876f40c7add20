/- Sums, read: the reference. -/
import Derived.Test.YtgegcfhifojjiaaDoorIm
import Derived.Test.YtgegcfhifojjiaaDoorRt
namespace Go.Proofs.YtgegcfhifojjiaaDoor.Vm
open Go Go.RowKit
set_option linter.unusedVariables false
set_option linter.unusedSimpArgs false
def v5 : VC := .seq (.reg false [⟨some 2, .as (.c (.sl ⟨.nl, true⟩ 1 [])), none⟩, ⟨some 3, .as (.c (.lit (.bool false))), none⟩] [2, 3]) (.seq (.reg false [⟨some 10, .bsl 2 [], none⟩, ⟨some 4, .as (.t 10), none⟩] [10]) (.seq (.reg false [⟨some 11, .mv (.t 0), none⟩, ⟨some 12, .call false 15 [(.t 11)], none⟩, ⟨some 5, .as (.t 12), none⟩] [11, 12]) (.seq (.seq (.reg false [⟨some 6, .as (.c (.lit (.int .i64 0))), none⟩] []) (.block 0 (.loop (.seq (.seq (.reg false [⟨some 13, .mv (.t 6), none⟩, ⟨some 14, .mv (.t 5), none⟩, ⟨some 15, .len false (.t 14), none⟩, ⟨some 16, .bin .lss 0 (.t 13) (.t 15), none⟩, ⟨some 17, .mv (.t 16), none⟩, ⟨some 18, .mv (.t 0), (some (17, true))⟩, ⟨some 19, .bin .neq 0 (.t 18) (.c (.lit (.string (by8 "")))), (some (17, true))⟩, ⟨some 20, .pick (.t 17) (.t 19) (.c (.lit (.bool false))), none⟩] [13, 14, 15, 16, 17, 18, 19]) (.cond (.t 20) (.skip) (.exit 0))) (.seq (.block 1 (.seq (.reg false [⟨some 23, .mv (.t 5), none⟩, ⟨some 24, .mv (.t 6), none⟩, ⟨some 25, .ia 1 (.t 23) (.t 24), none⟩, ⟨some 26, .ld false 1 (.t 25), none⟩, ⟨some 27, .call false 16 [(.t 26), (.c (.lit (.int .u8 45)))], none⟩, ⟨some 7, .as (.t 27), none⟩] [23, 24, 25, 26, 27]) (.seq (.seq (.reg false [⟨some 28, .mv (.t 7), none⟩, ⟨some 29, .bin .lss 0 (.t 28) (.c (.lit (.int .i64 0))), none⟩] [28]) (.cond (.t 29) (.seq (.reg false [⟨some 30, .bsl 2 [], none⟩, ⟨some 2, .as (.t 30), none⟩, ⟨some 3, .as (.c (.lit (.bool false))), none⟩] [30]) (.ret)) (.skip))) (.seq (.reg false [⟨some 32, .mv (.t 5), none⟩, ⟨some 33, .mv (.t 6), none⟩, ⟨some 34, .ia 1 (.t 32) (.t 33), none⟩, ⟨some 35, .ld false 1 (.t 34), none⟩, ⟨some 36, .mv (.t 7), none⟩, ⟨some 37, .bin .add 0 (.t 36) (.c (.lit (.int .i64 1))), none⟩, ⟨some 38, .slS (.t 35) (some (.t 37)) none, none⟩, ⟨some 39, .call false 17 [(.t 38)], none⟩, ⟨some 31, .mv (.t 39), none⟩, ⟨some 40, .ext (.t 31) 0, none⟩, ⟨some 41, .ext (.t 31) 1, none⟩, ⟨some 8, .as (.t 40), none⟩, ⟨some 9, .as (.t 41), none⟩] [32, 33, 34, 35, 36, 37, 38, 39, 31, 40, 41]) (.seq (.seq (.reg false [⟨some 42, .mv (.t 9), none⟩, ⟨some 43, .un .not (.t 42), none⟩] [42]) (.cond (.t 43) (.seq (.reg false [⟨some 44, .bsl 2 [], none⟩, ⟨some 2, .as (.t 44), none⟩, ⟨some 3, .as (.c (.lit (.bool false))), none⟩] [44]) (.ret)) (.skip))) (.reg false [⟨some 45, .mv (.t 4), none⟩, ⟨some 46, .mv (.t 5), none⟩, ⟨some 47, .mv (.t 6), none⟩, ⟨some 48, .ia 1 (.t 46) (.t 47), none⟩, ⟨some 49, .ld false 1 (.t 48), none⟩, ⟨some 50, .mv (.t 7), none⟩, ⟨some 51, .slS (.t 49) none (some (.t 50)), none⟩, ⟨some 52, .mv (.t 8), none⟩, ⟨some 53, .bld [(.lit (.string (by8 ""))), (.lit (.string (by8 "")))] [(0, 1, (.t 51)), (1, 1, (.t 52))], none⟩, ⟨some 54, .bsl 2 [(.t 53)], none⟩, ⟨some 55, .app 2 32 (.t 45) (.t 54), none⟩, ⟨some 4, .as (.t 55), none⟩] [45, 46, 47, 48, 49, 50, 51, 52, 53, 54, 55])))))) (.reg false [⟨some 21, .mv (.t 6), none⟩, ⟨some 22, .bin .add 0 (.t 21) (.c (.lit (.int .i64 1))), none⟩, ⟨some 6, .as (.t 22), none⟩] [21, 22])))))) (.seq (.seq (.reg false [⟨some 56, .mv (.t 4), none⟩, ⟨some 57, .call false 18 [(.t 56)], none⟩, ⟨some 58, .un .not (.t 57), none⟩, ⟨some 59, .mv (.t 58), none⟩, ⟨some 60, .mv (.t 4), (some (59, false))⟩, ⟨some 61, .call false 19 [(.t 60)], (some (59, false))⟩, ⟨some 62, .mv (.t 0), (some (59, false))⟩, ⟨some 63, .bin .neq 0 (.t 61) (.t 62), (some (59, false))⟩, ⟨some 64, .pick (.t 59) (.c (.lit (.bool true))) (.t 63), none⟩] [56, 57, 58, 59, 60, 61, 62, 63]) (.cond (.t 64) (.seq (.reg false [⟨some 65, .bsl 2 [], none⟩, ⟨some 2, .as (.t 65), none⟩, ⟨some 3, .as (.c (.lit (.bool false))), none⟩] [65]) (.ret)) (.skip))) (.seq (.reg false [⟨some 66, .mv (.t 4), none⟩, ⟨some 2, .as (.t 66), none⟩, ⟨some 3, .as (.c (.lit (.bool true))), none⟩] [66]) (.ret))))))
theorem is5 : Is Go.Proofs.Tryd.prog 5 67 v5 [.t 2, .t 3] := ⟨Go.Proofs.Tryd.f5, dl [(0, [2, 3]), (1, [10]), (2, [11, 12]), (4, [13, 14, 15, 16, 17, 18, 19]), (6, [23, 24, 25, 26, 27]), (7, [28]), (8, [30]), (9, [32, 33, 34, 35, 36, 37, 38, 39, 31, 40, 41]), (10, [42]), (11, [44]), (12, [45, 46, 47, 48, 49, 50, 51, 52, 53, 54, 55]), (5, [21, 22]), (13, [56, 57, 58, 59, 60, 61, 62, 63]), (14, [65]), (15, [66])], Go.Proofs.Tryd.func5, by kernel_rfl, by kernel_rfl, by kernel_rfl, by kernel_rfl⟩
theorem mapS_app : ∀ (a b : List ByteArray), mapS (a ++ b) = (mapS a).bind fun x => (mapS b).map (x ++ ·)
  | [], b => by simp [mapS]
  | p :: r, b => by
    rw [List.cons_append, mapS, mapS, mapS_app r b]
    cases smO p with
    | none => rfl
    | some x =>
      simp only [Option.bind_some]
      cases mapS r with
      | none => rfl
      | some y =>
        simp only [Option.bind_some, Option.map_some, Option.map_map]
        rfl
theorem mapS_none {l : List ByteArray} {i : Nat} (h : i < l.length) (hp : smO l[i] = none) : mapS l = none := by
  have e : l = l.take i ++ (l[i] :: l.drop (i + 1)) := by rw [← List.drop_eq_getElem_cons h, List.take_append_drop]
  rw [e, mapS_app, mapS, hp]
  cases mapS (l.take i) <;> rfl
theorem mapS_next {l : List ByteArray} {i : Nat} (h : i < l.length) {out : List Sm} {b : Sm} (ho : mapS (l.take i) = some out) (hp : smO l[i] = some b) : mapS (l.take (i + 1)) = some (out ++ [b]) := by
  rw [List.take_succ_eq_append_getElem h, mapS_app, ho, mapS, hp]
  rfl
theorem mapS_len {l : List ByteArray} {out : List Sm} (h : mapS l = some out) : out.length = l.length := by
  rw [← mapS_smI h, List.length_map]
theorem cutL_size (p : ByteArray) : (cutL p).size ≤ p.size := by
  unfold cutL; split
  · omega
  · rw [ext_size]; omega
theorem cutR_size (p : ByteArray) : (cutR p).size ≤ p.size := by
  unfold cutR; split
  · rw [by8_nil]; omega
  · rw [ext_size]; omega
theorem unB_size {s b : ByteArray} (h : unB s = some b) : b.size ≤ s.size := by
  rw [← unB_some h, b64_size]; omega
theorem smI_small {p : ByteArray} (h : p.size ≤ 1048576) : (smI p).small := by
  have h1 := cutL_size p
  have h2 := cutR_size p
  refine ⟨Nat.le_trans h1 h, ?_⟩
  show ((unB (cutR p)).getD (by8 "")).size ≤ _
  cases hu : unB (cutR p) with
  | none => simp [by8_nil]
  | some b => have := unB_size hu; simp; omega
noncomputable def giRes (s : ByteArray) : AV := match giI s with
  | some l => .tup [.sl ⟨.no, true⟩ 2 (l.map fun x => .agg x.av), .lit (.bool true)]
  | none => .tup [.sl ⟨.no, true⟩ 2 [], .lit (.bool false)]
theorem giRes_ok (s : ByteArray) : resOk (giRes s) = true := by unfold giRes; cases giI s <;> rfl
theorem join_len : ∀ (l : List ByteArray), l ≠ [] → l.length ≤ (joinB l (one 32)).size + 1
  | [], h => absurd rfl h
  | [x], _ => by simp
  | x :: y :: r, _ => by
    have := join_len (y :: r) (by simp)
    rw [joinB_cons, ByteArray.size_append, ByteArray.size_append, one_size]
    simp only [List.length_cons] at this ⊢
    omega
theorem words_len {s : ByteArray} {out : List Sm} (h : mapS (spl 32 s) = some out) : (spl 32 s).length ≤ s.size := by
  have hj := join_spl 32 s.size s (Nat.le_refl _)
  obtain ⟨w, hw⟩ : ∃ w, spl 32 s = w := ⟨_, rfl⟩
  rw [hw] at h hj ⊢
  match w, hw with
  | [], _ => simp
  | p :: r, _ =>
    have hp : 0 < p.size := by
      rcases Nat.eq_zero_or_pos p.size with h0 | h0
      · rw [mapS] at h
        obtain ⟨x, hx, _⟩ := Option.bind_eq_some_iff.1 h
        unfold smO at hx
        rcases idx_cases 45 p with ⟨e, _⟩ | ⟨i, hi, _⟩
        · rw [if_pos (by omega)] at hx; cases hx
        · omega
      · exact h0
    rw [← hj]
    cases r with
    | nil => rw [joinB_one]; simp; omega
    | cons y r =>
      have := join_len (y :: r) (by simp)
      rw [joinB_cons, ByteArray.size_append, ByteArray.size_append, one_size]
      simp only [List.length_cons] at this ⊢
      omega
section
variable {E : Env} (hE : E.P = Go.Proofs.Tryd.prog)
include hE
set_option maxHeartbeats 8000000 in
theorem specGetI_fx (s : ByteArray) (hs : s.size ≤ 1048576) : Fx E 5 [] [.lit (.string s)] [] (giRes s) := by
  have hgi := gi_eq s
  have hno : giS s = none → giRes s = .tup [.sl ⟨.no, true⟩ 2 [], .lit (.bool false)] := fun h => by rw [giRes, ← hgi, h]
  have hyes : ∀ l, giS s = some l → giRes s = .tup [.sl ⟨.no, true⟩ 2 (l.map fun x => .agg x.av), .lit (.bool true)] := fun l h => by rw [giRes, ← hgi, h]
  have hz : ∀ (i : Nat) p, (spl 32 s)[i]? = some p → p.size ≤ s.size := fun i p h => spl_size h
  have hll := spl_len_le 32 s
  refine (is5.to hE).fx [] (by simp) rfl (giRes_ok s) ?_
  simp [v5]
  refine vcall_go (words_fx hE s (by omega)) (by simp) (by simp) (by simp) (by simp) ?_
  have hg : giS s = if s = by8 "" then some [] else (mapS (spl 32 s)).bind fun out => if rightI out = true ∧ pig out = s then some out else none := rfl
  obtain ⟨w, hw⟩ : ∃ w, spl 32 s = w := ⟨_, rfl⟩
  rw [hw] at hz hll hg ⊢
  simp
  refine X_loop (τ := Nat × List Sm) (fun p => ⟨[(0, .lit (.string s)), (4, .sl ⟨.cl 640, true⟩ 2 (p.2.map fun x => .agg x.av)), (5, .sl ⟨.no, true⟩ 1 (w.map fun x => .lit (.string x))), (6, .lit (.int .i64 p.1))], []⟩) (fun p => p.1 ≤ w.length ∧ mapS (w.take p.1) = some p.2 ∧ (p.1 = 0 ∨ s ≠ by8 "")) (fun p => w.length - p.1) (0, []) ⟨by omega, rfl, .inl rfl⟩ (Wk.both (by simp [wkL, wkV.same, frA.frL]) trivial) ?_
  rintro ⟨i, out⟩ ⟨hi, hm, hi0⟩
  simp only at hi hm hi0
  have hwne : 0 < w.length := by rw [← hw]; exact List.length_pos_iff.2 (spl_ne 32 s)
  have hol := mapS_len hm
  rw [List.length_take] at hol
  have hsm : ∀ x ∈ out, x.small := fun x hx => by
    rw [← mapS_smI hm] at hx
    obtain ⟨p, hp, rfl⟩ := List.mem_map.1 hx
    obtain ⟨j, hj, rfl⟩ := List.getElem_of_mem (List.mem_of_mem_take hp)
    exact smI_small (Nat.le_trans (hz j _ (List.getElem?_eq_getElem hj)) hs)
  simp
  by_cases hlt : i < w.length
  · simp [hlt]
    by_cases hs0 : s = by8 ""
    · have h0 : i = 0 := by rcases hi0 with h | h; exact h; exact absurd hs0 h
      subst h0
      obtain rfl : [] = out := Option.some.inj hm
      have hr : rightI [] = true := by decide +kernel
      have hn : giS s = some [] := by rw [hg, if_pos hs0]
      have hr2 := right_fx hE [] (by simp) (by simp)
      rw [hr] at hr2
      simp [hs0]
      refine vcall_go hr2 (by simp [ro]) (by simp) (by simp) (by simp) ?_
      simp
      refine vcall_go (specPutI_fx hE [] (by simp) (by simp)) (by simp [ro]) (by simp) (by simp) (by simp) ?_
      rw [show pig [] = by8 "" from joinB_nil _]
      simp
      exact fin_row2 (by decide) rfl rfl (hyes [] hn)
    · have hpz := hz i _ (List.getElem?_eq_getElem hlt)
      simp [hs0, hlt, mkF]
      refine vcall_go (l01At_fx hE w[i] 45 (by omega)) (by simp) (by simp) (by simp) (by simp) ?_
      by_cases c1 : Lib.indexB w[i] (one 45) < 0
      · have hn : giS s = none := by rw [hg, if_neg hs0, mapS_none hlt (by rw [smO, if_pos c1])]; rfl
        simp [c1]
        exact fin_row2 (by decide) rfl rfl (hno hn)
      · obtain ⟨k, hk⟩ : ∃ k : Nat, Lib.indexB w[i] (one 45) = k := ⟨(Lib.indexB w[i] (one 45)).toNat, by omega⟩
        rw [hk]
        have hkz : k + 1 ≤ w[i].size := by
          rcases idx_cases 45 w[i] with ⟨e, _⟩ | ⟨j, hj, _, _, e⟩
          · omega
          · omega
        have c2 : ¬ ((k : Int) < 0) := by omega
        simp [c2, hlt, mkF]
        rw [wrapN (by omega)]
        refine wh_l (l := (k + 1 : Nat)) (k := .i64) rfl (by omega) (by omega) ?_
        have hR : cutR w[i] = w[i].extract (k + 1) w[i].size := by rw [cutR, hk, if_neg (by omega), Int.toNat_natCast]
        have hL : cutL w[i] = w[i].extract 0 k := by rw [cutL, hk, if_neg (by omega), Int.toNat_natCast]
        have hrz := cutR_size w[i]
        simp
        rw [← hR]
        refine vcall_go (specGet64_fx hE (cutR w[i]) (by omega)) (by simp) (by simp) (by simp) (by simp) ?_
        unfold unRes
        cases hu : unB (cutR w[i]) with
        | none =>
          have hn : giS s = none := by rw [hg, if_neg hs0, mapS_none hlt (by rw [smO, if_neg c1, hu]; rfl)]; rfl
          simp
          exact fin_row2 (by decide) rfl rfl (hno hn)
        | some b =>
          have hso : smO w[i] = some ⟨cutL w[i], b⟩ := by rw [smO, if_neg c1, hu]; rfl
          simp [hlt, mkF]
          refine wh_h (h := k) (k := .i64) rfl (by omega) (by omega) ?_
          simp [fill, upd, okC, frA, frA.frL, AS.dem, mapV, dem, dem.demL]
          have hav : (⟨w[i].extract 0 k, b⟩ : Sm).av = [.lit (.string (w[i].extract 0 k)), .lit (.string b)] := rfl
          rw [hL] at hso
          refine ⟨by omega, i + 1, out ++ [⟨w[i].extract 0 k, b⟩], ⟨by omega, mapS_next hlt hm hso, .inr hs0⟩, by omega, Wk.both (by simp [wkL, wkV.same, hav]; rw [wrapN (by omega)]; exact wkV.same _) trivial⟩
  · obtain rfl : i = w.length := by omega
    rw [List.take_length] at hm
    have hwl : w.length ≤ s.size := by have := words_len (s := s) (out := out) (by rw [hw]; exact hm); rw [hw] at this; exact this
    have hol2 : out.length ≤ 1048576 := by have := mapS_len hm; omega
    have hs0 : ¬ s = by8 "" := by rcases hi0 with h | h; omega; exact h
    rw [if_neg hs0, hm, Option.bind_some] at hg
    simp
    refine vcall_go (right_fx hE out hol2 hsm) (by simp [ro]) (by simp) (by simp) (by simp) ?_
    simp
    cases c1 : rightI out
    · have hn : giS s = none := by rw [hg, c1]; simp
      simp
      exact fin_row2 (by decide) rfl rfl (hno hn)
    simp
    refine vcall_go (specPutI_fx hE out hol2 hsm) (by simp [ro]) (by simp) (by simp) (by simp) ?_
    by_cases c2 : pig out = s
    · have hn : giS s = some out := by rw [hg, c1, if_pos ⟨rfl, c2⟩]
      simp [c2]
      exact fin_row2 (by decide) rfl rfl (hyes out hn)
    · have hn : giS s = none := by rw [hg, if_neg fun h => c2 h.2]
      simp [c2]
      exact fin_row2 (by decide) rfl rfl (hno hn)
end
end Go.Proofs.YtgegcfhifojjiaaDoor.Vm
