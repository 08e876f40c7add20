/- Names of packages: both sides. -/
import Derived.Test.YtgegcfhifojjiaaDoorCh
namespace Go.Proofs.YtgegcfhifojjiaaDoor.Vm
open Go Go.RowKit
set_option linter.unusedVariables false
set_option linter.unusedSimpArgs false
def v64 : VC := .seq (.reg false [⟨some 2, .as (.c (.lit (.bool false))), none⟩] [2]) (.seq (.reg false [⟨some 7, .mv (.t 0), none⟩, ⟨some 8, .call false 39 [(.t 7), (.c (.lit (.int .u8 47)))], none⟩, ⟨some 3, .as (.t 8), none⟩] [7, 8]) (.seq (.seq (.reg false [⟨some 4, .as (.c (.lit (.int .i64 0))), none⟩] []) (.block 0 (.loop (.seq (.seq (.reg false [⟨some 9, .mv (.t 4), none⟩, ⟨some 10, .mv (.t 3), none⟩, ⟨some 11, .len false (.t 10), none⟩, ⟨some 12, .bin .lss 0 (.t 9) (.t 11), none⟩] [9, 10, 11]) (.cond (.t 12) (.skip) (.exit 0))) (.seq (.block 1 (.seq (.reg false [⟨some 15, .mv (.t 3), none⟩, ⟨some 16, .mv (.t 4), none⟩, ⟨some 17, .ia 1 (.t 15) (.t 16), none⟩, ⟨some 18, .ld false 1 (.t 17), none⟩, ⟨some 5, .as (.t 18), none⟩] [15, 16, 17, 18]) (.seq (.seq (.reg false [⟨some 19, .mv (.t 5), none⟩, ⟨some 20, .bin .eql 0 (.t 19) (.c (.lit (.string (by8 "node_modules")))), none⟩] [19]) (.cond (.t 20) (.seq (.reg false [⟨some 2, .as (.c (.lit (.bool false))), none⟩] []) (.ret)) (.skip))) (.seq (.seq (.reg false [⟨some 21, .mv (.t 4), none⟩, ⟨some 22, .bin .eql 0 (.t 21) (.c (.lit (.int .i64 0))), none⟩, ⟨some 23, .mv (.t 22), none⟩, ⟨some 24, .mv (.t 5), (some (23, true))⟩, ⟨some 25, .len true (.t 24), (some (23, true))⟩, ⟨some 26, .bin .gtr 0 (.t 25) (.c (.lit (.int .i64 0))), (some (23, true))⟩, ⟨some 27, .pick (.t 23) (.t 26) (.c (.lit (.bool false))), none⟩, ⟨some 28, .mv (.t 27), none⟩, ⟨some 29, .mv (.t 5), (some (28, true))⟩, ⟨some 30, .idx (.t 29) (.c (.lit (.int .i64 0))), (some (28, true))⟩, ⟨some 31, .bin .eql 0 (.t 30) (.c (.lit (.int .u8 64))), (some (28, true))⟩, ⟨some 32, .pick (.t 28) (.t 31) (.c (.lit (.bool false))), none⟩] [21, 22, 23, 24, 25, 26, 27, 28, 29, 30, 31]) (.cond (.t 32) (.reg false [⟨some 33, .mv (.t 5), none⟩, ⟨some 34, .slS (.t 33) (some (.c (.lit (.int .i64 1)))) none, none⟩, ⟨some 5, .as (.t 34), none⟩] [33, 34]) (.skip))) (.seq (.seq (.reg false [⟨some 6, .as (.c (.lit (.int .i64 0))), none⟩] []) (.block 2 (.loop (.seq (.seq (.reg false [⟨some 35, .mv (.t 6), none⟩, ⟨some 36, .mv (.t 5), none⟩, ⟨some 37, .len true (.t 36), none⟩, ⟨some 38, .bin .lss 0 (.t 35) (.t 37), none⟩] [35, 36, 37]) (.cond (.t 38) (.skip) (.exit 2))) (.seq (.block 3 (.seq (.reg false [⟨some 41, .mv (.t 5), none⟩, ⟨some 42, .mv (.t 6), none⟩, ⟨some 43, .idx (.t 41) (.t 42), none⟩, ⟨some 44, .call false 88 [(.t 43)], none⟩, ⟨some 45, .un .not (.t 44), none⟩, ⟨some 46, .mv (.t 45), none⟩, ⟨some 47, .mv (.t 5), (some (46, true))⟩, ⟨some 48, .mv (.t 6), (some (46, true))⟩, ⟨some 49, .idx (.t 47) (.t 48), (some (46, true))⟩, ⟨some 50, .bin .neq 0 (.t 49) (.c (.lit (.int .u8 46))), (some (46, true))⟩, ⟨some 51, .pick (.t 46) (.t 50) (.c (.lit (.bool false))), none⟩, ⟨some 52, .mv (.t 51), none⟩, ⟨some 53, .mv (.t 5), (some (52, true))⟩, ⟨some 54, .mv (.t 6), (some (52, true))⟩, ⟨some 55, .idx (.t 53) (.t 54), (some (52, true))⟩, ⟨some 56, .bin .neq 0 (.t 55) (.c (.lit (.int .u8 95))), (some (52, true))⟩, ⟨some 57, .pick (.t 52) (.t 56) (.c (.lit (.bool false))), none⟩, ⟨some 58, .mv (.t 57), none⟩, ⟨some 59, .mv (.t 5), (some (58, true))⟩, ⟨some 60, .mv (.t 6), (some (58, true))⟩, ⟨some 61, .idx (.t 59) (.t 60), (some (58, true))⟩, ⟨some 62, .bin .neq 0 (.t 61) (.c (.lit (.int .u8 45))), (some (58, true))⟩, ⟨some 63, .pick (.t 58) (.t 62) (.c (.lit (.bool false))), none⟩] [41, 42, 43, 44, 45, 46, 47, 48, 49, 50, 51, 52, 53, 54, 55, 56, 57, 58, 59, 60, 61, 62]) (.cond (.t 63) (.seq (.reg false [⟨some 2, .as (.c (.lit (.bool false))), none⟩] []) (.ret)) (.skip)))) (.reg false [⟨some 39, .mv (.t 6), none⟩, ⟨some 40, .bin .add 0 (.t 39) (.c (.lit (.int .i64 1))), none⟩, ⟨some 6, .as (.t 40), none⟩] [39, 40])))))) (.seq (.reg false [⟨some 64, .mv (.t 5), none⟩, ⟨some 65, .bin .eql 0 (.t 64) (.c (.lit (.string (by8 "")))), none⟩] [64]) (.cond (.t 65) (.seq (.reg false [⟨some 2, .as (.c (.lit (.bool false))), none⟩] []) (.ret)) (.skip)))))))) (.reg false [⟨some 13, .mv (.t 4), none⟩, ⟨some 14, .bin .add 0 (.t 13) (.c (.lit (.int .i64 1))), none⟩, ⟨some 4, .as (.t 14), none⟩] [13, 14])))))) (.seq (.reg false [⟨some 66, .mv (.t 0), none⟩, ⟨some 67, .len true (.t 66), none⟩, ⟨some 68, .bin .leq 0 (.t 67) (.c (.lit (.int .i64 60))), none⟩, ⟨some 2, .as (.t 68), none⟩] [66, 67, 68]) (.ret))))
theorem is64 : Is Go.Proofs.Tryd.prog 64 69 v64 [.t 2] := ⟨Go.Proofs.Tryd.f64, dl [(0, [2]), (1, [7, 8]), (3, [9, 10, 11]), (5, [15, 16, 17, 18]), (6, [19]), (8, [21, 22, 23, 24, 25, 26, 27, 28, 29, 30, 31]), (9, [33, 34]), (11, [35, 36, 37]), (13, [41, 42, 43, 44, 45, 46, 47, 48, 49, 50, 51, 52, 53, 54, 55, 56, 57, 58, 59, 60, 61, 62]), (12, [39, 40]), (15, [64]), (4, [13, 14]), (17, [66, 67, 68])], Go.Proofs.Tryd.func64, by kernel_rfl, by kernel_rfl, by kernel_rfl, by kernel_rfl⟩
def hasP (s p : ByteArray) : Bool := Lib.hasPrefix s.data.toList p.data.toList
def trimP (s p : ByteArray) : ByteArray := if hasP s p then s.extract p.size s.size else s
theorem trimP_eq (s p : ByteArray) : (⟨(Lib.trimPrefix s.data.toList p.data.toList).toArray⟩ : ByteArray) = trimP s p := by
  unfold Lib.trimPrefix trimP hasP
  split
  · refine ba_ext ?_
    have e : p.data.toList.length = p.size := by simp
    rw [e]
    simp [ByteArray.data_extract]
    rw [List.take_of_length_le (by simp)]
  · rfl
theorem hasP_one {s : ByteArray} {c : UInt8} : hasP s (one c) = decide (0 < s.size ∧ bt s 0 = c) := by
  have := occ_one (s := s) (i := 0) (c := c)
  unfold Lib.occAt at this
  rwa [List.drop_zero] at this
def partOk (sc : Bool) (i : Nat) (p : ByteArray) : Bool := !decide (p = by8 "") && !(decide (p = by8 "node_modules") && !(sc && decide (i = 0))) && allB nameB p
def allI (f : Nat → ByteArray → Bool) (l : List ByteArray) : Bool := (List.range l.length).all fun i => match l[i]? with | some p => f i p | none => true
theorem allI_false {f : Nat → ByteArray → Bool} {l : List ByteArray} {i : Nat} (h : i < l.length) (hp : f i l[i] = false) : allI f l = false := by
  unfold allI; rw [List.all_eq_false]; exact ⟨i, List.mem_range.2 h, by simp [h, hp]⟩
theorem allI_true {f : Nat → ByteArray → Bool} {l : List ByteArray} (h : ∀ (i : Nat) (p : ByteArray), l[i]? = some p → f i p = true) : allI f l = true := by
  unfold allI; rw [List.all_eq_true]
  intro i hi
  have : i < l.length := List.mem_range.1 hi
  rw [List.getElem?_eq_getElem this]
  exact h i _ (List.getElem?_eq_getElem this)
def nameOk (s : ByteArray) : Bool := allI (partOk (hasP s (one 64))) (spl 47 (trimP s (one 64))) && decide ((s.size : Int) ≤ 60)
def cutAt (i : Nat) (p : ByteArray) : ByteArray := if i = 0 ∧ hasP p (one 64) = true then p.extract 1 p.size else p
def specPart (i : Nat) (p : ByteArray) : Bool := !decide (p = by8 "node_modules") && allB nameB (cutAt i p) && !decide (cutAt i p = by8 "")
section
variable {E : Env} (hE : E.P = Go.Proofs.Tryd.prog) (hZ : ∀ w, E.K w → KZ w)
include hE
theorem hasPrefix_fx (s p : ByteArray) : Fx E 82 [] [.lit (.string s), .lit (.string p)] [] (.lit (.bool (hasP s p))) :=
  Fx_lit (args := [.string s, .string p]) rfl fun w hw => by
    rw [hE]
    refine (Go.Proofs.Tryd.strings_HasPrefix s p w).mono ?_
    rintro e w' ⟨rfl, rfl⟩
    exact ⟨rfl, Below.refl _ _⟩
include hZ
omit hZ in
set_option maxHeartbeats 1000000 in
theorem specName_fx0 (s : ByteArray) (hs : s.size ≤ 1099511627) : Fx E 64 [] [.lit (.string s)] [] (.lit (.bool (allI specPart (spl 47 s) && decide ((s.size : Int) ≤ 60)))) := by
  refine (is64.to hE).fx [] (by simp) rfl rfl ?_
  simp [v64]
  refine vcall_go (l01Cut_fx hE s 47 (by omega)) (by simp) (by simp) (by simp) (by simp) ?_
  have hlen := spl_len_le 47 s
  have hparts : ∀ (i : Nat) (p : ByteArray), (spl 47 s)[i]? = some p → p.size ≤ 9223372036854775806 := fun i p h => by have := spl_size h; omega
  obtain ⟨ps, hps⟩ : ∃ ps, spl 47 s = ps := ⟨_, rfl⟩
  rw [hps] at hlen hparts ⊢
  simp
  refine X_loop (τ := Nat) (fun i => ⟨[(0, .lit (.string s)), (3, .sl ⟨.no, true⟩ 1 (ps.map fun x => .lit (.string x))), (4, .lit (.int .i64 i))], []⟩) (fun i => i ≤ ps.length ∧ ∀ (k : Nat) (p : ByteArray), k < i → ps[k]? = some p → specPart k p = true) (fun i => ps.length - i) 0 (by simp) (Wk.both (by simp [wkL, wkV.same]) trivial) ?_
  rintro i ⟨hi, hall⟩
  simp
  by_cases hlt : i < ps.length
  · simp [hlt, mkF]
    have hpz := hparts i _ (List.getElem?_eq_getElem hlt)
    have hf : specPart i ps[i] = false → allI specPart ps = false := allI_false hlt
    have ht : specPart i ps[i] = true → ∀ (k : Nat) (p : ByteArray), k < i + 1 → ps[k]? = some p → specPart k p = true := fun h k p hk hp => by
      rcases Nat.lt_succ_iff_lt_or_eq.1 hk with h2 | rfl
      · exact hall k p h2 hp
      · rw [List.getElem?_eq_getElem hlt] at hp; rw [← Option.some.inj hp]; exact h
    have next : specPart i ps[i] = true → ∃ j, (j ≤ ps.length ∧ ∀ (k : Nat) (p : ByteArray), k < j → ps[k]? = some p → specPart k p = true) ∧ ps.length - j < ps.length - i ∧ j = i + 1 := fun h => ⟨i + 1, ⟨by omega, ht h⟩, by omega, rfl⟩
    by_cases q1 : ps[i] = by8 "node_modules"
    · have := hf (by simp [specPart, q1])
      simp [q1]
      exact Fin_ret rfl (by rw [this]; rfl)
    simp [q1]
    obtain ⟨q, hq⟩ : ∃ q, cutAt i ps[i] = q := ⟨_, rfl⟩
    have hsp : specPart i ps[i] = (allB nameB q && !decide (q = by8 "")) := by simp [specPart, q1, hq]
    have hqz : q.size ≤ 9223372036854775806 := by
      rw [← hq]; unfold cutAt; split
      · rw [ext_size]; omega
      · exact hpz
    have four : (¬ i = 0 ∧ ps[i] = q) ∨ (i = 0 ∧ ps[i].size = 0 ∧ ps[i] = q) ∨ (i = 0 ∧ 0 < ps[i].size ∧ ¬ ((bt ps[i] 0).toNat : Int) = 64 ∧ ps[i] = q) ∨ (i = 0 ∧ 0 < ps[i].size ∧ ((bt ps[i] 0).toNat : Int) = 64 ∧ ps[i].extract 1 ps[i].size = q) := by
      rw [← hq]
      unfold cutAt
      rw [hasP_one]
      by_cases c : i = 0
      · by_cases c2 : 0 < ps[i].size
        · by_cases c3 : bt ps[i] 0 = 64
          · right; right; right
            refine ⟨c, c2, by rw [c3]; rfl, ?_⟩
            rw [if_pos ⟨c, by simp [c2, c3]⟩]
          · right; right; left
            refine ⟨c, c2, fun e => c3 (u8_eq.1 (e.trans (by rfl))), ?_⟩
            rw [if_neg fun h => c3 (by simpa using (of_decide_eq_true h.2).2)]
        · right; left
          refine ⟨c, by omega, ?_⟩
          rw [if_neg fun h => c2 (of_decide_eq_true h.2).1]
      · left
        refine ⟨c, ?_⟩
        rw [if_neg fun h => c h.1]
    rcases four with ⟨c, e⟩ | ⟨c, c2, e⟩ | ⟨c, c2, c3, e⟩ | ⟨c, c2, c3, e⟩
    rw [show decide (i = 0) = false by simp [c]]
    simp
    rw [e]
    clear c e
    rotate_left
    rw [show decide (i = 0) = true by simp [c]]
    simp [c2]
    rw [e]
    clear c e c2
    rotate_left
    rw [show decide (i = 0) = true by simp [c]]
    simp [c2, c3]
    rw [e]
    clear c e c2 c3
    rotate_left
    rw [show decide (i = 0) = true by simp [c]]
    simp [c2, c3]
    refine wh_l (l := 1) rfl (by omega) (by omega) ?_
    simp
    rw [e]
    clear c e c2 c3
    rotate_left
    all_goals
      refine X_loop (τ := Nat) (fun k => ⟨[(0, .lit (.string s)), (3, .sl ⟨.no, true⟩ 1 (ps.map fun x => .lit (.string x))), (4, .lit (.int .i64 i)), (5, .lit (.string q)), (6, .lit (.int .i64 k))], []⟩) (fun k => k ≤ q.size ∧ ∀ (m : Nat), m < k → nameB (bt q m) = true) (fun k => q.size - k) 0 (by simp) (Wk.both (by simp [wkL, wkV.same]) trivial) ?_
      rintro k ⟨hk, hall2⟩
      simp
      by_cases hlt2 : k < q.size
      · simp [hlt2]
        have next2 : nameB (bt q k) = true → ∃ j, (j ≤ q.size ∧ ∀ m, m < j → nameB (bt q m) = true) ∧ q.size - j < q.size - k ∧ j = k + 1 := fun h => ⟨k + 1, ⟨by omega, fun m hm => by
          rcases Nat.lt_succ_iff_lt_or_eq.1 hm with h2 | rfl
          · exact hall2 m h2
          · exact h⟩, by omega, rfl⟩
        have no2 : nameB (bt q k) = false → allI specPart ps = false := fun h => hf (by rw [hsp, allB_false hlt2 h]; rfl)
        refine vcall_go (l01Letter_fx hE (bt q k)) (by simp) (by simp) (by simp) (by simp) ?_
        simp
        cases d1 : letB (bt q k)
        · simp [hlt2]
          by_cases d2 : ((bt q k).toNat : Int) = 46
          · simp [d2]
            obtain ⟨j, h1, h2, rfl⟩ := next2 (by simp [nameB, isB, d2])
            exact ⟨_, h1, h2, Wk.both (by simp [wkL, wkV.same]; rw [wrapN (by omega)]; exact wkV.same _) trivial⟩
          · simp [d2, hlt2]
            by_cases d3 : ((bt q k).toNat : Int) = 95
            · simp [d3]
              obtain ⟨j, h1, h2, rfl⟩ := next2 (by simp [nameB, isB, d3])
              exact ⟨_, h1, h2, Wk.both (by simp [wkL, wkV.same]; rw [wrapN (by omega)]; exact wkV.same _) trivial⟩
            · simp [d3, hlt2]
              by_cases d4 : ((bt q k).toNat : Int) = 45
              · simp [d4]
                obtain ⟨j, h1, h2, rfl⟩ := next2 (by simp [nameB, isB, d4])
                exact ⟨_, h1, h2, Wk.both (by simp [wkL, wkV.same]; rw [wrapN (by omega)]; exact wkV.same _) trivial⟩
              · have := no2 (by simp [nameB, isB, d1, d2, d3, d4])
                simp [d4]
                exact Fin_ret rfl (by rw [this]; rfl)
        · simp
          obtain ⟨j, h1, h2, rfl⟩ := next2 (by simp [nameB, d1])
          exact ⟨_, h1, h2, Wk.both (by simp [wkL, wkV.same]; rw [wrapN (by omega)]; exact wkV.same _) trivial⟩
      · simp [hlt2]
        have hq1 : allB nameB q = true := allB_true fun m hm => hall2 m (by omega)
        by_cases d5 : q = by8 ""
        · have := hf (by simp [hsp, d5])
          simp [d5]
          exact Fin_ret rfl (by rw [this]; rfl)
        · obtain ⟨j, h1, h2, rfl⟩ := next (by simp [hsp, hq1, d5])
          simp [d5]
          exact ⟨_, h1, h2, Wk.both (by simp [wkL, wkV.same]; rw [wrapN (by omega)]; exact wkV.same _) trivial⟩
  · simp [hlt]
    exact Fin_ret rfl (by rw [allI_true fun k p hp => hall k p (by have := (List.getElem?_eq_some_iff.1 hp).1; omega) hp]; simp [reC])
end
end Go.Proofs.YtgegcfhifojjiaaDoor.Vm
