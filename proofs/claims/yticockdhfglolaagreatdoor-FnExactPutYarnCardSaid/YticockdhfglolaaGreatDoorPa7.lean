/- The walks and laws of this claim: Yp Yv Yw Ye Ya YaL Qt Py Pz Pw PyL. -/
import Derived.Test.YticockdhfglolaaGreatDoorPa6
namespace Go.Proofs.YticockdhfglolaaGreatDoor.Vm
open Go Go.RowKit
set_option linter.unusedVariables false
set_option linter.unusedSimpArgs false
/-- whether a bound takes a version -/
noncomputable def lowB? (b : ByteArray) (v : Ver) : Bool := match readVer b with | some l => decide (cmpV v l < 0) | none => false
noncomputable def highB (b : ByteArray) (v : Ver) : Bool := match readVer b with | some h => decide (0 ≤ cmpV v h) | none => false
noncomputable def sameB (b : ByteArray) (v : Ver) : Bool := match readVer b with | some l => decide (l.pre ≠ []) && decide (l.maj = v.maj) && decide (l.min = v.min) && decide (l.pat = v.pat) | none => false
noncomputable def takesB (v : Ver) (b : ByteArray × ByteArray) : Bool := !lowB? b.1 v && !highB b.2 v && (decide (v.pre = []) || sameB b.1 v)
noncomputable def inRng (s : ByteArray) (r : List (ByteArray × ByteArray)) : Bool := match readVer s with | some v => rngOk r && r.any (takesB v) | none => false
/-- a head, a need in its place -/
noncomputable def headOk (e : En) (i : Nat) (h : Nd) : Bool := needOk h.name h.range && decide (some h.name = (e.heads[0]?).map Nd.name) && (decide (i = 0) || slt ((e.heads.getD (i - 1) ⟨by8 "", by8 ""⟩).range) h.range) && inRng e.version ((rngO h.range).getD [])
noncomputable def headAt (e : En) (i : Nat) : Bool := headOk e i (e.heads.getD i ⟨by8 "", by8 ""⟩)
noncomputable def depAt (e : En) (i : Nat) : Bool := needOk (e.needs.getD i ⟨by8 "", by8 ""⟩).name (e.needs.getD i ⟨by8 "", by8 ""⟩).range && (decide (i = 0) || slt ((e.needs.getD (i - 1) ⟨by8 "", by8 ""⟩).name) (e.needs.getD i ⟨by8 "", by8 ""⟩).name)
noncomputable def entOk (e : En) : Bool := (List.range e.heads.length).all (headAt e) && ((List.range e.needs.length).all (depAt e) && (inR e.heads.length 1 8 && (isVer e.version && ((giI e.integrity).isSome && plainOk e.resolved))))
def keyN (n : Nd) : ByteArray := n.name ++ by8 "@" ++ n.range
def hd0 (e : En) : Nd := e.heads.getD 0 ⟨by8 "", by8 ""⟩
noncomputable def atE (l : List En) (i : Nat) (e : En) : Bool := entOk e && (decide (i = 0) || slt (keyN (hd0 (l.getD (i - 1) ⟨[], by8 "", by8 "", by8 "", []⟩))) (keyN (hd0 e)))
/-- all heads of entries -/
def hdsL (l : List En) : List Nd := (l.map En.heads).flatten
/-- no head of an entry stands in one ahead of it -/
noncomputable def entAt (l : List En) (i : Nat) : Bool := atE l i (l.getD i ⟨[], by8 "", by8 "", by8 "", []⟩) && (l.getD i ⟨[], by8 "", by8 "", by8 "", []⟩).heads.all fun h => decide (h ∉ hdsL (l.take i))
noncomputable def entsOk (l : List En) : Bool := (List.range l.length).all (entAt l) && decide (l.length ≤ 40)
/-- the first entry with a head -/
def resE (l : List En) (n : Nd) : Int := fidx (fun e => hasN e.heads n) l
theorem hasN_iff {l : List Nd} {n : Nd} : hasN l n = true ↔ n ∈ l := by
  unfold hasN
  rw [List.any_eq_true]
  constructor
  · rintro ⟨x, hx, e⟩
    rw [decide_eq_true_eq] at e
    exact e ▸ hx
  · exact fun h => ⟨n, h, by simp⟩
theorem hdsL_take {l : List En} {i : Nat} (h : i < l.length) : hdsL (l.take (i + 1)) = hdsL (l.take i) ++ l[i].heads := by
  unfold hdsL
  rw [List.take_succ_eq_append_getElem h]
  simp only [List.map_append, List.flatten_append, List.map_cons, List.map_nil, List.flatten_cons, List.flatten_nil, List.append_nil]
theorem mem_hdsL {l : List En} {n : Nd} : n ∈ hdsL l ↔ ∃ e ∈ l, n ∈ e.heads := by
  unfold hdsL
  simp only [List.mem_flatten, List.mem_map]
  constructor
  · rintro ⟨_, ⟨e, he, rfl⟩, h⟩; exact ⟨e, he, h⟩
  · rintro ⟨e, he, h⟩; exact ⟨_, ⟨e, he, rfl⟩, h⟩
/-- a head of the i-th entry resolves to it just where no entry ahead has it -/
theorem resE_iff {l : List En} {i : Nat} (hi : i < l.length) {n : Nd} (hn : n ∈ l[i].heads) : resE l n = i ↔ n ∉ hdsL (l.take i) := by
  obtain ⟨j, hj⟩ : ∃ j, l.findIdx (fun e => hasN e.heads n) = j := ⟨_, rfl⟩
  have hc : hasN l[i].heads n = true := hasN_iff.2 hn
  have hle : j ≤ i := by
    rw [← hj]
    exact Nat.not_lt.1 fun h => by
      have := List.not_of_lt_findIdx h
      rw [hc] at this; cases this
  have hlt : j < l.length := by omega
  have hjc : hasN l[j].heads n = true := by
    have := List.findIdx_getElem (xs := l) (p := fun e => hasN e.heads n) (w := by rw [hj]; exact hlt)
    simp only [hj] at this
    exact this
  unfold resE fidx
  rw [hj, if_pos hlt]
  constructor
  · intro h hm
    obtain ⟨e, he, hne⟩ := mem_hdsL.1 hm
    obtain ⟨k, hk, rfl⟩ := List.getElem_of_mem he
    rw [List.length_take] at hk
    rw [List.getElem_take] at hne
    have : k < l.findIdx (fun e => hasN e.heads n) := by omega
    have := List.not_of_lt_findIdx this
    have h2 : hasN l[k].heads n = true := hasN_iff.2 hne
    rw [h2] at this; cases this
  · intro h
    by_cases c : j = i
    · omega
    · refine absurd (mem_hdsL.2 ⟨l[j], ?_, hasN_iff.1 hjc⟩) h
      rw [List.mem_take_iff_getElem]
      exact ⟨j, by omega, rfl⟩
theorem less_trans : ∀ (a b c : List UInt8), Op.bytesLess a b = true → Op.bytesLess b c = true → Op.bytesLess a c = true
  | [], [], c, h, _ => by simp [Op.bytesLess] at h
  | [], b :: br, [], _, h => by simp [Op.bytesLess] at h
  | [], b :: br, c :: cr, _, _ => by simp [Op.bytesLess]
  | a :: ar, [], c, h, _ => by simp [Op.bytesLess] at h
  | a :: ar, b :: br, [], _, h => by simp [Op.bytesLess] at h
  | a :: ar, b :: br, c :: cr, h1, h2 => by
    have ih := less_trans ar br cr
    simp only [Op.bytesLess, Bool.or_eq_true, Bool.and_eq_true, decide_eq_true_eq, beq_iff_eq] at h1 h2 ⊢
    rcases h1 with h1 | ⟨rfl, h1⟩
    · rcases h2 with h2 | ⟨rfl, h2⟩
      · exact .inl (UInt8.lt_trans h1 h2)
      · exact .inl h1
    · rcases h2 with h2 | ⟨rfl, h2⟩
      · exact .inl h2
      · exact .inr ⟨rfl, ih h1 h2⟩
theorem slt_trans {a b c : ByteArray} (h1 : slt a b = true) (h2 : slt b c = true) : slt a c = true := less_trans _ _ _ h1 h2
theorem slt_ne {a b : ByteArray} (h : slt a b = true) : a ≠ b := by
  rcases slt_tri a b with ⟨_, _, h3⟩ | ⟨_, h2, _⟩ | ⟨_, h2, _⟩
  · exact h3
  · rw [h] at h2; cases h2
  · rw [h] at h2; cases h2
/-- the heads of a right entry differ -/
theorem heads_ne {e : En} (h : entOk e = true) {i k : Nat} (hik : i < k) (hk : k < e.heads.length) : e.heads[i] ≠ e.heads[k] := by
  have hall : ∀ j, j < e.heads.length → headAt e j = true := fun j hj => by
    rw [entOk, Bool.and_eq_true] at h
    exact List.all_eq_true.1 h.1 j (List.mem_range.2 hj)
  have hstep : ∀ j (hj : j + 1 < e.heads.length), slt (e.heads[j]).range (e.heads[j + 1]).range = true := by
    intro j hj
    have := hall (j + 1) hj
    unfold headAt headOk at this
    simp only [Bool.and_eq_true, Bool.or_eq_true, decide_eq_true_eq, Nat.add_sub_cancel] at this
    rcases this.1.2 with h | h
    · omega
    · rw [show e.heads.getD j ⟨by8 "", by8 ""⟩ = e.heads[j] by simp [List.getD, show j < e.heads.length by omega], show e.heads.getD (j + 1) ⟨by8 "", by8 ""⟩ = e.heads[j + 1] by simp [List.getD, hj]] at h
      exact h
  have hlt : ∀ d (hd : i + d + 1 < e.heads.length), slt (e.heads[i]).range (e.heads[i + d + 1]).range = true := by
    intro d
    induction d with
    | zero => intro hd; exact hstep i hd
    | succ d ih => intro hd; exact slt_trans (ih (by omega)) (hstep (i + d + 1) hd)
  have := hlt (k - i - 1) (by omega)
  simp only [show i + (k - i - 1) + 1 = k by omega] at this
  intro he
  rw [he] at this
  exact slt_ne this rfl
end Go.Proofs.YticockdhfglolaaGreatDoor.Vm
namespace Go.Proofs.YticockdhfglolaaGreatDoor.Vm
open Go Go.RowKit
set_option linter.unusedVariables false
set_option linter.unusedSimpArgs false
def v167 : VC := .seq (.reg false [⟨some 4, .as (.c (.lit (.int .i64 0))), none⟩] [4]) (.seq (.block 0 (.seq (.reg false [⟨some 6, .mv (.t 0), none⟩, ⟨some 7, .mv (.t 1), none⟩, ⟨some 8, .bin .lss 0 (.t 6) (.t 7), none⟩, ⟨some 5, .as (.t 8), none⟩] [6, 7, 8]) (.cond (.t 5) (.seq (.reg false [⟨some 4, .as (.c (.lit (.int .i64 (-1)))), none⟩] []) (.ret)) (.seq (.reg false [⟨some 10, .mv (.t 0), none⟩, ⟨some 11, .mv (.t 1), none⟩, ⟨some 12, .bin .gtr 0 (.t 10) (.t 11), none⟩, ⟨some 9, .as (.t 12), none⟩] [10, 11, 12]) (.cond (.t 9) (.seq (.reg false [⟨some 4, .as (.c (.lit (.int .i64 1))), none⟩] []) (.ret)) (.skip)))))) (.seq (.reg false [⟨some 4, .as (.c (.lit (.int .i64 0))), none⟩] []) (.ret)))
theorem is167 : Is Go.Proofs.Tryz.prog 167 13 v167 [.t 4] := ⟨Go.Proofs.Tryz.f167, dl [(0, [4]), (1, [6, 7, 8]), (3, [10, 11, 12])], Go.Proofs.Tryz.func167, by kernel_rfl, by kernel_rfl, by kernel_rfl, by kernel_rfl⟩
def v168 : VC := .seq (.reg false [⟨some 4, .as (.c (.lit (.int .i64 0))), none⟩] [4]) (.seq (.reg false [⟨some 8, .mv (.t 0), none⟩, ⟨some 9, .call false 209 [(.t 8)], none⟩, ⟨some 10, .mv (.t 1), none⟩, ⟨some 11, .call false 209 [(.t 10)], none⟩, ⟨some 5, .as (.t 9), none⟩, ⟨some 6, .as (.t 11), none⟩] [8, 9, 10, 11]) (.seq (.block 0 (.seq (.reg false [⟨some 13, .mv (.t 5), none⟩, ⟨some 14, .mv (.t 13), none⟩, ⟨some 15, .mv (.t 6), (some (14, true))⟩, ⟨some 16, .pick (.t 14) (.t 15) (.c (.lit (.bool false))), none⟩, ⟨some 12, .as (.t 16), none⟩] [13, 14, 15, 16]) (.cond (.t 12) (.seq (.reg false [⟨some 17, .mv (.t 0), none⟩, ⟨some 18, .call false 210 [(.t 17), (.c (.lit (.string (by8 "0"))))], none⟩, ⟨some 19, .mv (.t 1), none⟩, ⟨some 20, .call false 210 [(.t 19), (.c (.lit (.string (by8 "0"))))], none⟩, ⟨some 0, .as (.t 18), none⟩, ⟨some 1, .as (.t 20), none⟩] [17, 18, 19, 20]) (.seq (.reg false [⟨some 21, .mv (.t 0), none⟩, ⟨some 22, .len true (.t 21), none⟩, ⟨some 23, .mv (.t 1), none⟩, ⟨some 24, .len true (.t 23), none⟩, ⟨some 25, .call false 167 [(.t 22), (.t 24)], none⟩, ⟨some 7, .as (.t 25), none⟩] [21, 22, 23, 24, 25]) (.seq (.reg false [⟨some 26, .mv (.t 7), none⟩, ⟨some 27, .bin .neq 0 (.t 26) (.c (.lit (.int .i64 0))), none⟩] [26]) (.cond (.t 27) (.seq (.reg false [⟨some 28, .mv (.t 7), none⟩, ⟨some 4, .as (.t 28), none⟩] [28]) (.ret)) (.skip))))) (.seq (.reg false [⟨some 30, .mv (.t 5), none⟩, ⟨some 29, .as (.t 30), none⟩] [30]) (.cond (.t 29) (.seq (.reg false [⟨some 4, .as (.c (.lit (.int .i64 (-1)))), none⟩] []) (.ret)) (.seq (.reg false [⟨some 32, .mv (.t 6), none⟩, ⟨some 31, .as (.t 32), none⟩] [32]) (.cond (.t 31) (.seq (.reg false [⟨some 4, .as (.c (.lit (.int .i64 1))), none⟩] []) (.ret)) (.skip)))))))) (.seq (.reg false [⟨some 33, .mv (.t 0), none⟩, ⟨some 34, .mv (.t 1), none⟩, ⟨some 35, .call false 211 [(.t 33), (.t 34)], none⟩, ⟨some 4, .as (.t 35), none⟩] [33, 34, 35]) (.ret))))
theorem is168 : Is Go.Proofs.Tryz.prog 168 36 v168 [.t 4] := ⟨Go.Proofs.Tryz.f168, dl [(0, [4]), (1, [8, 9, 10, 11]), (2, [13, 14, 15, 16]), (7, [30]), (9, [32]), (3, [17, 18, 19, 20]), (4, [21, 22, 23, 24, 25]), (5, [26]), (6, [28]), (11, [33, 34, 35])], Go.Proofs.Tryz.func168, by kernel_rfl, by kernel_rfl, by kernel_rfl, by kernel_rfl⟩
def v109 : VC := .seq (.reg false [⟨some 2, .box 4 (.t 0), none⟩, ⟨some 3, .box 4 (.t 1), none⟩, ⟨some 4, .as (.c (.lit (.int .i64 0))), none⟩] [4]) (.seq (.seq (.reg true [⟨some 9, .fa 0 (.t 2), none⟩, ⟨some 10, .ld false 1 (.t 9), none⟩, ⟨some 11, .fa 0 (.t 3), none⟩, ⟨some 12, .ld false 1 (.t 11), none⟩, ⟨some 13, .call true 167 [(.t 10), (.t 12)], none⟩, ⟨some 14, .fa 1 (.t 2), none⟩, ⟨some 15, .ld false 1 (.t 14), none⟩, ⟨some 16, .fa 1 (.t 3), none⟩, ⟨some 17, .ld false 1 (.t 16), none⟩, ⟨some 18, .call true 167 [(.t 15), (.t 17)], none⟩, ⟨some 19, .fa 2 (.t 2), none⟩, ⟨some 20, .ld false 1 (.t 19), none⟩, ⟨some 21, .fa 2 (.t 3), none⟩, ⟨some 22, .ld false 1 (.t 21), none⟩, ⟨some 23, .call true 167 [(.t 20), (.t 22)], none⟩, ⟨some 24, .bsl 1 [(.t 13), (.t 18), (.t 23)], none⟩, ⟨some 25, .len false (.t 24), none⟩, ⟨some 26, .mv (.c (.lit (.int .i64 0))), none⟩] [9, 10, 11, 12, 13, 14, 15, 16, 17, 18, 19, 20, 21, 22, 23]) (.block 0 (.loop (.seq (.reg false [⟨some 27, .bin .lss 0 (.t 26) (.t 25), none⟩] []) (.seq (.cond (.t 27) (.skip) (.exit 0)) (.seq (.block 1 (.seq (.reg false [⟨some 28, .ia 1 (.t 24) (.t 26), none⟩, ⟨some 29, .ld false 1 (.t 28), none⟩, ⟨some 6, .as (.t 29), none⟩] [28, 29]) (.seq (.reg false [⟨some 30, .mv (.t 6), none⟩, ⟨some 31, .bin .neq 0 (.t 30) (.c (.lit (.int .i64 0))), none⟩] [30]) (.cond (.t 31) (.seq (.reg false [⟨some 32, .mv (.t 6), none⟩, ⟨some 4, .as (.t 32), none⟩] [32]) (.ret)) (.skip))))) (.reg false [⟨some 33, .bin .add 0 (.t 26) (.c (.lit (.int .i64 1))), none⟩, ⟨some 26, .mv (.t 33), none⟩] [33]))))))) (.seq (.seq (.reg false [⟨some 34, .fa 3 (.t 2), none⟩, ⟨some 35, .ld false 1 (.t 34), none⟩, ⟨some 36, .len false (.t 35), none⟩, ⟨some 37, .bin .eql 0 (.t 36) (.c (.lit (.int .i64 0))), none⟩, ⟨some 38, .fa 3 (.t 3), none⟩, ⟨some 39, .ld false 1 (.t 38), none⟩, ⟨some 40, .len false (.t 39), none⟩, ⟨some 41, .bin .eql 0 (.t 40) (.c (.lit (.int .i64 0))), none⟩, ⟨some 42, .bin .neq 2 (.t 37) (.t 41), none⟩] [34, 35, 36, 37, 38, 39, 40, 41]) (.cond (.t 42) (.seq (.reg false [⟨some 43, .fa 3 (.t 3), none⟩, ⟨some 44, .ld false 1 (.t 43), none⟩, ⟨some 45, .len false (.t 44), none⟩, ⟨some 46, .fa 3 (.t 2), none⟩, ⟨some 47, .ld false 1 (.t 46), none⟩, ⟨some 48, .len false (.t 47), none⟩, ⟨some 49, .call false 167 [(.t 45), (.t 48)], none⟩, ⟨some 4, .as (.t 49), none⟩] [43, 44, 45, 46, 47, 48, 49]) (.ret)) (.skip))) (.seq (.seq (.reg false [⟨some 50, .fa 3 (.t 2), none⟩, ⟨some 51, .ld false 1 (.t 50), none⟩, ⟨some 52, .len false (.t 51), none⟩, ⟨some 53, .fa 3 (.t 3), none⟩, ⟨some 54, .ld false 1 (.t 53), none⟩, ⟨some 55, .len false (.t 54), none⟩, ⟨some 56, .mn (.t 52) (.t 55), none⟩, ⟨some 57, .mv (.c (.lit (.int .i64 0))), none⟩] [50, 51, 52, 53, 54, 55]) (.block 2 (.loop (.seq (.reg false [⟨some 58, .bin .lss 0 (.t 57) (.t 56), none⟩] []) (.seq (.cond (.t 58) (.skip) (.exit 2)) (.seq (.block 3 (.seq (.reg false [⟨some 59, .mv (.t 57), none⟩, ⟨some 7, .as (.t 59), none⟩] [59]) (.seq (.reg true [⟨some 60, .fa 3 (.t 2), none⟩, ⟨some 61, .ld false 1 (.t 60), none⟩, ⟨some 62, .mv (.t 7), none⟩, ⟨some 63, .ia 1 (.t 61) (.t 62), none⟩, ⟨some 64, .ld false 1 (.t 63), none⟩, ⟨some 65, .fa 3 (.t 3), none⟩, ⟨some 66, .ld false 1 (.t 65), none⟩, ⟨some 67, .mv (.t 7), none⟩, ⟨some 68, .ia 1 (.t 66) (.t 67), none⟩, ⟨some 69, .ld false 1 (.t 68), none⟩, ⟨some 70, .call true 168 [(.t 64), (.t 69)], none⟩, ⟨some 8, .as (.t 70), none⟩] [60, 61, 62, 63, 64, 65, 66, 67, 68, 69, 70]) (.seq (.reg false [⟨some 71, .mv (.t 8), none⟩, ⟨some 72, .bin .neq 0 (.t 71) (.c (.lit (.int .i64 0))), none⟩] [71]) (.cond (.t 72) (.seq (.reg false [⟨some 73, .mv (.t 8), none⟩, ⟨some 4, .as (.t 73), none⟩] [73]) (.ret)) (.skip)))))) (.reg false [⟨some 74, .bin .add 0 (.t 57) (.c (.lit (.int .i64 1))), none⟩, ⟨some 57, .mv (.t 74), none⟩] [74]))))))) (.seq (.reg false [⟨some 75, .fa 3 (.t 2), none⟩, ⟨some 76, .ld false 1 (.t 75), none⟩, ⟨some 77, .len false (.t 76), none⟩, ⟨some 78, .fa 3 (.t 3), none⟩, ⟨some 79, .ld false 1 (.t 78), none⟩, ⟨some 80, .len false (.t 79), none⟩, ⟨some 81, .call false 167 [(.t 77), (.t 80)], none⟩, ⟨some 4, .as (.t 81), none⟩] [75, 76, 77, 78, 79, 80, 81]) (.ret)))))
theorem is109 : Is Go.Proofs.Tryz.prog 109 82 v109 [.t 4] := ⟨Go.Proofs.Tryz.f109, dl [(0, [4]), (1, [9, 10, 11, 12, 13, 14, 15, 16, 17, 18, 19, 20, 21, 22, 23]), (3, [28, 29]), (4, [30]), (5, [32]), (6, [33]), (7, [34, 35, 36, 37, 38, 39, 40, 41]), (8, [43, 44, 45, 46, 47, 48, 49]), (9, [50, 51, 52, 53, 54, 55]), (11, [59]), (12, [60, 61, 62, 63, 64, 65, 66, 67, 68, 69, 70]), (13, [71]), (14, [73]), (15, [74]), (16, [75, 76, 77, 78, 79, 80, 81])], Go.Proofs.Tryz.func109, by kernel_rfl, by kernel_rfl, by kernel_rfl, by kernel_rfl⟩
theorem by48 : by8 "0" = one 48 := by decide +kernel
theorem cmpB_eq : ∀ (a b : List UInt8), Lib.compareBytes a b = if Op.bytesLess a b = true then -1 else if a = b then 0 else 1
  | [], [] => rfl
  | [], b :: br => by simp [Lib.compareBytes, Op.bytesLess]
  | a :: ar, [] => by simp [Lib.compareBytes, Op.bytesLess]
  | a :: ar, b :: br => by
    have ih := cmpB_eq ar br
    unfold Lib.compareBytes
    rcases Nat.lt_trichotomy a.toNat b.toNat with c | c | c
    · have h1 : a < b := UInt8.lt_iff_toNat_lt.2 c
      simp [Op.bytesLess, h1]
    · obtain rfl := UInt8.toNat_inj.1 c
      have h2 : ¬ a < a := fun e => by have := UInt8.lt_iff_toNat_lt.1 e; omega
      rw [if_neg h2, if_neg h2, ih]
      simp [Op.bytesLess, h2]
    · have h1 : ¬ a < b := fun e => by have := UInt8.lt_iff_toNat_lt.1 e; omega
      have h2 : b < a := UInt8.lt_iff_toNat_lt.2 c
      have h3 : a ≠ b := fun e => by rw [e] at c; omega
      have h4 : (a == b) = false := by simpa using h3
      rw [if_neg h1, if_pos h2]
      simp [Op.bytesLess, h1, h3, h4]
theorem cmpB_S (a b : ByteArray) : Lib.compareBytes a.data.toList b.data.toList = cmpS a b := by
  rw [cmpB_eq, cmpS]
  unfold slt
  rw [Lib.toList_data, Lib.toList_data]
  have : (a.data.toList = b.data.toList) = (a = b) := propext ⟨ba_ext, fun h => by rw [h]⟩
  simp only [this]
theorem dropZ_size (s : ByteArray) : (trim0 s).size ≤ s.size := by
  have h : (s.data.toList.dropWhile (· == 48)).length ≤ s.data.toList.length := (List.dropWhile_suffix _).sublist.length_le
  have h1 : (trim0 s).size = (s.data.toList.dropWhile (· == 48)).length := List.size_toArray
  have h2 : s.data.toList.length = s.size := by simp
  omega
section
variable {E : Env} (hE : E.P = Go.Proofs.Tryz.prog)
include hE
theorem implInts_fx (a b : Int) : Fx E 167 [] [.lit (.int .i64 a), .lit (.int .i64 b)] [] (.lit (.int .i64 (cmpI a b))) := by
  refine (is167.to hE).fx [] (by simp) rfl rfl ?_
  simp [v167]
  by_cases c1 : a < b
  · simp [c1]
    exact Fin_ret rfl (by simp [cmpI, c1, reC])
  · simp [c1]
    by_cases c2 : b < a
    · simp [c2]
      exact Fin_ret rfl (by simp [cmpI, c1, c2, reC])
    · simp [c2]
      exact Fin_ret rfl (by simp [cmpI, c1, c2, reC])
theorem trimLeft_fx (s : ByteArray) : Fx E 210 [] [.lit (.string s), .lit (.string (by8 "0"))] [] (.lit (.string (trim0 s))) :=
  Fx_lit (args := [.string s, .string (by8 "0")]) rfl fun w hw => by
    rw [hE, by48]
    refine (Go.Proofs.Tryz.strings_TrimLeft_one s 48 (by decide) w).mono ?_
    rintro e w' ⟨rfl, rfl⟩
    exact ⟨rfl, Below.refl _ _⟩
theorem strCmp_fx (a b : ByteArray) : Fx E 211 [] [.lit (.string a), .lit (.string b)] [] (.lit (.int .i64 (cmpS a b))) :=
  Fx_lit (args := [.string a, .string b]) rfl fun w hw => by
    rw [hE]
    refine (Go.Proofs.Tryz.strings_Compare a b w).mono ?_
    rintro e w' ⟨rfl, rfl⟩
    exact ⟨by rw [cmpB_S], Below.refl _ _⟩
theorem implPre_fx (a b : ByteArray) (ha : a.size ≤ 4294967296) (hb : b.size ≤ 4294967296) : Fx E 168 [] [.lit (.string a), .lit (.string b)] [] (.lit (.int .i64 (cmpQ a b))) := by
  have ta := dropZ_size a
  have tb := dropZ_size b
  refine (is168.to hE).fx [] (by simp) rfl rfl ?_
  simp [v168]
  refine vcall_go (isNumber_fx hE a (by omega)) (by simp) (by simp) (by simp) (by simp) ?_
  simp
  refine vcall_go (isNumber_fx hE b (by omega)) (by simp) (by simp) (by simp) (by simp) ?_
  simp
  cases c1 : numB a <;> cases c2 : numB b
  · simp
    refine vcall_go (strCmp_fx hE a b) (by simp) (by simp) (by simp) (by simp) ?_
    simp
    exact Fin_ret rfl (by simp [cmpQ, c1, c2, reC])
  · simp
    exact Fin_ret rfl (by simp [cmpQ, c1, c2, reC])
  · simp
    exact Fin_ret rfl (by simp [cmpQ, c1, c2, reC])
  · simp
    refine vcall_go (trimLeft_fx hE a) (by simp) (by simp) (by simp) (by simp) ?_
    simp
    refine vcall_go (trimLeft_fx hE b) (by simp) (by simp) (by simp) (by simp) ?_
    simp
    refine vcall_go (implInts_fx hE (trim0 a).size (trim0 b).size) (by simp) (by simp) (by simp) (by simp) ?_
    simp
    by_cases c3 : cmpI (trim0 a).size (trim0 b).size = 0
    · simp [c3]
      refine vcall_go (strCmp_fx hE (trim0 a) (trim0 b)) (by simp) (by simp) (by simp) (by simp) ?_
      simp
      exact Fin_ret rfl (by simp [cmpQ, c1, c2, cmpT, c3, reC])
    · simp [c3]
      exact Fin_ret rfl (by simp [cmpQ, c1, c2, cmpT, c3, reC])
set_option maxHeartbeats 2000000 in
theorem implCmp_fx (a b : Ver) (la : a.pre.length ≤ 4294967296) (lb : b.pre.length ≤ 4294967296) (ha : ∀ p ∈ a.pre, preOk p = true ∧ p.size ≤ 4294967296) (hb : ∀ p ∈ b.pre, preOk p = true ∧ p.size ≤ 4294967296) : Fx E 109 [] [.agg a.av, .agg b.av] [] (.lit (.int .i64 (cmpV a b))) := by
  have hav : a.av = [.lit (.int .i64 a.maj), .lit (.int .i64 a.min), .lit (.int .i64 a.pat), .sl ro 1 (a.pre.map fun x => .lit (.string x))] := rfl
  have hbv : b.av = [.lit (.int .i64 b.maj), .lit (.int .i64 b.min), .lit (.int .i64 b.pat), .sl ro 1 (b.pre.map fun x => .lit (.string x))] := rfl
  have hcv : cmpV a b = if cmpI a.maj b.maj ≠ 0 then cmpI a.maj b.maj else if cmpI a.min b.min ≠ 0 then cmpI a.min b.min else if cmpI a.pat b.pat ≠ 0 then cmpI a.pat b.pat else if a.pre = [] ∨ b.pre = [] then cmpI b.pre.length a.pre.length else cmpL a.pre b.pre := rfl
  refine (is109.to hE).fx [] (by simp) rfl rfl ?_
  simp [v109, hav, hbv, okC]
  refine vcall_go (implInts_fx hE a.maj b.maj) (by simp) (by simp) (by simp) (by simp) ?_
  simp
  refine vcall_go (implInts_fx hE a.min b.min) (by simp) (by simp) (by simp) (by simp) ?_
  simp
  refine vcall_go (implInts_fx hE a.pat b.pat) (by simp) (by simp) (by simp) (by simp) ?_
  obtain ⟨x, hx⟩ : ∃ x, cmpI a.maj b.maj = x := ⟨_, rfl⟩
  obtain ⟨y, hy⟩ : ∃ y, cmpI a.min b.min = y := ⟨_, rfl⟩
  obtain ⟨z, hz⟩ : ∃ z, cmpI a.pat b.pat = z := ⟨_, rfl⟩
  rw [hx, hy, hz] at hcv
  rw [hx, hy, hz]
  simp [okC, frA, frA.frL]
  refine X_loop (τ := Nat) (fun i => ⟨[(2, .ptr 1000000000002 0 0), (3, .ptr 1000000000003 0 0), (24, .sl ⟨.no, true⟩ 1 [.lit (.int .i64 x), .lit (.int .i64 y), .lit (.int .i64 z)]), (25, .lit (.int .i64 3)), (26, .lit (.int .i64 i))], [(1000000000002, [.agg a.av]), (1000000000003, [.agg b.av])]⟩) (CmpI x y z) (fun i => 3 - i) 0 ⟨by omega, fun h => by omega, fun h => by omega, fun h => by omega⟩ (Wk.both (by simp [wkL, wkV.same]; exact wkV_no _ _ _ _) (by simp [wkB, hav, hbv])) ?_
  rintro i ⟨hi, g1, g2, g3⟩
  simp [hav, hbv]
  match i, hi with
  | 0, _ =>
    simp [mkF]
    by_cases c : x = 0
    · have hn : CmpI x y z 1 := ⟨by omega, fun _ => c, fun h => by omega, fun h => by omega⟩
      rw [c] at hn
      simp [c]
      exact ⟨1, hn, by omega, Wk.both (by simp [wkL, wkV.same, c]; rw [wrap_i64 (by omega) (by omega)]; exact wkV.same _) (by simp [wkB, hav, hbv])⟩
    · simp [c]
      exact Fin_ret rfl (by rw [hcv, if_pos c]; rfl)
  | 1, _ =>
    have k1 := g1 (by omega)
    simp [mkF]
    by_cases c : y = 0
    · have hn : CmpI x y z 2 := ⟨by omega, fun _ => k1, fun _ => c, fun h => by omega⟩
      rw [c] at hn
      simp [c]
      exact ⟨2, hn, by omega, Wk.both (by simp [wkL, wkV.same, c]; rw [wrap_i64 (by omega) (by omega)]; exact wkV.same _) (by simp [wkB, hav, hbv])⟩
    · simp [c]
      exact Fin_ret rfl (by rw [hcv, if_neg (by simp [k1]), if_pos c]; rfl)
  | 2, _ =>
    have k1 := g1 (by omega)
    have k2 := g2 (by omega)
    simp [mkF]
    by_cases c : z = 0
    · have hn : CmpI x y z 3 := ⟨by omega, fun _ => k1, fun _ => k2, fun _ => c⟩
      rw [c] at hn
      simp [c]
      exact ⟨3, hn, by omega, Wk.both (by simp [wkL, wkV.same, c]; rw [wrap_i64 (by omega) (by omega)]; exact wkV.same _) (by simp [wkB, hav, hbv])⟩
    · simp [c]
      exact Fin_ret rfl (by rw [hcv, if_neg (by simp [k1]), if_neg (by simp [k2]), if_pos c]; rfl)
  | 3, _ =>
    have k1 := g1 (by omega)
    have k2 := g2 (by omega)
    have k3 := g3 (by omega)
    rw [if_neg (by simp [k1]), if_neg (by simp [k2]), if_neg (by simp [k3])] at hcv
    simp
    by_cases c0 : decide (a.pre = []) = decide (b.pre = [])
    · have hcl0 : cmpV a b = cmpL a.pre b.pre := by
        by_cases ca : a.pre = []
        · have cb : b.pre = [] := by rw [ca] at c0; simpa using c0.symm
          rw [hcv, if_pos (.inl ca), ca, cb]; rfl
        · have cb : ¬ b.pre = [] := fun h => by rw [h] at c0; exact ca (by simpa using c0)
          rw [hcv, if_neg (by rintro (h | h); exact ca h; exact cb h)]
      simp [c0]
      refine X_loop (τ := Nat) (fun i => ⟨[(2, .ptr 1000000000002 0 0), (3, .ptr 1000000000003 0 0), (56, .lit (.int .i64 (min (a.pre.length : Int) b.pre.length))), (57, .lit (.int .i64 i))], [(1000000000002, [.agg a.av]), (1000000000003, [.agg b.av])]⟩) (fun i => i ≤ a.pre.length ∧ i ≤ b.pre.length ∧ cmpL a.pre b.pre = cmpL (a.pre.drop i) (b.pre.drop i)) (fun i => a.pre.length - i) 0 (by simp) (Wk.both (by simp [wkL, wkV.same]) (by simp [wkB, hav, hbv])) ?_
      rintro i ⟨hi, hj, hcl⟩
      simp [hav, hbv]
      by_cases l1 : i < a.pre.length ∧ i < b.pre.length
      · obtain ⟨l1, l2⟩ := l1
        rw [List.drop_eq_getElem_cons l1, List.drop_eq_getElem_cons l2] at hcl
        simp only [cmpL] at hcl
        obtain ⟨pa, za⟩ := ha _ (List.getElem_mem l1)
        obtain ⟨pb, zb⟩ := hb _ (List.getElem_mem l2)
        have hm : (i : Int) < min (a.pre.length : Int) b.pre.length := by omega
        simp [hm, l1, l2, mkF]
        refine vcall_go (implPre_fx hE a.pre[i] b.pre[i] za zb) (by simp) (by simp) (by simp) (by simp) ?_
        rw [cmpQ_eq pa pb]
        simp
        by_cases c3 : cmpP a.pre[i] b.pre[i] = 0
        · rw [if_neg (by simp [c3])] at hcl
          simp [c3]
          exact ⟨i + 1, ⟨by omega, by omega, hcl⟩, by omega, Wk.both (by simp [wkL, wkV.same]; rw [wrapN (by omega)]; exact wkV.same _) (by simp [wkB, hav, hbv])⟩
        · rw [if_pos c3] at hcl
          simp [c3]
          exact Fin_ret rfl (by rw [hcl0, hcl]; rfl)
      · have l1' : i < a.pre.length → ¬ i < b.pre.length := fun h h2 => l1 ⟨h, h2⟩
        have hend : cmpL (a.pre.drop i) (b.pre.drop i) = cmpI a.pre.length b.pre.length := by
          have he : a.pre.drop i = [] ∨ b.pre.drop i = [] := by
            by_cases h : i < a.pre.length
            · exact .inr (List.drop_of_length_le (by have := l1' h; omega))
            · exact .inl (List.drop_of_length_le (by omega))
          rw [cmpL_end he, List.length_drop, List.length_drop]
          have := cmpI_shift ((a.pre.length - i : Nat) : Int) ((b.pre.length - i : Nat) : Int) i
          rw [← this, show ((a.pre.length - i : Nat) : Int) + i = a.pre.length by omega, show ((b.pre.length - i : Nat) : Int) + i = b.pre.length by omega]
        have hm : ¬ (i : Int) < min (a.pre.length : Int) b.pre.length := by
          by_cases h : i < a.pre.length
          · have := l1' h; omega
          · omega
        simp [hm]
        refine vcall_go (implInts_fx hE a.pre.length b.pre.length) (by simp) (by simp) (by simp) (by simp) ?_
        simp
        exact Fin_ret rfl (by rw [hcl0, hcl, hend]; rfl)
    · have hc : a.pre = [] ∨ b.pre = [] := by
        by_cases ca : a.pre = []
        · exact .inl ca
        · by_cases cb : b.pre = []
          · exact .inr cb
          · exact absurd (by simp [ca, cb]) c0
      rw [if_pos hc] at hcv
      have hbq : (decide (a.pre = []) == decide (b.pre = [])) = false := by rw [beq_eq_false_iff_ne]; exact c0
      simp only [hbq, Bool.not_false]
      simp
      refine vcall_go (implInts_fx hE b.pre.length a.pre.length) (by simp) (by simp) (by simp) (by simp) ?_
      simp
      exact Fin_ret rfl (by rw [hcv]; rfl)
end
end Go.Proofs.YticockdhfglolaaGreatDoor.Vm
namespace Go.Proofs.YticockdhfglolaaGreatDoor.Vm
open Go Go.RowKit
set_option linter.unusedVariables false
set_option linter.unusedSimpArgs false
def v62 : VC := .seq (.reg false [⟨some 4, .as (.c (.lit (.int .i64 0))), none⟩] [4]) (.seq (.reg false [⟨some 10, .mv (.t 0), none⟩, ⟨some 11, .call false 107 [(.t 10)], none⟩, ⟨some 9, .mv (.t 11), none⟩, ⟨some 12, .ext (.t 9) 0, none⟩, ⟨some 13, .ext (.t 9) 1, none⟩, ⟨some 5, .alloc (.agg [(.lit (.int .i64 0)), (.lit (.int .i64 0)), (.lit (.int .i64 0)), (.sl ⟨.nl, true⟩ 1 [])]), none⟩, ⟨none, .st 4 (.t 5) (.t 12), none⟩, ⟨some 6, .as (.t 13), none⟩] [10, 11, 9, 12, 13, 6]) (.seq (.reg false [⟨some 15, .mv (.t 1), none⟩, ⟨some 16, .call false 107 [(.t 15)], none⟩, ⟨some 14, .mv (.t 16), none⟩, ⟨some 17, .ext (.t 14) 0, none⟩, ⟨some 18, .ext (.t 14) 1, none⟩, ⟨some 7, .alloc (.agg [(.lit (.int .i64 0)), (.lit (.int .i64 0)), (.lit (.int .i64 0)), (.sl ⟨.nl, true⟩ 1 [])]), none⟩, ⟨none, .st 4 (.t 7) (.t 17), none⟩, ⟨some 8, .as (.t 18), none⟩] [15, 16, 14, 17, 18, 8]) (.seq (.reg false [⟨some 19, .ld true 4 (.t 5), none⟩, ⟨some 20, .ld true 4 (.t 7), none⟩, ⟨some 21, .call false 109 [(.t 19), (.t 20)], none⟩, ⟨some 4, .as (.t 21), none⟩] [19, 20, 21]) (.ret))))
theorem is62 : Is Go.Proofs.Tryz.prog 62 22 v62 [.t 4] := ⟨Go.Proofs.Tryz.f62, dl [(0, [4]), (1, [10, 11, 9, 12, 13, 6]), (2, [15, 16, 14, 17, 18, 8]), (3, [19, 20, 21])], Go.Proofs.Tryz.func62, by kernel_rfl, by kernel_rfl, by kernel_rfl, by kernel_rfl⟩
def v132 : VC := .seq (.reg false [⟨some 2, .box 2 (.t 0), none⟩, ⟨some 3, .box 4 (.t 1), none⟩, ⟨some 4, .as (.c (.lit (.bool false))), none⟩] [4]) (.seq (.reg false [⟨some 10, .fa 0 (.t 2), none⟩, ⟨some 11, .ld false 1 (.t 10), none⟩, ⟨some 12, .call false 57 [(.t 11)], none⟩, ⟨some 9, .mv (.t 12), none⟩, ⟨some 13, .ext (.t 9) 0, none⟩, ⟨some 14, .ext (.t 9) 1, none⟩, ⟨some 5, .alloc (.agg [(.lit (.int .i64 0)), (.lit (.int .i64 0)), (.lit (.int .i64 0)), (.sl ⟨.nl, true⟩ 1 [])]), none⟩, ⟨none, .st 4 (.t 5) (.t 13), none⟩, ⟨some 6, .as (.t 14), none⟩] [10, 11, 12, 9, 13, 14]) (.seq (.reg false [⟨some 16, .fa 1 (.t 2), none⟩, ⟨some 17, .ld false 1 (.t 16), none⟩, ⟨some 18, .call false 57 [(.t 17)], none⟩, ⟨some 15, .mv (.t 18), none⟩, ⟨some 19, .ext (.t 15) 0, none⟩, ⟨some 20, .ext (.t 15) 1, none⟩, ⟨some 7, .alloc (.agg [(.lit (.int .i64 0)), (.lit (.int .i64 0)), (.lit (.int .i64 0)), (.sl ⟨.nl, true⟩ 1 [])]), none⟩, ⟨none, .st 4 (.t 7) (.t 19), none⟩, ⟨some 8, .as (.t 20), none⟩] [16, 17, 18, 15, 19, 20]) (.seq (.seq (.reg false [⟨some 21, .mv (.t 6), none⟩, ⟨some 22, .mv (.t 21), none⟩, ⟨some 23, .ld true 4 (.t 3), (some (22, true))⟩, ⟨some 24, .ld true 4 (.t 5), (some (22, true))⟩, ⟨some 25, .call false 58 [(.t 23), (.t 24)], (some (22, true))⟩, ⟨some 26, .bin .lss 0 (.t 25) (.c (.lit (.int .i64 0))), (some (22, true))⟩, ⟨some 27, .pick (.t 22) (.t 26) (.c (.lit (.bool false))), none⟩, ⟨some 28, .mv (.t 27), none⟩, ⟨some 29, .mv (.t 8), (some (28, false))⟩, ⟨some 30, .mv (.t 29), (some (28, false))⟩, ⟨some 31, .ld true 4 (.t 3), (some (30, true))⟩, ⟨some 32, .ld true 4 (.t 7), (some (30, true))⟩, ⟨some 33, .call false 58 [(.t 31), (.t 32)], (some (30, true))⟩, ⟨some 34, .bin .geq 0 (.t 33) (.c (.lit (.int .i64 0))), (some (30, true))⟩, ⟨some 35, .pick (.t 30) (.t 34) (.c (.lit (.bool false))), (some (28, false))⟩, ⟨some 36, .pick (.t 28) (.c (.lit (.bool true))) (.t 35), none⟩] [21, 22, 23, 24, 25, 26, 27, 28, 29, 30, 31, 32, 33, 34, 35]) (.cond (.t 36) (.seq (.reg false [⟨some 4, .as (.c (.lit (.bool false))), none⟩] []) (.ret)) (.skip))) (.seq (.reg false [⟨some 37, .fa 3 (.t 3), none⟩, ⟨some 38, .ld false 1 (.t 37), none⟩, ⟨some 39, .len false (.t 38), none⟩, ⟨some 40, .bin .eql 0 (.t 39) (.c (.lit (.int .i64 0))), none⟩, ⟨some 41, .mv (.t 40), none⟩, ⟨some 42, .mv (.t 6), (some (41, false))⟩, ⟨some 43, .mv (.t 42), (some (41, false))⟩, ⟨some 44, .fa 3 (.t 5), (some (43, true))⟩, ⟨some 45, .ld false 1 (.t 44), (some (43, true))⟩, ⟨some 46, .len false (.t 45), (some (43, true))⟩, ⟨some 47, .bin .gtr 0 (.t 46) (.c (.lit (.int .i64 0))), (some (43, true))⟩, ⟨some 48, .pick (.t 43) (.t 47) (.c (.lit (.bool false))), (some (41, false))⟩, ⟨some 49, .mv (.t 48), (some (41, false))⟩, ⟨some 50, .fa 0 (.t 5), (some (49, true))⟩, ⟨some 51, .ld false 1 (.t 50), (some (49, true))⟩, ⟨some 52, .fa 0 (.t 3), (some (49, true))⟩, ⟨some 53, .ld false 1 (.t 52), (some (49, true))⟩, ⟨some 54, .bin .eql 0 (.t 51) (.t 53), (some (49, true))⟩, ⟨some 55, .pick (.t 49) (.t 54) (.c (.lit (.bool false))), (some (41, false))⟩, ⟨some 56, .mv (.t 55), (some (41, false))⟩, ⟨some 57, .fa 1 (.t 5), (some (56, true))⟩, ⟨some 58, .ld false 1 (.t 57), (some (56, true))⟩, ⟨some 59, .fa 1 (.t 3), (some (56, true))⟩, ⟨some 60, .ld false 1 (.t 59), (some (56, true))⟩, ⟨some 61, .bin .eql 0 (.t 58) (.t 60), (some (56, true))⟩, ⟨some 62, .pick (.t 56) (.t 61) (.c (.lit (.bool false))), (some (41, false))⟩, ⟨some 63, .mv (.t 62), (some (41, false))⟩, ⟨some 64, .fa 2 (.t 5), (some (63, true))⟩, ⟨some 65, .ld false 1 (.t 64), (some (63, true))⟩, ⟨some 66, .fa 2 (.t 3), (some (63, true))⟩, ⟨some 67, .ld false 1 (.t 66), (some (63, true))⟩, ⟨some 68, .bin .eql 0 (.t 65) (.t 67), (some (63, true))⟩, ⟨some 69, .pick (.t 63) (.t 68) (.c (.lit (.bool false))), (some (41, false))⟩, ⟨some 70, .pick (.t 41) (.c (.lit (.bool true))) (.t 69), none⟩, ⟨some 4, .as (.t 70), none⟩] [37, 38, 39, 40, 41, 42, 43, 44, 45, 46, 47, 48, 49, 50, 51, 52, 53, 54, 55, 56, 57, 58, 59, 60, 61, 62, 63, 64, 65, 66, 67, 68, 69, 70]) (.ret)))))
theorem is132 : Is Go.Proofs.Tryz.prog 132 71 v132 [.t 4] := ⟨Go.Proofs.Tryz.f132, dl [(0, [4]), (1, [10, 11, 12, 9, 13, 14]), (2, [16, 17, 18, 15, 19, 20]), (3, [21, 22, 23, 24, 25, 26, 27, 28, 29, 30, 31, 32, 33, 34, 35]), (5, [37, 38, 39, 40, 41, 42, 43, 44, 45, 46, 47, 48, 49, 50, 51, 52, 53, 54, 55, 56, 57, 58, 59, 60, 61, 62, 63, 64, 65, 66, 67, 68, 69, 70])], Go.Proofs.Tryz.func132, by kernel_rfl, by kernel_rfl, by kernel_rfl, by kernel_rfl⟩
def v80 : VC := .seq (.reg false [⟨some 4, .as (.c (.lit (.bool false))), none⟩] [4]) (.seq (.reg false [⟨some 9, .mv (.t 0), none⟩, ⟨some 10, .call false 57 [(.t 9)], none⟩, ⟨some 8, .mv (.t 10), none⟩, ⟨some 11, .ext (.t 8) 0, none⟩, ⟨some 12, .ext (.t 8) 1, none⟩, ⟨some 5, .alloc (.agg [(.lit (.int .i64 0)), (.lit (.int .i64 0)), (.lit (.int .i64 0)), (.sl ⟨.nl, true⟩ 1 [])]), none⟩, ⟨none, .st 4 (.t 5) (.t 11), none⟩, ⟨some 6, .as (.t 12), none⟩] [9, 10, 8, 11, 12]) (.seq (.seq (.reg false [⟨some 7, .as (.c (.lit (.int .i64 0))), none⟩] []) (.block 0 (.loop (.seq (.seq (.reg false [⟨some 13, .mv (.t 7), none⟩, ⟨some 14, .mv (.t 1), none⟩, ⟨some 15, .len false (.t 14), none⟩, ⟨some 16, .bin .lss 0 (.t 13) (.t 15), none⟩] [13, 14, 15]) (.cond (.t 16) (.skip) (.exit 0))) (.seq (.block 1 (.seq (.reg true [⟨some 19, .mv (.t 6), none⟩, ⟨some 20, .mv (.t 19), none⟩, ⟨some 21, .mv (.t 1), (some (20, true))⟩, ⟨some 22, .call true 131 [(.t 21)], (some (20, true))⟩, ⟨some 23, .pick (.t 20) (.t 22) (.c (.lit (.bool false))), none⟩, ⟨some 24, .mv (.t 23), none⟩, ⟨some 25, .mv (.t 1), (some (24, true))⟩, ⟨some 26, .mv (.t 7), (some (24, true))⟩, ⟨some 27, .ia 2 (.t 25) (.t 26), (some (24, true))⟩, ⟨some 28, .ld true 2 (.t 27), (some (24, true))⟩, ⟨some 29, .ld true 4 (.t 5), (some (24, true))⟩, ⟨some 30, .call true 132 [(.t 28), (.t 29)], (some (24, true))⟩, ⟨some 31, .pick (.t 24) (.t 30) (.c (.lit (.bool false))), none⟩] [19, 20, 21, 22, 23, 24, 25, 26, 27, 28, 29, 30]) (.cond (.t 31) (.seq (.reg false [⟨some 4, .as (.c (.lit (.bool true))), none⟩] []) (.ret)) (.skip)))) (.reg false [⟨some 17, .mv (.t 7), none⟩, ⟨some 18, .bin .add 0 (.t 17) (.c (.lit (.int .i64 1))), none⟩, ⟨some 7, .as (.t 18), none⟩] [17, 18])))))) (.seq (.reg false [⟨some 4, .as (.c (.lit (.bool false))), none⟩] []) (.ret))))
theorem is80 : Is Go.Proofs.Tryz.prog 80 32 v80 [.t 4] := ⟨Go.Proofs.Tryz.f80, dl [(0, [4]), (1, [9, 10, 8, 11, 12]), (3, [13, 14, 15]), (5, [19, 20, 21, 22, 23, 24, 25, 26, 27, 28, 29, 30]), (4, [17, 18])], Go.Proofs.Tryz.func80, by kernel_rfl, by kernel_rfl, by kernel_rfl, by kernel_rfl⟩
def v87 : VC := .seq (.reg false [⟨some 4, .as (.c (.lit (.bool false))), none⟩] [4]) (.seq (.reg false [⟨some 12, .mv (.t 0), none⟩, ⟨some 13, .call false 107 [(.t 12)], none⟩, ⟨some 11, .mv (.t 13), none⟩, ⟨some 14, .ext (.t 11) 0, none⟩, ⟨some 15, .ext (.t 11) 1, none⟩, ⟨some 5, .alloc (.agg [(.lit (.int .i64 0)), (.lit (.int .i64 0)), (.lit (.int .i64 0)), (.sl ⟨.nl, true⟩ 1 [])]), none⟩, ⟨none, .st 4 (.t 5) (.t 14), none⟩, ⟨some 6, .as (.t 15), none⟩] [12, 13, 11, 14, 15]) (.seq (.seq (.reg false [⟨some 16, .mv (.t 6), none⟩, ⟨some 17, .un .not (.t 16), none⟩, ⟨some 18, .mv (.t 17), none⟩, ⟨some 19, .mv (.t 1), (some (18, false))⟩, ⟨some 20, .call false 141 [(.t 19)], (some (18, false))⟩, ⟨some 21, .un .not (.t 20), (some (18, false))⟩, ⟨some 22, .pick (.t 18) (.c (.lit (.bool true))) (.t 21), none⟩] [16, 17, 18, 19, 20, 21]) (.cond (.t 22) (.seq (.reg false [⟨some 4, .as (.c (.lit (.bool false))), none⟩] []) (.ret)) (.skip))) (.seq (.seq (.reg false [⟨some 23, .mv (.t 1), none⟩, ⟨some 24, .len false (.t 23), none⟩, ⟨some 25, .mv (.c (.lit (.int .i64 0))), none⟩] []) (.block 0 (.loop (.seq (.reg false [⟨some 26, .bin .lss 0 (.t 25) (.t 24), none⟩] []) (.seq (.cond (.t 26) (.skip) (.exit 0)) (.seq (.block 1 (.seq (.reg false [⟨some 27, .ia 2 (.t 23) (.t 25), none⟩, ⟨some 28, .ld true 2 (.t 27), none⟩, ⟨some 8, .alloc (.agg [(.lit (.string (by8 ""))), (.lit (.string (by8 "")))]), none⟩, ⟨none, .st 2 (.t 8) (.t 28), none⟩] [27, 28]) (.seq (.seq (.reg false [⟨some 29, .fa 0 (.t 8), none⟩, ⟨some 30, .ld false 1 (.t 29), none⟩, ⟨some 31, .bin .neq 0 (.t 30) (.c (.lit (.string (by8 "")))), none⟩, ⟨some 32, .mv (.t 31), none⟩, ⟨some 33, .mv (.t 0), (some (32, true))⟩, ⟨some 34, .fa 0 (.t 8), (some (32, true))⟩, ⟨some 35, .ld false 1 (.t 34), (some (32, true))⟩, ⟨some 36, .call false 62 [(.t 33), (.t 35)], (some (32, true))⟩, ⟨some 37, .bin .lss 0 (.t 36) (.c (.lit (.int .i64 0))), (some (32, true))⟩, ⟨some 38, .pick (.t 32) (.t 37) (.c (.lit (.bool false))), none⟩, ⟨some 39, .mv (.t 38), none⟩, ⟨some 40, .fa 1 (.t 8), (some (39, false))⟩, ⟨some 41, .ld false 1 (.t 40), (some (39, false))⟩, ⟨some 42, .bin .neq 0 (.t 41) (.c (.lit (.string (by8 "")))), (some (39, false))⟩, ⟨some 43, .mv (.t 42), (some (39, false))⟩, ⟨some 44, .mv (.t 0), (some (43, true))⟩, ⟨some 45, .fa 1 (.t 8), (some (43, true))⟩, ⟨some 46, .ld false 1 (.t 45), (some (43, true))⟩, ⟨some 47, .call false 62 [(.t 44), (.t 46)], (some (43, true))⟩, ⟨some 48, .bin .geq 0 (.t 47) (.c (.lit (.int .i64 0))), (some (43, true))⟩, ⟨some 49, .pick (.t 43) (.t 48) (.c (.lit (.bool false))), (some (39, false))⟩, ⟨some 50, .pick (.t 39) (.c (.lit (.bool true))) (.t 49), none⟩] [29, 30, 31, 32, 33, 34, 35, 36, 37, 38, 39, 40, 41, 42, 43, 44, 45, 46, 47, 48, 49]) (.cond (.t 50) (.exit 1) (.skip))) (.seq (.reg false [⟨some 52, .fa 0 (.t 8), none⟩, ⟨some 53, .ld false 1 (.t 52), none⟩, ⟨some 54, .call false 107 [(.t 53)], none⟩, ⟨some 51, .mv (.t 54), none⟩, ⟨some 55, .ext (.t 51) 0, none⟩, ⟨some 56, .ext (.t 51) 1, none⟩, ⟨some 9, .alloc (.agg [(.lit (.int .i64 0)), (.lit (.int .i64 0)), (.lit (.int .i64 0)), (.sl ⟨.nl, true⟩ 1 [])]), none⟩, ⟨none, .st 4 (.t 9) (.t 55), none⟩, ⟨some 10, .as (.t 56), none⟩] [52, 53, 54, 51, 55, 56, 10]) (.seq (.reg false [⟨some 57, .fa 3 (.t 5), none⟩, ⟨some 58, .ld false 1 (.t 57), none⟩, ⟨some 59, .len false (.t 58), none⟩, ⟨some 60, .bin .eql 0 (.t 59) (.c (.lit (.int .i64 0))), none⟩, ⟨some 61, .mv (.t 60), none⟩, ⟨some 62, .fa 3 (.t 9), (some (61, false))⟩, ⟨some 63, .ld false 1 (.t 62), (some (61, false))⟩, ⟨some 64, .len false (.t 63), (some (61, false))⟩, ⟨some 65, .bin .gtr 0 (.t 64) (.c (.lit (.int .i64 0))), (some (61, false))⟩, ⟨some 66, .mv (.t 65), (some (61, false))⟩, ⟨some 67, .fa 0 (.t 9), (some (66, true))⟩, ⟨some 68, .ld false 1 (.t 67), (some (66, true))⟩, ⟨some 69, .fa 0 (.t 5), (some (66, true))⟩, ⟨some 70, .ld false 1 (.t 69), (some (66, true))⟩, ⟨some 71, .bin .eql 0 (.t 68) (.t 70), (some (66, true))⟩, ⟨some 72, .pick (.t 66) (.t 71) (.c (.lit (.bool false))), (some (61, false))⟩, ⟨some 73, .mv (.t 72), (some (61, false))⟩, ⟨some 74, .fa 1 (.t 9), (some (73, true))⟩, ⟨some 75, .ld false 1 (.t 74), (some (73, true))⟩, ⟨some 76, .fa 1 (.t 5), (some (73, true))⟩, ⟨some 77, .ld false 1 (.t 76), (some (73, true))⟩, ⟨some 78, .bin .eql 0 (.t 75) (.t 77), (some (73, true))⟩, ⟨some 79, .pick (.t 73) (.t 78) (.c (.lit (.bool false))), (some (61, false))⟩, ⟨some 80, .mv (.t 79), (some (61, false))⟩, ⟨some 81, .fa 2 (.t 9), (some (80, true))⟩, ⟨some 82, .ld false 1 (.t 81), (some (80, true))⟩, ⟨some 83, .fa 2 (.t 5), (some (80, true))⟩, ⟨some 84, .ld false 1 (.t 83), (some (80, true))⟩, ⟨some 85, .bin .eql 0 (.t 82) (.t 84), (some (80, true))⟩, ⟨some 86, .pick (.t 80) (.t 85) (.c (.lit (.bool false))), (some (61, false))⟩, ⟨some 87, .pick (.t 61) (.c (.lit (.bool true))) (.t 86), none⟩] [57, 58, 59, 60, 61, 62, 63, 64, 65, 66, 67, 68, 69, 70, 71, 72, 73, 74, 75, 76, 77, 78, 79, 80, 81, 82, 83, 84, 85, 86]) (.cond (.t 87) (.seq (.reg false [⟨some 4, .as (.c (.lit (.bool true))), none⟩] []) (.ret)) (.skip))))))) (.reg false [⟨some 88, .bin .add 0 (.t 25) (.c (.lit (.int .i64 1))), none⟩, ⟨some 25, .mv (.t 88), none⟩] [88]))))))) (.seq (.reg false [⟨some 4, .as (.c (.lit (.bool false))), none⟩] []) (.ret)))))
theorem is87 : Is Go.Proofs.Tryz.prog 87 89 v87 [.t 4] := ⟨Go.Proofs.Tryz.f87, dl [(0, [4]), (1, [12, 13, 11, 14, 15]), (2, [16, 17, 18, 19, 20, 21]), (6, [27, 28]), (7, [29, 30, 31, 32, 33, 34, 35, 36, 37, 38, 39, 40, 41, 42, 43, 44, 45, 46, 47, 48, 49]), (8, [52, 53, 54, 51, 55, 56, 10]), (9, [57, 58, 59, 60, 61, 62, 63, 64, 65, 66, 67, 68, 69, 70, 71, 72, 73, 74, 75, 76, 77, 78, 79, 80, 81, 82, 83, 84, 85, 86]), (11, [88])], Go.Proofs.Tryz.func87, by kernel_rfl, by kernel_rfl, by kernel_rfl, by kernel_rfl⟩
/-- a contract told less finely -/
theorem FxK.mono {E : Env} {K : Nat → Prop} {f : Nat} {bx bx' : List (List AV)} {args : List AV} {r r' : AV} (hF : FxK E K f bx args bx' r) (ho : resOk r' = true) (h : ∀ (x : X) (base : Nat) (v : Value), Rel x base v r → Rel x base v r') : FxK E K f bx args bx' r' :=
  ⟨hF.1, ho, fun x w vs a1 a2 a3 a4 a5 a6 a7 a8 a9 a10 => (hF.2.2 x w vs a1 a2 a3 a4 a5 a6 a7 a8 a9 a10).mono fun e w' ⟨v, x', h1, h2, h3⟩ => ⟨v, x', h1, h _ _ _ h2, h3⟩⟩
theorem Rel.tupMap {x : X} {b : Nat} {v : Value} {cs cs' : List AV} (hl : cs'.length = cs.length) (h : ∀ (j : Nat) (c c' : AV) (u : Value), cs[j]? = some c → cs'[j]? = some c' → Rel x b u c → Rel x b u c') (r : Rel x b v (.tup cs)) : Rel x b v (.tup cs') := by
  cases r with
  | tup vs _ hs hr =>
    refine .tup vs cs' (by rw [hl]; exact hs) fun j v c hv hc => ?_
    have hj : j < cs.length := by have := (List.getElem?_eq_some_iff.1 hc).1; omega
    exact h j _ c v (List.getElem?_eq_getElem hj) hc (hr j v _ hv (List.getElem?_eq_getElem hj))
theorem Rel.aggMap {x : X} {b : Nat} {v : Value} {cs cs' : List AV} (hl : cs'.length = cs.length) (h : ∀ (j : Nat) (c c' : AV) (u : Value), cs[j]? = some c → cs'[j]? = some c' → Rel x b u c → Rel x b u c') (r : Rel x b v (.agg cs)) : Rel x b v (.agg cs') := by
  cases r with
  | agg vs _ hs hr =>
    refine .agg vs cs' (by rw [hl]; exact hs) fun j v c hv hc => ?_
    have hj : j < cs.length := by have := (List.getElem?_eq_some_iff.1 hc).1; omega
    exact h j _ c v (List.getElem?_eq_getElem hj) hc (hr j v _ hv (List.getElem?_eq_getElem hj))
theorem Rel.noAp {x : X} {b : Nat} {v : Value} {ap : Ap} {fr : Bool} {sz : Nat} {xs : List AV} (r : Rel x b v (.sl ⟨ap, fr⟩ sz xs)) : Rel x b v (.sl ⟨.no, fr⟩ sz xs) := by
  have key : ∀ {G : Gh} {N : Nat → Option (Nat × Nat)} {v : Value}, RepD G N v (.sl ⟨ap, fr⟩ sz xs) → RepD G N v (.sl ⟨.no, fr⟩ sz xs) := by
    intro G N v h
    cases h with
    | sl A n cap _ _ _ b o f h1 h2 h3 h4 h5 h6 h7 => exact .sl A n cap _ _ _ b o f h1 h2 h3 h4 h5 h6 fun k hk => by cases hk
  cases r with
  | sl v _ _ _ h1 h2 h3 => exact .sl _ _ _ _ (key h1) (fun hf => key (h2 hf)) trivial
/-- a version as it is read, its row's mark forgotten -/
noncomputable def ver0 (s : ByteArray) : AV := match readVer s with
  | some v => .tup [.agg [.lit (.int .i64 v.maj), .lit (.int .i64 v.min), .lit (.int .i64 v.pat), .sl ⟨.no, true⟩ 1 (v.pre.map fun x => .lit (.string x))], .lit (.bool true)]
  | none => .tup [.agg [.lit (.int .i64 0), .lit (.int .i64 0), .lit (.int .i64 0), .sl ⟨.no, true⟩ 1 []], .lit (.bool false)]
theorem ver0_ok (s : ByteArray) : resOk (ver0 s) = true := by unfold ver0; cases readVer s <;> rfl
theorem ver0_of (s : ByteArray) (x : X) (b : Nat) (v : Value) (r : Rel x b v (verRes s)) : Rel x b v (ver0 s) := by
  have key : ∀ (a1 a2 a3 d : AV) (ap : Ap) (xs : List AV), Rel x b v (.tup [.agg [a1, a2, a3, .sl ⟨ap, true⟩ 1 xs], d]) → Rel x b v (.tup [.agg [a1, a2, a3, .sl ⟨.no, true⟩ 1 xs], d]) := by
    intro a1 a2 a3 d ap xs
    refine Rel.tupMap rfl fun j c c' u hc hc' => ?_
    match j with
    | 0 =>
      obtain rfl := Option.some.inj hc
      obtain rfl := Option.some.inj hc'
      refine Rel.aggMap rfl fun j c c' u hc hc' => ?_
      match j with
      | 0 => obtain rfl := Option.some.inj hc; obtain rfl := Option.some.inj hc'; exact id
      | 1 => obtain rfl := Option.some.inj hc; obtain rfl := Option.some.inj hc'; exact id
      | 2 => obtain rfl := Option.some.inj hc; obtain rfl := Option.some.inj hc'; exact id
      | 3 => obtain rfl := Option.some.inj hc; obtain rfl := Option.some.inj hc'; exact Rel.noAp
      | j + 4 => simp at hc
    | 1 => obtain rfl := Option.some.inj hc; obtain rfl := Option.some.inj hc'; exact id
    | j + 2 => simp at hc
  unfold verRes at r
  unfold ver0
  cases hr : readVer s with
  | none => rw [hr] at r; exact key _ _ _ _ _ _ r
  | some w => rw [hr] at r; exact key _ _ _ _ _ _ r
theorem ver_b {s : ByteArray} {v : Ver} (h : readVer s = some v) : v.pre.length ≤ 5 ∧ ∀ p ∈ v.pre, preOk p = true ∧ p.size ≤ 20 := by
  obtain ⟨h1, _⟩ := ver_back h
  exact ⟨(verOk_b h1).len, fun p hp => ⟨verOk_pre h1 p hp, (verOk_b h1).pre p hp⟩⟩
theorem end_ver {s : ByteArray} (h : endOk s = true) (h2 : s ≠ by8 "") : ∃ v, readVer s = some v := by
  rw [endOk, Bool.or_eq_true, decide_eq_true_eq] at h
  rcases h with h | h
  · exact Option.isSome_iff_exists.1 h
  · exact absurd h h2
theorem readVer_nil : readVer (by8 "") = none := by rw [readVer, cand_nil]; rfl
section
variable {E : Env} (hE : E.P = Go.Proofs.Tryz.prog) (hZ : ∀ w, E.K w → KZ w)
include hE
theorem specVer0_fx (s : ByteArray) (hs : s.size ≤ 1099511627) : Fx E 57 [] [.lit (.string s)] [] (ver0 s) := FxK.mono (specReadVer_fx hE s hs) (ver0_ok s) (ver0_of s)
include hZ in
theorem implVer0_fx (s : ByteArray) (hs : s.size ≤ 1099511627) : Fx E 107 [] [.lit (.string s)] [] (ver0 s) := FxK.mono (implReadVer_fx hE hZ s hs) (ver0_ok s) (ver0_of s)
include hZ in
theorem cmpTexts_fx (a b : ByteArray) (va vb : Ver) (ha : readVer a = some va) (hb : readVer b = some vb) (za : a.size ≤ 1099511627) (zb : b.size ≤ 1099511627) : Fx E 62 [] [.lit (.string a), .lit (.string b)] [] (.lit (.int .i64 (cmpV va vb))) := by
  have h1 := implVer0_fx hE hZ a za
  have h2 := implVer0_fx hE hZ b zb
  obtain ⟨b1, b2⟩ := ver_b ha
  obtain ⟨c1, c2⟩ := ver_b hb
  rw [ver0, ha] at h1
  rw [ver0, hb] at h2
  refine (is62.to hE).fx [] (by simp) rfl rfl ?_
  simp [v62]
  refine vcall_go h1 (by simp) (by simp) (by simp) (by simp) ?_
  simp [okC, putElem, upd]
  refine vcall_go h2 (by simp) (by simp) (by simp) (by simp) ?_
  simp [okC, putElem, upd]
  refine vcall_go (implCmp_fx hE va vb (by omega) (by omega) (fun p hp => ⟨(b2 p hp).1, by have := (b2 p hp).2; omega⟩) (fun p hp => ⟨(c2 p hp).1, by have := (c2 p hp).2; omega⟩)) (by simp [Ver.av, ro]) (by simp) (by simp) (by simp) ?_
  simp
  exact Fin_ret rfl rfl
set_option maxHeartbeats 2000000 in
theorem takes_fx (l h : ByteArray) (s : ByteArray) (v : Ver) (hv : readVer s = some v) (zl : l.size ≤ 1099511627) (zh : h.size ≤ 1099511627) : Fx E 132 [] [bndV l h, .agg v.av] [] (.lit (.bool (takesB v (l, h)))) := by
  have h1 := specVer0_fx hE l zl
  have h2 := specVer0_fx hE h zh
  obtain ⟨b1, b2⟩ := ver_b hv
  have hva : v.av = [.lit (.int .i64 v.maj), .lit (.int .i64 v.min), .lit (.int .i64 v.pat), .sl ro 1 (v.pre.map fun x => .lit (.string x))] := rfl
  refine (is132.to hE).fx [] (by simp [bndV, hva]) rfl rfl ?_
  simp [v132, bndV, hva, okC]
  refine vcall_go h1 (by simp) (by simp) (by simp) (by simp) ?_
  unfold ver0
  cases hl : readVer l with
  | none =>
    have e1 : lowB? l v = false := by rw [lowB?, hl]
    have e3 : sameB l v = false := by rw [sameB, hl]
    simp [okC, putElem, upd]
    refine vcall_go h2 (by simp) (by simp) (by simp) (by simp) ?_
    unfold ver0
    cases hh : readVer h with
    | none =>
      have e2 : highB h v = false := by rw [highB, hh]
      simp [okC, putElem, upd]
      by_cases hp : v.pre = []
      · simp [hp]
        exact Fin_ret rfl (by simp [takesB, e1, e2, e3, hp, reC])
      · simp [hp]
        exact Fin_ret rfl (by simp [takesB, e1, e2, e3, hp, reC])
    | some hv' =>
      obtain ⟨d1, d2⟩ := ver_b hh
      have e2 : highB h v = decide (0 ≤ cmpV v hv') := by rw [highB, hh]
      simp [okC, putElem, upd]
      refine vcall_go (specCmp_fx hE v hv' (by omega) (by omega) (fun p hp => by have := (b2 p hp).2; omega) (fun p hp => by have := (d2 p hp).2; omega)) (by simp [Ver.av, ro]) (by simp) (by simp) (by simp) ?_
      simp
      by_cases c2 : 0 ≤ cmpV v hv'
      · simp [c2]
        exact Fin_ret rfl (by simp [takesB, e1, e2, c2, reC])
      · simp [c2]
        by_cases hp : v.pre = []
        · simp [hp]
          exact Fin_ret rfl (by simp [takesB, e1, e2, e3, hp, c2, reC])
        · simp [hp]
          exact Fin_ret rfl (by simp [takesB, e1, e2, e3, hp, c2, reC])
  | some lv =>
    obtain ⟨c1, c2⟩ := ver_b hl
    have e1 : lowB? l v = decide (cmpV v lv < 0) := by rw [lowB?, hl]
    have e3 : sameB l v = (decide (lv.pre ≠ []) && decide (lv.maj = v.maj) && decide (lv.min = v.min) && decide (lv.pat = v.pat)) := by rw [sameB, hl]
    simp [okC, putElem, upd]
    refine vcall_go h2 (by simp) (by simp) (by simp) (by simp) ?_
    unfold ver0
    have hcl := specCmp_fx hE v lv (by omega) (by omega) (fun p hp => by have := (b2 p hp).2; omega) (fun p hp => by have := (c2 p hp).2; omega)
    cases hh : readVer h with
    | none =>
      have e2 : highB h v = false := by rw [highB, hh]
      simp [okC, putElem, upd]
      refine vcall_go hcl (by simp [Ver.av, ro]) (by simp) (by simp) (by simp) ?_
      simp
      by_cases k1 : cmpV v lv < 0
      · simp [k1]
        exact Fin_ret rfl (by simp [takesB, e1, k1, reC])
      · simp [k1]
        by_cases hp : v.pre = []
        · simp [hp]
          exact Fin_ret rfl (by simp [takesB, e1, e2, e3, hp, k1, reC])
        · simp [hp]
          by_cases p1 : lv.pre = []
          · simp [p1]
            exact Fin_ret rfl (by simp [takesB, e1, e2, e3, hp, p1, k1, reC])
          · have p1' := List.length_pos_iff.2 p1
            simp [p1, p1']
            by_cases p2 : lv.maj = v.maj
            · simp [p2]
              by_cases p3 : lv.min = v.min
              · simp [p3]
                by_cases p4 : lv.pat = v.pat
                · simp [p4]
                  exact Fin_ret rfl (by simp [takesB, e1, e2, e3, hp, p1, p2, p3, p4, k1, reC])
                · simp [p4]
                  exact Fin_ret rfl (by simp [takesB, e1, e2, e3, hp, p1, p2, p3, p4, k1, reC])
              · simp [p3]
                exact Fin_ret rfl (by simp [takesB, e1, e2, e3, hp, p1, p2, p3, k1, reC])
            · simp [p2]
              exact Fin_ret rfl (by simp [takesB, e1, e2, e3, hp, p1, p2, k1, reC])
    | some hv' =>
      obtain ⟨d1, d2⟩ := ver_b hh
      have e2 : highB h v = decide (0 ≤ cmpV v hv') := by rw [highB, hh]
      have hch := specCmp_fx hE v hv' (by omega) (by omega) (fun p hp => by have := (b2 p hp).2; omega) (fun p hp => by have := (d2 p hp).2; omega)
      simp [okC, putElem, upd]
      refine vcall_go hcl (by simp [Ver.av, ro]) (by simp) (by simp) (by simp) ?_
      simp
      by_cases k1 : cmpV v lv < 0
      · simp [k1]
        exact Fin_ret rfl (by simp [takesB, e1, k1, reC])
      · simp [k1]
        refine vcall_go hch (by simp [Ver.av, ro]) (by simp) (by simp) (by simp) ?_
        simp
        by_cases k2 : 0 ≤ cmpV v hv'
        · simp [k2]
          exact Fin_ret rfl (by simp [takesB, e1, e2, k1, k2, reC])
        · simp [k2]
          by_cases hp : v.pre = []
          · simp [hp]
            exact Fin_ret rfl (by simp [takesB, e1, e2, e3, hp, k1, k2, reC])
          · simp [hp]
            by_cases p1 : lv.pre = []
            · simp [p1]
              exact Fin_ret rfl (by simp [takesB, e1, e2, e3, hp, p1, k1, k2, reC])
            · have p1' := List.length_pos_iff.2 p1
              simp [p1, p1']
              by_cases p2 : lv.maj = v.maj
              · simp [p2]
                by_cases p3 : lv.min = v.min
                · simp [p3]
                  by_cases p4 : lv.pat = v.pat
                  · simp [p4]
                    exact Fin_ret rfl (by simp [takesB, e1, e2, e3, hp, p1, p2, p3, p4, k1, k2, reC])
                  · simp [p4]
                    exact Fin_ret rfl (by simp [takesB, e1, e2, e3, hp, p1, p2, p3, p4, k1, k2, reC])
                · simp [p3]
                  exact Fin_ret rfl (by simp [takesB, e1, e2, e3, hp, p1, p2, p3, k1, k2, reC])
              · simp [p2]
                exact Fin_ret rfl (by simp [takesB, e1, e2, e3, hp, p1, p2, k1, k2, reC])
set_option maxHeartbeats 1000000 in
theorem specIn_fx (s : ByteArray) (r : List (ByteArray × ByteArray)) (hs : s.size ≤ 1099511627) (hl : r.length ≤ 1048576) (hx : ∀ b ∈ r, b.1.size ≤ 1073741824 ∧ b.2.size ≤ 1073741824) : Fx E 80 [] [.lit (.string s), .sl ro 2 (r.map fun b => bndV b.1 b.2)] [] (.lit (.bool (inRng s r))) := by
  have h1 := specVer0_fx hE s hs
  refine (is80.to hE).fx [] (by simp) rfl rfl ?_
  simp [v80]
  refine vcall_go h1 (by simp) (by simp) (by simp) (by simp) ?_
  unfold ver0
  cases hv : readVer s with
  | none =>
    have e0 : inRng s r = false := by rw [inRng, hv]
    simp [okC, putElem, upd]
    refine X_loop (τ := Nat) (fun i => ⟨[(1, .sl ro 2 (r.map fun b => bndV b.1 b.2)), (5, .ptr 1000000000005 0 0), (6, .lit (.bool false)), (7, .lit (.int .i64 i))], [(1000000000005, [.agg [.lit (.int .i64 0), .lit (.int .i64 0), .lit (.int .i64 0), .sl ⟨.no, true⟩ 1 []]])]⟩) (fun i => i ≤ r.length) (fun i => r.length - i) 0 (by simp) (Wk.both (by simp [wkL, wkV.same]) (by simp [wkB])) ?_
    rintro i hi
    simp
    by_cases hlt : i < r.length
    · simp [hlt]
      exact ⟨i + 1, by omega, by omega, Wk.both (by simp [wkL, wkV.same]; rw [wrapN (by omega)]; exact wkV.same _) (by simp [wkB])⟩
    · simp [hlt]
      exact Fin_ret rfl (by rw [e0]; rfl)
  | some v =>
    have e0 : inRng s r = (rngOk r && r.any (takesB v)) := by rw [inRng, hv]
    simp [okC, putElem, upd]
    refine X_loop (τ := Nat) (fun i => ⟨[(1, .sl ro 2 (r.map fun b => bndV b.1 b.2)), (5, .ptr 1000000000005 0 0), (6, .lit (.bool true)), (7, .lit (.int .i64 i))], [(1000000000005, [.agg [.lit (.int .i64 v.maj), .lit (.int .i64 v.min), .lit (.int .i64 v.pat), .sl ⟨.no, true⟩ 1 (v.pre.map fun x => .lit (.string x))]])]⟩) (fun i => i ≤ r.length ∧ (rngOk r = true → ∀ j (h : j < r.length), j < i → takesB v r[j] = false)) (fun i => r.length - i) 0 (by simp) (Wk.both (by simp [wkL, wkV.same]) (by simp [wkB])) ?_
    rintro i ⟨hi, hall⟩
    simp
    by_cases hlt : i < r.length
    · obtain ⟨g1, g2⟩ := hx _ (List.getElem_mem hlt)
      simp [hlt]
      refine vcall_go (specRngOk_fx hE r hl hx) (by simp) (by simp) (by simp) (by simp) ?_
      cases c1 : rngOk r
      · simp
        exact ⟨i + 1, by omega, by omega, Wk.both (by simp [wkL, wkV.same]; rw [wrapN (by omega)]; exact wkV.same _) (by simp [wkB])⟩
      · simp [hlt, bndV, mkF]
        refine vcall_go (takes_fx hE r[i].1 r[i].2 s v hv (by omega) (by omega)) (by simp [bndV, Ver.av, ro]) (by simp) (by simp) (by simp) ?_
        cases c2 : takesB v r[i]
        · have c2' : takesB v (r[i].1, r[i].2) = false := c2
          simp [c2']
          refine ⟨i + 1, ⟨by omega, fun j h hj => ?_⟩, by omega, Wk.both (by simp [wkL, wkV.same, bndV]; rw [wrapN (by omega)]; exact wkV.same _) (by simp [wkB])⟩
          rcases Nat.lt_succ_iff_lt_or_eq.1 hj with h3 | rfl
          · exact hall c1 j h h3
          · exact c2
        · have c2' : takesB v (r[i].1, r[i].2) = true := c2
          simp [c2']
          have : r.any (takesB v) = true := List.any_eq_true.2 ⟨r[i], List.getElem_mem hlt, c2⟩
          exact Fin_ret rfl (by rw [e0, c1, this]; rfl)
    · obtain rfl : i = r.length := by omega
      simp
      refine Fin_ret rfl ?_
      have : (rngOk r && r.any (takesB v)) = false := by
        cases c1 : rngOk r
        · rfl
        · have : r.any (takesB v) = false := by
            rw [List.any_eq_false]
            intro x hx
            obtain ⟨j, hj, rfl⟩ := List.getElem_of_mem hx
            simp [hall c1 j hj hj]
          rw [this]; rfl
      rw [e0, this]; rfl
include hZ in
set_option maxHeartbeats 4000000 in
theorem implIn_fx (s : ByteArray) (r : List (ByteArray × ByteArray)) (hs : s.size ≤ 1099511627) (hl : r.length ≤ 1048576) (hx : ∀ b ∈ r, b.1.size ≤ 1073741824 ∧ b.2.size ≤ 1073741824) : Fx E 87 [] [.lit (.string s), .sl ro 2 (r.map fun b => bndV b.1 b.2)] [] (.lit (.bool (inRng s r))) := by
  have h1 := implVer0_fx hE hZ s hs
  refine (is87.to hE).fx [] (by simp) rfl rfl ?_
  simp [v87]
  refine vcall_go h1 (by simp) (by simp) (by simp) (by simp) ?_
  unfold ver0
  cases hv : readVer s with
  | none =>
    have e0 : inRng s r = false := by rw [inRng, hv]
    simp [okC, putElem, upd]
    exact Fin_ret rfl (by rw [e0]; rfl)
  | some v =>
    have e0 : inRng s r = (rngOk r && r.any (takesB v)) := by rw [inRng, hv]
    simp [okC, putElem, upd]
    refine vcall_go (implRngOk_fx hE hZ r hl hx) (by simp) (by simp) (by simp) (by simp) ?_
    cases c1 : rngOk r
    · simp
      exact Fin_ret rfl (by rw [e0, c1]; rfl)
    have hend : ∀ j (h : j < r.length), endOk r[j].1 = true ∧ endOk r[j].2 = true := by
      intro j h
      rw [rngOk, Bool.and_eq_true] at c1
      have := List.all_eq_true.1 c1.1 j (List.mem_range.2 h)
      unfold bndOk at this
      rw [show r.getD j (by8 "", by8 "") = r[j] by simp [List.getD, h], Bool.and_eq_true] at this
      exact this
    simp
    refine X_loop (τ := Nat) (fun i => ⟨[(0, .lit (.string s)), (5, .ptr 1000000000005 0 0), (23, .sl ro 2 (r.map fun b => bndV b.1 b.2)), (24, .lit (.int .i64 r.length)), (25, .lit (.int .i64 i))], [(1000000000005, [.agg [.lit (.int .i64 v.maj), .lit (.int .i64 v.min), .lit (.int .i64 v.pat), .sl ⟨.no, true⟩ 1 (v.pre.map fun x => .lit (.string x))]])]⟩) (fun i => i ≤ r.length ∧ (∀ j (h : j < r.length), j < i → takesB v r[j] = false)) (fun i => r.length - i) 0 (by simp) (Wk.both (by simp [wkL, wkV.same]) (by simp [wkB])) ?_
    rintro i ⟨hi, hall⟩
    simp
    by_cases hlt : i < r.length
    · obtain ⟨g1, g2⟩ := hx _ (List.getElem_mem hlt)
      obtain ⟨d1, d2⟩ := hend i hlt
      obtain ⟨⟨l, h⟩, hb⟩ : ∃ b, r[i] = b := ⟨_, rfl⟩
      have hnx : takesB v (l, h) = false → ∀ j (k : j < r.length), j < i + 1 → takesB v r[j] = false := by
        intro hn j k hj
        rcases Nat.lt_succ_iff_lt_or_eq.1 hj with h3 | rfl
        · exact hall j k h3
        · rw [hb]; exact hn
      have hyes : takesB v (l, h) = true → inRng s r = true := fun hy => by
        rw [e0, c1, List.any_eq_true.2 ⟨r[i], List.getElem_mem hlt, by rw [hb]; exact hy⟩]; rfl
      rw [hb] at g1 g2 d1 d2
      simp only at g1 g2 d1 d2
      simp [hlt, hb, bndV, mkF, mkF.mkL, okC, putElem, upd]

      by_cases k1 : l = by8 ""
      · have e1 : lowB? l v = false := by rw [lowB?, k1, readVer_nil]
        have e3 : sameB l v = false := by rw [sameB, k1, readVer_nil]
        have hl0 := implVer0_fx hE hZ l (by omega)
        rw [ver0, k1, readVer_nil] at hl0
        dsimp only at hl0
        simp [k1]
        by_cases k2 : h = by8 ""
        · have e2 : highB h v = false := by rw [highB, k2, readVer_nil]
          simp [k2]
          refine vcall_go hl0 (by simp) (by simp) (by simp) (by simp) ?_
          simp [okC, putElem, upd]
          by_cases hp : v.pre = []
          · simp [hp]
            exact Fin_ret rfl (by rw [hyes (by simp [takesB, e1, e3, e2, hp])]; rfl)
          · simp [hp]
            exact ⟨i + 1, ⟨by omega, hnx (by simp [takesB, e1, e3, e2, hp])⟩, by omega, Wk.both (by simp [wkL, wkV.same, bndV]; rw [wrapN (by omega)]; exact wkV.same _) (by simp [wkB])⟩
        · obtain ⟨hv', hh⟩ := end_ver d2 k2
          have e2 : highB h v = decide (0 ≤ cmpV v hv') := by rw [highB, hh]
          simp [k2]
          refine vcall_go (cmpTexts_fx hE hZ s h v hv' hv hh hs (by omega)) (by simp) (by simp) (by simp) (by simp) ?_
          simp
          by_cases k3 : 0 ≤ cmpV v hv'
          · simp [k3]
            exact ⟨i + 1, ⟨by omega, hnx (by simp [takesB, e1, e3, e2, k3])⟩, by omega, Wk.both (by simp [wkL, wkV.same, bndV]; rw [wrapN (by omega)]; exact wkV.same _) (by simp [wkB])⟩
          · simp [k3]
            refine vcall_go hl0 (by simp) (by simp) (by simp) (by simp) ?_
            simp [okC, putElem, upd]
            by_cases hp : v.pre = []
            · simp [hp]
              exact Fin_ret rfl (by rw [hyes (by simp [takesB, e1, e3, e2, k3, hp])]; rfl)
            · simp [hp]
              exact ⟨i + 1, ⟨by omega, hnx (by simp [takesB, e1, e3, e2, k3, hp])⟩, by omega, Wk.both (by simp [wkL, wkV.same, bndV]; rw [wrapN (by omega)]; exact wkV.same _) (by simp [wkB])⟩
      · obtain ⟨lv, hlv⟩ := end_ver d1 k1
        have e1 : lowB? l v = decide (cmpV v lv < 0) := by rw [lowB?, hlv]
        have e3 : sameB l v = (decide (lv.pre ≠ []) && decide (lv.maj = v.maj) && decide (lv.min = v.min) && decide (lv.pat = v.pat)) := by rw [sameB, hlv]
        have hl0 := implVer0_fx hE hZ l (by omega)
        rw [ver0, hlv] at hl0
        dsimp only at hl0
        simp [k1]
        refine vcall_go (cmpTexts_fx hE hZ s l v lv hv hlv hs (by omega)) (by simp) (by simp) (by simp) (by simp) ?_
        simp
        by_cases k4 : cmpV v lv < 0
        · simp [k4]
          exact ⟨i + 1, ⟨by omega, hnx (by simp [takesB, e1, k4])⟩, by omega, Wk.both (by simp [wkL, wkV.same, bndV]; rw [wrapN (by omega)]; exact wkV.same _) (by simp [wkB])⟩
        · simp [k4]
          by_cases k2 : h = by8 ""
          · have e2 : highB h v = false := by rw [highB, k2, readVer_nil]
            simp [k2]
            refine vcall_go hl0 (by simp) (by simp) (by simp) (by simp) ?_
            simp [okC, putElem, upd]
            by_cases hp : v.pre = []
            · simp [hp]
              exact Fin_ret rfl (by rw [hyes (by simp [takesB, e1, e3, k4, e2, hp])]; rfl)
            · simp [hp]
              by_cases p1 : lv.pre = []
              · simp [p1]
                exact ⟨i + 1, ⟨by omega, hnx (by simp [takesB, e1, e3, k4, e2, hp, p1])⟩, by omega, Wk.both (by simp [wkL, wkV.same, bndV]; rw [wrapN (by omega)]; exact wkV.same _) (by simp [wkB])⟩
              · have p1' := List.length_pos_iff.2 p1
                simp [p1, p1']
                by_cases p2 : lv.maj = v.maj
                · simp [p2]
                  by_cases p3 : lv.min = v.min
                  · simp [p3]
                    by_cases p4 : lv.pat = v.pat
                    · simp [p4]
                      exact Fin_ret rfl (by rw [hyes (by simp [takesB, e1, e3, k4, e2, hp, p1, p2, p3, p4])]; rfl)
                    · simp [p4]
                      exact ⟨i + 1, ⟨by omega, hnx (by simp [takesB, e1, e3, k4, e2, hp, p1, p2, p3, p4])⟩, by omega, Wk.both (by simp [wkL, wkV.same, bndV]; rw [wrapN (by omega)]; exact wkV.same _) (by simp [wkB])⟩
                  · simp [p3]
                    exact ⟨i + 1, ⟨by omega, hnx (by simp [takesB, e1, e3, k4, e2, hp, p1, p2, p3])⟩, by omega, Wk.both (by simp [wkL, wkV.same, bndV]; rw [wrapN (by omega)]; exact wkV.same _) (by simp [wkB])⟩
                · simp [p2]
                  exact ⟨i + 1, ⟨by omega, hnx (by simp [takesB, e1, e3, k4, e2, hp, p1, p2])⟩, by omega, Wk.both (by simp [wkL, wkV.same, bndV]; rw [wrapN (by omega)]; exact wkV.same _) (by simp [wkB])⟩
          · obtain ⟨hv', hh⟩ := end_ver d2 k2
            have e2 : highB h v = decide (0 ≤ cmpV v hv') := by rw [highB, hh]
            simp [k2]
            refine vcall_go (cmpTexts_fx hE hZ s h v hv' hv hh hs (by omega)) (by simp) (by simp) (by simp) (by simp) ?_
            simp
            by_cases k3 : 0 ≤ cmpV v hv'
            · simp [k3]
              exact ⟨i + 1, ⟨by omega, hnx (by simp [takesB, e1, e3, k4, e2, k3])⟩, by omega, Wk.both (by simp [wkL, wkV.same, bndV]; rw [wrapN (by omega)]; exact wkV.same _) (by simp [wkB])⟩
            · simp [k3]
              refine vcall_go hl0 (by simp) (by simp) (by simp) (by simp) ?_
              simp [okC, putElem, upd]
              by_cases hp : v.pre = []
              · simp [hp]
                exact Fin_ret rfl (by rw [hyes (by simp [takesB, e1, e3, k4, e2, k3, hp])]; rfl)
              · simp [hp]
                by_cases p1 : lv.pre = []
                · simp [p1]
                  exact ⟨i + 1, ⟨by omega, hnx (by simp [takesB, e1, e3, k4, e2, k3, hp, p1])⟩, by omega, Wk.both (by simp [wkL, wkV.same, bndV]; rw [wrapN (by omega)]; exact wkV.same _) (by simp [wkB])⟩
                · have p1' := List.length_pos_iff.2 p1
                  simp [p1, p1']
                  by_cases p2 : lv.maj = v.maj
                  · simp [p2]
                    by_cases p3 : lv.min = v.min
                    · simp [p3]
                      by_cases p4 : lv.pat = v.pat
                      · simp [p4]
                        exact Fin_ret rfl (by rw [hyes (by simp [takesB, e1, e3, k4, e2, k3, hp, p1, p2, p3, p4])]; rfl)
                      · simp [p4]
                        exact ⟨i + 1, ⟨by omega, hnx (by simp [takesB, e1, e3, k4, e2, k3, hp, p1, p2, p3, p4])⟩, by omega, Wk.both (by simp [wkL, wkV.same, bndV]; rw [wrapN (by omega)]; exact wkV.same _) (by simp [wkB])⟩
                    · simp [p3]
                      exact ⟨i + 1, ⟨by omega, hnx (by simp [takesB, e1, e3, k4, e2, k3, hp, p1, p2, p3])⟩, by omega, Wk.both (by simp [wkL, wkV.same, bndV]; rw [wrapN (by omega)]; exact wkV.same _) (by simp [wkB])⟩
                  · simp [p2]
                    exact ⟨i + 1, ⟨by omega, hnx (by simp [takesB, e1, e3, k4, e2, k3, hp, p1, p2])⟩, by omega, Wk.both (by simp [wkL, wkV.same, bndV]; rw [wrapN (by omega)]; exact wkV.same _) (by simp [wkB])⟩
    · obtain rfl : i = r.length := by omega
      simp
      refine Fin_ret rfl ?_
      have : r.any (takesB v) = false := by
        rw [List.any_eq_false]
        intro x hx
        obtain ⟨j, hj, rfl⟩ := List.getElem_of_mem hx
        simp [hall j hj hj]
      rw [e0, this, Bool.and_false]; rfl
end
end Go.Proofs.YticockdhfglolaaGreatDoor.Vm
namespace Go.Proofs.YticockdhfglolaaGreatDoor.Vm
open Go Go.RowKit
set_option linter.unusedVariables false
set_option linter.unusedSimpArgs false
def v44 : VC := .seq (.reg false [⟨some 1, .box 5 (.t 0), none⟩, ⟨some 2, .as (.c (.lit (.bool false))), none⟩] [2]) (.seq (.seq (.reg false [⟨some 3, .as (.c (.lit (.int .i64 0))), none⟩] []) (.block 0 (.loop (.seq (.seq (.reg false [⟨some 12, .mv (.t 3), none⟩, ⟨some 13, .fa 0 (.t 1), none⟩, ⟨some 14, .ld false 1 (.t 13), none⟩, ⟨some 15, .len false (.t 14), none⟩, ⟨some 16, .bin .lss 0 (.t 12) (.t 15), none⟩] [12, 13, 14, 15]) (.cond (.t 16) (.skip) (.exit 0))) (.seq (.block 1 (.seq (.reg false [⟨some 19, .fa 0 (.t 1), none⟩, ⟨some 20, .ld false 1 (.t 19), none⟩, ⟨some 21, .mv (.t 3), none⟩, ⟨some 22, .ia 2 (.t 20) (.t 21), none⟩, ⟨some 23, .ld true 2 (.t 22), none⟩, ⟨some 4, .alloc (.agg [(.lit (.string (by8 ""))), (.lit (.string (by8 "")))]), none⟩, ⟨none, .st 2 (.t 4) (.t 23), none⟩] [19, 20, 21, 22, 23]) (.seq (.reg false [⟨some 25, .fa 1 (.t 4), none⟩, ⟨some 26, .ld false 1 (.t 25), none⟩, ⟨some 27, .call false 78 [(.t 26)], none⟩, ⟨some 24, .mv (.t 27), none⟩, ⟨some 28, .ext (.t 24) 0, none⟩, ⟨some 29, .ext (.t 24) 1, none⟩, ⟨some 5, .as (.t 28), none⟩, ⟨some 6, .as (.t 29), none⟩] [25, 26, 27, 24, 28, 29, 6]) (.seq (.reg true [⟨some 30, .ld true 2 (.t 4), none⟩, ⟨some 31, .call true 79 [(.t 30)], none⟩, ⟨some 32, .un .not (.t 31), none⟩, ⟨some 33, .mv (.t 32), none⟩, ⟨some 34, .fa 0 (.t 4), (some (33, false))⟩, ⟨some 35, .ld false 1 (.t 34), (some (33, false))⟩, ⟨some 36, .fa 0 (.t 1), (some (33, false))⟩, ⟨some 37, .ld false 1 (.t 36), (some (33, false))⟩, ⟨some 38, .ia 2 (.t 37) (.c (.lit (.int .i64 0))), (some (33, false))⟩, ⟨some 39, .fa 0 (.t 38), (some (33, false))⟩, ⟨some 40, .ld false 1 (.t 39), (some (33, false))⟩, ⟨some 41, .bin .neq 0 (.t 35) (.t 40), (some (33, false))⟩, ⟨some 42, .pick (.t 33) (.c (.lit (.bool true))) (.t 41), none⟩, ⟨some 43, .mv (.t 42), none⟩, ⟨some 44, .mv (.t 3), (some (43, false))⟩, ⟨some 45, .bin .gtr 0 (.t 44) (.c (.lit (.int .i64 0))), (some (43, false))⟩, ⟨some 46, .mv (.t 45), (some (43, false))⟩, ⟨some 47, .fa 0 (.t 1), (some (46, true))⟩, ⟨some 48, .ld false 1 (.t 47), (some (46, true))⟩, ⟨some 49, .mv (.t 3), (some (46, true))⟩, ⟨some 50, .bin .sub 0 (.t 49) (.c (.lit (.int .i64 1))), (some (46, true))⟩, ⟨some 51, .ia 2 (.t 48) (.t 50), (some (46, true))⟩, ⟨some 52, .fa 1 (.t 51), (some (46, true))⟩, ⟨some 53, .ld false 1 (.t 52), (some (46, true))⟩, ⟨some 54, .fa 1 (.t 4), (some (46, true))⟩, ⟨some 55, .ld false 1 (.t 54), (some (46, true))⟩, ⟨some 56, .bin .geq 0 (.t 53) (.t 55), (some (46, true))⟩, ⟨some 57, .pick (.t 46) (.t 56) (.c (.lit (.bool false))), (some (43, false))⟩, ⟨some 58, .pick (.t 43) (.c (.lit (.bool true))) (.t 57), none⟩, ⟨some 59, .mv (.t 58), none⟩, ⟨some 60, .fa 1 (.t 1), (some (59, false))⟩, ⟨some 61, .ld false 1 (.t 60), (some (59, false))⟩, ⟨some 62, .mv (.t 5), (some (59, false))⟩, ⟨some 63, .call true 80 [(.t 61), (.t 62)], (some (59, false))⟩, ⟨some 64, .un .not (.t 63), (some (59, false))⟩, ⟨some 65, .pick (.t 59) (.c (.lit (.bool true))) (.t 64), none⟩] [30, 31, 32, 33, 34, 35, 36, 37, 38, 39, 40, 41, 42, 43, 44, 45, 46, 47, 48, 49, 50, 51, 52, 53, 54, 55, 56, 57, 58, 59, 60, 61, 62, 63, 64]) (.cond (.t 65) (.seq (.reg false [⟨some 2, .as (.c (.lit (.bool false))), none⟩] []) (.ret)) (.skip)))))) (.reg false [⟨some 17, .mv (.t 3), none⟩, ⟨some 18, .bin .add 0 (.t 17) (.c (.lit (.int .i64 1))), none⟩, ⟨some 3, .as (.t 18), none⟩] [17, 18])))))) (.seq (.seq (.reg false [⟨some 7, .as (.c (.lit (.int .i64 0))), none⟩] []) (.block 2 (.loop (.seq (.seq (.reg false [⟨some 66, .mv (.t 7), none⟩, ⟨some 67, .fa 4 (.t 1), none⟩, ⟨some 68, .ld false 1 (.t 67), none⟩, ⟨some 69, .len false (.t 68), none⟩, ⟨some 70, .bin .lss 0 (.t 66) (.t 69), none⟩] [66, 67, 68, 69]) (.cond (.t 70) (.skip) (.exit 2))) (.seq (.block 3 (.seq (.reg true [⟨some 73, .fa 4 (.t 1), none⟩, ⟨some 74, .ld false 1 (.t 73), none⟩, ⟨some 75, .mv (.t 7), none⟩, ⟨some 76, .ia 2 (.t 74) (.t 75), none⟩, ⟨some 77, .ld true 2 (.t 76), none⟩, ⟨some 78, .call true 79 [(.t 77)], none⟩, ⟨some 79, .un .not (.t 78), none⟩, ⟨some 80, .mv (.t 79), none⟩, ⟨some 81, .mv (.t 7), (some (80, false))⟩, ⟨some 82, .bin .gtr 0 (.t 81) (.c (.lit (.int .i64 0))), (some (80, false))⟩, ⟨some 83, .mv (.t 82), (some (80, false))⟩, ⟨some 84, .fa 4 (.t 1), (some (83, true))⟩, ⟨some 85, .ld false 1 (.t 84), (some (83, true))⟩, ⟨some 86, .mv (.t 7), (some (83, true))⟩, ⟨some 87, .bin .sub 0 (.t 86) (.c (.lit (.int .i64 1))), (some (83, true))⟩, ⟨some 88, .ia 2 (.t 85) (.t 87), (some (83, true))⟩, ⟨some 89, .fa 0 (.t 88), (some (83, true))⟩, ⟨some 90, .ld false 1 (.t 89), (some (83, true))⟩, ⟨some 91, .fa 4 (.t 1), (some (83, true))⟩, ⟨some 92, .ld false 1 (.t 91), (some (83, true))⟩, ⟨some 93, .mv (.t 7), (some (83, true))⟩, ⟨some 94, .ia 2 (.t 92) (.t 93), (some (83, true))⟩, ⟨some 95, .fa 0 (.t 94), (some (83, true))⟩, ⟨some 96, .ld false 1 (.t 95), (some (83, true))⟩, ⟨some 97, .bin .geq 0 (.t 90) (.t 96), (some (83, true))⟩, ⟨some 98, .pick (.t 83) (.t 97) (.c (.lit (.bool false))), (some (80, false))⟩, ⟨some 99, .pick (.t 80) (.c (.lit (.bool true))) (.t 98), none⟩] [73, 74, 75, 76, 77, 78, 79, 80, 81, 82, 83, 84, 85, 86, 87, 88, 89, 90, 91, 92, 93, 94, 95, 96, 97, 98]) (.cond (.t 99) (.seq (.reg false [⟨some 2, .as (.c (.lit (.bool false))), none⟩] []) (.ret)) (.skip)))) (.reg false [⟨some 71, .mv (.t 7), none⟩, ⟨some 72, .bin .add 0 (.t 71) (.c (.lit (.int .i64 1))), none⟩, ⟨some 7, .as (.t 72), none⟩] [71, 72])))))) (.seq (.reg false [⟨some 101, .fa 1 (.t 1), none⟩, ⟨some 102, .ld false 1 (.t 101), none⟩, ⟨some 103, .call false 57 [(.t 102)], none⟩, ⟨some 100, .mv (.t 103), none⟩, ⟨some 104, .ext (.t 100) 0, none⟩, ⟨some 105, .ext (.t 100) 1, none⟩, ⟨some 8, .alloc (.agg [(.lit (.int .i64 0)), (.lit (.int .i64 0)), (.lit (.int .i64 0)), (.sl ⟨.nl, true⟩ 1 [])]), none⟩, ⟨none, .st 4 (.t 8) (.t 104), none⟩, ⟨some 9, .as (.t 105), none⟩] [101, 102, 103, 100, 104, 105, 8]) (.seq (.reg false [⟨some 107, .fa 3 (.t 1), none⟩, ⟨some 108, .ld false 1 (.t 107), none⟩, ⟨some 109, .call false 81 [(.t 108)], none⟩, ⟨some 106, .mv (.t 109), none⟩, ⟨some 110, .ext (.t 106) 0, none⟩, ⟨some 111, .ext (.t 106) 1, none⟩, ⟨some 10, .as (.t 110), none⟩, ⟨some 11, .as (.t 111), none⟩] [107, 108, 109, 106, 110, 111, 10]) (.seq (.reg false [⟨some 112, .fa 0 (.t 1), none⟩, ⟨some 113, .ld false 1 (.t 112), none⟩, ⟨some 114, .len false (.t 113), none⟩, ⟨some 115, .call false 82 [(.t 114), (.c (.lit (.int .i64 1))), (.c (.lit (.int .i64 8)))], none⟩, ⟨some 116, .mv (.t 115), none⟩, ⟨some 117, .mv (.t 9), (some (116, true))⟩, ⟨some 118, .pick (.t 116) (.t 117) (.c (.lit (.bool false))), none⟩, ⟨some 119, .mv (.t 118), none⟩, ⟨some 120, .mv (.t 11), (some (119, true))⟩, ⟨some 121, .pick (.t 119) (.t 120) (.c (.lit (.bool false))), none⟩, ⟨some 122, .mv (.t 121), none⟩, ⟨some 123, .fa 2 (.t 1), (some (122, true))⟩, ⟨some 124, .ld false 1 (.t 123), (some (122, true))⟩, ⟨some 125, .call false 83 [(.t 124)], (some (122, true))⟩, ⟨some 126, .pick (.t 122) (.t 125) (.c (.lit (.bool false))), none⟩, ⟨some 2, .as (.t 126), none⟩] [112, 113, 114, 115, 116, 117, 118, 119, 120, 121, 122, 123, 124, 125, 126]) (.ret))))))
theorem is44 : Is Go.Proofs.Tryz.prog 44 127 v44 [.t 2] := ⟨Go.Proofs.Tryz.f44, dl [(0, [2]), (2, [12, 13, 14, 15]), (4, [19, 20, 21, 22, 23]), (5, [25, 26, 27, 24, 28, 29, 6]), (6, [30, 31, 32, 33, 34, 35, 36, 37, 38, 39, 40, 41, 42, 43, 44, 45, 46, 47, 48, 49, 50, 51, 52, 53, 54, 55, 56, 57, 58, 59, 60, 61, 62, 63, 64]), (3, [17, 18]), (9, [66, 67, 68, 69]), (11, [73, 74, 75, 76, 77, 78, 79, 80, 81, 82, 83, 84, 85, 86, 87, 88, 89, 90, 91, 92, 93, 94, 95, 96, 97, 98]), (10, [71, 72]), (13, [101, 102, 103, 100, 104, 105, 8]), (14, [107, 108, 109, 106, 110, 111, 10]), (15, [112, 113, 114, 115, 116, 117, 118, 119, 120, 121, 122, 123, 124, 125, 126])], Go.Proofs.Tryz.func44, by kernel_rfl, by kernel_rfl, by kernel_rfl, by kernel_rfl⟩
def v48 : VC := .seq (.reg false [⟨some 1, .box 5 (.t 0), none⟩, ⟨some 2, .as (.c (.lit (.bool false))), none⟩] [2]) (.seq (.seq (.reg false [⟨some 11, .fa 0 (.t 1), none⟩, ⟨some 12, .ld false 1 (.t 11), none⟩, ⟨some 13, .len false (.t 12), none⟩, ⟨some 14, .mv (.c (.lit (.int .i64 0))), none⟩] [11]) (.block 0 (.loop (.seq (.reg false [⟨some 15, .bin .lss 0 (.t 14) (.t 13), none⟩] []) (.seq (.cond (.t 15) (.skip) (.exit 0)) (.seq (.block 1 (.seq (.reg false [⟨some 16, .mv (.t 14), none⟩, ⟨some 17, .ia 2 (.t 12) (.t 14), none⟩, ⟨some 18, .ld true 2 (.t 17), none⟩, ⟨some 4, .alloc (.agg [(.lit (.string (by8 ""))), (.lit (.string (by8 "")))]), none⟩, ⟨some 3, .as (.t 16), none⟩, ⟨none, .st 2 (.t 4) (.t 18), none⟩] [16, 17, 18]) (.seq (.reg false [⟨some 20, .fa 1 (.t 4), none⟩, ⟨some 21, .ld false 1 (.t 20), none⟩, ⟨some 22, .call false 85 [(.t 21)], none⟩, ⟨some 19, .mv (.t 22), none⟩, ⟨some 23, .ext (.t 19) 0, none⟩, ⟨some 24, .ext (.t 19) 1, none⟩, ⟨some 5, .as (.t 23), none⟩, ⟨some 6, .as (.t 24), none⟩] [20, 21, 22, 19, 23, 24, 6]) (.seq (.reg true [⟨some 25, .ld true 2 (.t 4), none⟩, ⟨some 26, .call true 86 [(.t 25)], none⟩, ⟨some 27, .un .not (.t 26), none⟩, ⟨some 28, .mv (.t 27), none⟩, ⟨some 29, .fa 0 (.t 4), (some (28, false))⟩, ⟨some 30, .ld false 1 (.t 29), (some (28, false))⟩, ⟨some 31, .fa 0 (.t 1), (some (28, false))⟩, ⟨some 32, .ld false 1 (.t 31), (some (28, false))⟩, ⟨some 33, .ia 2 (.t 32) (.c (.lit (.int .i64 0))), (some (28, false))⟩, ⟨some 34, .fa 0 (.t 33), (some (28, false))⟩, ⟨some 35, .ld false 1 (.t 34), (some (28, false))⟩, ⟨some 36, .bin .neq 0 (.t 30) (.t 35), (some (28, false))⟩, ⟨some 37, .pick (.t 28) (.c (.lit (.bool true))) (.t 36), none⟩, ⟨some 38, .mv (.t 37), none⟩, ⟨some 39, .mv (.t 3), (some (38, false))⟩, ⟨some 40, .bin .gtr 0 (.t 39) (.c (.lit (.int .i64 0))), (some (38, false))⟩, ⟨some 41, .mv (.t 40), (some (38, false))⟩, ⟨some 42, .fa 1 (.t 4), (some (41, true))⟩, ⟨some 43, .ld false 1 (.t 42), (some (41, true))⟩, ⟨some 44, .fa 0 (.t 1), (some (41, true))⟩, ⟨some 45, .ld false 1 (.t 44), (some (41, true))⟩, ⟨some 46, .mv (.t 3), (some (41, true))⟩, ⟨some 47, .bin .sub 0 (.t 46) (.c (.lit (.int .i64 1))), (some (41, true))⟩, ⟨some 48, .ia 2 (.t 45) (.t 47), (some (41, true))⟩, ⟨some 49, .fa 1 (.t 48), (some (41, true))⟩, ⟨some 50, .ld false 1 (.t 49), (some (41, true))⟩, ⟨some 51, .bin .leq 0 (.t 43) (.t 50), (some (41, true))⟩, ⟨some 52, .pick (.t 41) (.t 51) (.c (.lit (.bool false))), (some (38, false))⟩, ⟨some 53, .pick (.t 38) (.c (.lit (.bool true))) (.t 52), none⟩, ⟨some 54, .mv (.t 53), none⟩, ⟨some 55, .fa 1 (.t 1), (some (54, false))⟩, ⟨some 56, .ld false 1 (.t 55), (some (54, false))⟩, ⟨some 57, .mv (.t 5), (some (54, false))⟩, ⟨some 58, .call true 87 [(.t 56), (.t 57)], (some (54, false))⟩, ⟨some 59, .un .not (.t 58), (some (54, false))⟩, ⟨some 60, .pick (.t 54) (.c (.lit (.bool true))) (.t 59), none⟩] [25, 26, 27, 28, 29, 30, 31, 32, 33, 34, 35, 36, 37, 38, 39, 40, 41, 42, 43, 44, 45, 46, 47, 48, 49, 50, 51, 52, 53, 54, 55, 56, 57, 58, 59]) (.cond (.t 60) (.seq (.reg false [⟨some 2, .as (.c (.lit (.bool false))), none⟩] []) (.ret)) (.skip)))))) (.reg false [⟨some 61, .bin .add 0 (.t 14) (.c (.lit (.int .i64 1))), none⟩, ⟨some 14, .mv (.t 61), none⟩] [61]))))))) (.seq (.seq (.reg false [⟨some 62, .fa 4 (.t 1), none⟩, ⟨some 63, .ld false 1 (.t 62), none⟩, ⟨some 64, .len false (.t 63), none⟩, ⟨some 65, .mv (.c (.lit (.int .i64 0))), none⟩] [62]) (.block 2 (.loop (.seq (.reg false [⟨some 66, .bin .lss 0 (.t 65) (.t 64), none⟩] []) (.seq (.cond (.t 66) (.skip) (.exit 2)) (.seq (.block 3 (.seq (.reg false [⟨some 67, .mv (.t 65), none⟩, ⟨some 68, .ia 2 (.t 63) (.t 65), none⟩, ⟨some 69, .ld true 2 (.t 68), none⟩, ⟨some 8, .alloc (.agg [(.lit (.string (by8 ""))), (.lit (.string (by8 "")))]), none⟩, ⟨some 7, .as (.t 67), none⟩, ⟨none, .st 2 (.t 8) (.t 69), none⟩] [67, 68, 69]) (.seq (.reg true [⟨some 70, .ld true 2 (.t 8), none⟩, ⟨some 71, .call true 86 [(.t 70)], none⟩, ⟨some 72, .un .not (.t 71), none⟩, ⟨some 73, .mv (.t 72), none⟩, ⟨some 74, .mv (.t 7), (some (73, false))⟩, ⟨some 75, .bin .gtr 0 (.t 74) (.c (.lit (.int .i64 0))), (some (73, false))⟩, ⟨some 76, .mv (.t 75), (some (73, false))⟩, ⟨some 77, .fa 0 (.t 8), (some (76, true))⟩, ⟨some 78, .ld false 1 (.t 77), (some (76, true))⟩, ⟨some 79, .fa 4 (.t 1), (some (76, true))⟩, ⟨some 80, .ld false 1 (.t 79), (some (76, true))⟩, ⟨some 81, .mv (.t 7), (some (76, true))⟩, ⟨some 82, .bin .sub 0 (.t 81) (.c (.lit (.int .i64 1))), (some (76, true))⟩, ⟨some 83, .ia 2 (.t 80) (.t 82), (some (76, true))⟩, ⟨some 84, .fa 0 (.t 83), (some (76, true))⟩, ⟨some 85, .ld false 1 (.t 84), (some (76, true))⟩, ⟨some 86, .bin .leq 0 (.t 78) (.t 85), (some (76, true))⟩, ⟨some 87, .pick (.t 76) (.t 86) (.c (.lit (.bool false))), (some (73, false))⟩, ⟨some 88, .pick (.t 73) (.c (.lit (.bool true))) (.t 87), none⟩] [70, 71, 72, 73, 74, 75, 76, 77, 78, 79, 80, 81, 82, 83, 84, 85, 86, 87]) (.cond (.t 88) (.seq (.reg false [⟨some 2, .as (.c (.lit (.bool false))), none⟩] []) (.ret)) (.skip))))) (.reg false [⟨some 89, .bin .add 0 (.t 65) (.c (.lit (.int .i64 1))), none⟩, ⟨some 65, .mv (.t 89), none⟩] [89]))))))) (.seq (.reg false [⟨some 91, .fa 3 (.t 1), none⟩, ⟨some 92, .ld false 1 (.t 91), none⟩, ⟨some 93, .call false 88 [(.t 92)], none⟩, ⟨some 90, .mv (.t 93), none⟩, ⟨some 94, .ext (.t 90) 0, none⟩, ⟨some 95, .ext (.t 90) 1, none⟩, ⟨some 9, .as (.t 94), none⟩, ⟨some 10, .as (.t 95), none⟩] [91, 92, 93, 90, 94, 95, 9]) (.seq (.reg false [⟨some 96, .mv (.t 10), none⟩, ⟨some 97, .mv (.t 96), none⟩, ⟨some 98, .fa 0 (.t 1), (some (97, true))⟩, ⟨some 99, .ld false 1 (.t 98), (some (97, true))⟩, ⟨some 100, .len false (.t 99), (some (97, true))⟩, ⟨some 101, .call false 89 [(.t 100), (.c (.lit (.int .i64 1))), (.c (.lit (.int .i64 8)))], (some (97, true))⟩, ⟨some 102, .pick (.t 97) (.t 101) (.c (.lit (.bool false))), none⟩, ⟨some 103, .mv (.t 102), none⟩, ⟨some 104, .fa 1 (.t 1), (some (103, true))⟩, ⟨some 105, .ld false 1 (.t 104), (some (103, true))⟩, ⟨some 106, .call false 60 [(.t 105)], (some (103, true))⟩, ⟨some 107, .pick (.t 103) (.t 106) (.c (.lit (.bool false))), none⟩, ⟨some 108, .mv (.t 107), none⟩, ⟨some 109, .fa 2 (.t 1), (some (108, true))⟩, ⟨some 110, .ld false 1 (.t 109), (some (108, true))⟩, ⟨some 111, .call false 90 [(.t 110)], (some (108, true))⟩, ⟨some 112, .pick (.t 108) (.t 111) (.c (.lit (.bool false))), none⟩, ⟨some 2, .as (.t 112), none⟩] [96, 97, 98, 99, 100, 101, 102, 103, 104, 105, 106, 107, 108, 109, 110, 111, 112]) (.ret)))))
theorem is48 : Is Go.Proofs.Tryz.prog 48 113 v48 [.t 2] := ⟨Go.Proofs.Tryz.f48, dl [(0, [2]), (1, [11]), (3, [16, 17, 18]), (4, [20, 21, 22, 19, 23, 24, 6]), (5, [25, 26, 27, 28, 29, 30, 31, 32, 33, 34, 35, 36, 37, 38, 39, 40, 41, 42, 43, 44, 45, 46, 47, 48, 49, 50, 51, 52, 53, 54, 55, 56, 57, 58, 59]), (7, [61]), (8, [62]), (10, [67, 68, 69]), (11, [70, 71, 72, 73, 74, 75, 76, 77, 78, 79, 80, 81, 82, 83, 84, 85, 86, 87]), (13, [89]), (14, [91, 92, 93, 90, 94, 95, 9]), (15, [96, 97, 98, 99, 100, 101, 102, 103, 104, 105, 106, 107, 108, 109, 110, 111, 112])], Go.Proofs.Tryz.func48, by kernel_rfl, by kernel_rfl, by kernel_rfl, by kernel_rfl⟩
def Nd.small (x : Nd) : Prop := x.name.size ≤ 1048576 ∧ x.range.size ≤ 1048576
def En.small (x : En) : Prop := (x.heads.length ≤ 1048576 ∧ ∀ y ∈ x.heads, y.small) ∧ x.version.size ≤ 1048576 ∧ x.resolved.size ≤ 1048576 ∧ x.integrity.size ≤ 1048576 ∧ x.needs.length ≤ 1048576 ∧ ∀ y ∈ x.needs, y.small
theorem rng_bd {s : ByteArray} {r : List (ByteArray × ByteArray)} (h : rngO s = some r) : r.length ≤ 8 ∧ ∀ b ∈ r, b.1.size ≤ 1073741824 ∧ b.2.size ≤ 1073741824 := by
  unfold rngO at h
  split at h
  · rename_i hc
    have h1 := mapO_len h
    exact ⟨by omega, fun b hb => by have := map_end h b hb; omega⟩
  · cases h
theorem head_get {l : List Nd} {i : Nat} (h : i < l.length) : l.getD i ⟨by8 "", by8 ""⟩ = l[i] := by simp [List.getD, h]
theorem headAt_eq {e : En} {i : Nat} (h : i < e.heads.length) : headAt e i = (needOk e.heads[i].name e.heads[i].range && decide (e.heads[i].name = (e.heads[0]'(by omega)).name) && (decide (i = 0) || slt ((e.heads[i - 1]'(by omega)).range) e.heads[i].range) && inRng e.version ((rngO e.heads[i].range).getD [])) := by
  unfold headAt headOk
  rw [head_get h, head_get (by omega : i - 1 < e.heads.length), List.getElem?_eq_getElem (by omega : 0 < e.heads.length)]
  simp
theorem depAt_eq {e : En} {i : Nat} (h : i < e.needs.length) : depAt e i = (needOk e.needs[i].name e.needs[i].range && (decide (i = 0) || slt ((e.needs[i - 1]'(by omega)).name) e.needs[i].name)) := by
  unfold depAt
  rw [head_get h, head_get (by omega : i - 1 < e.needs.length)]
theorem ent_head {e : En} {i : Nat} (h : i < e.heads.length) (hn : headAt e i = false) : entOk e = false := by
  have : (List.range e.heads.length).all (headAt e) = false := by rw [List.all_eq_false]; exact ⟨i, List.mem_range.2 h, by simp [hn]⟩
  rw [entOk, this]; rfl
theorem ent_dep {e : En} {i : Nat} (h : i < e.needs.length) (hn : depAt e i = false) : entOk e = false := by
  have : (List.range e.needs.length).all (depAt e) = false := by rw [List.all_eq_false]; exact ⟨i, List.mem_range.2 h, by simp [hn]⟩
  rw [entOk, this]; simp
theorem all_range {n : Nat} {p : Nat → Bool} (h : ∀ j, j < n → p j = true) : (List.range n).all p = true := by rw [List.all_eq_true]; exact fun j hj => h j (List.mem_range.1 hj)
section
variable {E : Env} (hE : E.P = Go.Proofs.Tryz.prog) (hZ : ∀ w, E.K w → KZ w)
include hE
set_option maxHeartbeats 4000000 in
theorem specEnt_fx (e : En) (hs : e.small) : Fx E 44 [] [.agg e.av] [] (.lit (.bool (entOk e))) := by
  obtain ⟨⟨s1, s2⟩, s3, s4, s5, s6, s7⟩ := hs
  have hav : e.av = [.sl ro 2 (e.heads.map fun x => .agg x.av), .lit (.string e.version), .lit (.string e.resolved), .lit (.string e.integrity), .sl ro 2 (e.needs.map fun x => .agg x.av)] := rfl
  have hnv : ∀ x : Nd, x.av = [.lit (.string x.name), .lit (.string x.range)] := fun _ => rfl
  refine (is44.to hE).fx [] (by simp) rfl rfl ?_
  simp [v44, hav, okC]
  refine X_loop (τ := Nat) (fun i => ⟨[(1, .ptr 1000000000001 0 0), (3, .lit (.int .i64 i))], [(1000000000001, [.agg e.av])]⟩) (fun i => i ≤ e.heads.length ∧ ∀ j, j < i → headAt e j = true) (fun i => e.heads.length - i) 0 (by simp) (Wk.both (by simp [wkL, wkV.same, hnv]) (by simp [wkB, hav, hnv])) ?_
  rintro i ⟨hi, hall⟩
  simp [hav]
  by_cases hlt : i < e.heads.length
  · have hat := headAt_eq hlt
    have no := ent_head hlt
    obtain ⟨z1, z2⟩ := s2 _ (List.getElem_mem hlt)
    have h0 : 0 < e.heads.length := by omega
    simp [hlt, hnv, mkF, mkF.mkL, okC, putElem, upd]
    refine vcall_go (specRange_fx hE e.heads[i].range (by omega)) (by simp) (by simp) (by simp) (by simp) ?_
    unfold rngRes
    cases hr : rngO e.heads[i].range with
    | none =>
      have hn : needOk e.heads[i].name e.heads[i].range = false := by rw [needOk, hr]; simp
      rw [hn] at hat
      simp
      refine vcall_go (specNeed_fx hE e.heads[i].name e.heads[i].range (by omega) (by omega)) (by simp [bndV]) (by simp) (by simp) (by simp) ?_
      simp [hn]
      exact Fin_ret rfl (by rw [no (by rw [hat]; rfl)]; rfl)
    | some r =>
      obtain ⟨r1, r2⟩ := rng_bd hr
      simp
      refine vcall_go (specNeed_fx hE e.heads[i].name e.heads[i].range (by omega) (by omega)) (by simp [bndV]) (by simp) (by simp) (by simp) ?_
      cases hn : needOk e.heads[i].name e.heads[i].range
      · simp
        exact Fin_ret rfl (by rw [no (by rw [hat, hn]; rfl)]; rfl)
      simp [hlt, h0, hnv, mkF, mkF.mkL]
      by_cases c1 : e.heads[i].name = e.heads[0].name
      · simp [c1]
        have hfin : ∀ (b : Bool), b = inRng e.version r → (decide (i = 0) || slt ((e.heads[i - 1]'(by omega)).range) e.heads[i].range) = true → headAt e i = b := by
          intro b h1 h2
          rw [hat, hn, h2, hr, h1]
          simp [c1]
        by_cases c2 : 0 < i
        · have hw : IntKind.i64.wrap ((i : Int) - 1) = ((i - 1 : Nat) : Int) := by rw [wrap_i64 (by omega) (by omega)]; omega
          have hlt1 : i - 1 < e.heads.length := by omega
          simp [c2, hw, hlt1, hnv, mkF, mkF.mkL]
          by_cases c3 : slt (e.heads[i - 1]).range e.heads[i].range = true
          · have hc : (decide (i = 0) || slt (e.heads[i - 1]).range e.heads[i].range) = true := by rw [c3]; simp
            simp [c3]
            refine vcall_go (specIn_fx hE e.version r (by omega) (by omega) r2) (by simp) (by simp) (by simp) (by simp) ?_
            cases c4 : inRng e.version r
            · simp
              exact Fin_ret rfl (by rw [no (hfin _ c4.symm hc)]; rfl)
            · simp
              refine ⟨i + 1, ⟨by omega, fun j hj => ?_⟩, by omega, Wk.both (by simp [wkL, wkV.same, hnv]; rw [wrapN (by omega)]; exact wkV.same _) (by simp [wkB, hav, hnv])⟩
              rcases Nat.lt_succ_iff_lt_or_eq.1 hj with h | rfl
              · exact hall j h
              · exact hfin _ c4.symm hc
          · have c3' : slt (e.heads[i - 1]).range e.heads[i].range = false := by simpa using c3
            simp [c3']
            exact Fin_ret rfl (by rw [no (by rw [hat]; simp [c3]; intro _ _ h; omega)]; rfl)
        · have hc : (decide (i = 0) || slt ((e.heads[i - 1]'(by omega)).range) e.heads[i].range) = true := by rw [show decide (i = 0) = true by simp; omega]; rfl
          simp [c2]
          refine vcall_go (specIn_fx hE e.version r (by omega) (by omega) r2) (by simp) (by simp) (by simp) (by simp) ?_
          cases c4 : inRng e.version r
          · simp
            exact Fin_ret rfl (by rw [no (hfin _ c4.symm hc)]; rfl)
          · simp
            refine ⟨i + 1, ⟨by omega, fun j hj => ?_⟩, by omega, Wk.both (by simp [wkL, wkV.same, hnv]; rw [wrapN (by omega)]; exact wkV.same _) (by simp [wkB, hav, hnv])⟩
            rcases Nat.lt_succ_iff_lt_or_eq.1 hj with h | rfl
            · exact hall j h
            · exact hfin _ c4.symm hc
      · simp [c1]
        exact Fin_ret rfl (by rw [no (by rw [hat]; simp [c1])]; rfl)
  obtain rfl : i = e.heads.length := by omega
  have hH : (List.range e.heads.length).all (headAt e) = true := all_range hall
  clear hall hi hlt
  simp
  refine X_loop (τ := Nat) (fun i => ⟨[(1, .ptr 1000000000001 0 0), (7, .lit (.int .i64 i))], [(1000000000001, [.agg e.av])]⟩) (fun i => i ≤ e.needs.length ∧ ∀ j, j < i → depAt e j = true) (fun i => e.needs.length - i) 0 (by simp) (Wk.both (by simp [wkL, wkV.same, hnv]) (by simp [wkB, hav, hnv])) ?_
  rintro i ⟨hi, hall⟩
  simp [hav]
  by_cases hlt : i < e.needs.length
  · have hat := depAt_eq hlt
    have no := ent_dep hlt
    obtain ⟨z1, z2⟩ := s7 _ (List.getElem_mem hlt)
    simp [hlt, hnv, mkF, mkF.mkL, okC, putElem, upd]
    refine vcall_go (specNeed_fx hE e.needs[i].name e.needs[i].range (by omega) (by omega)) (by simp [bndV]) (by simp) (by simp) (by simp) ?_
    cases hn : needOk e.needs[i].name e.needs[i].range
    · simp
      exact Fin_ret rfl (by rw [no (by rw [hat, hn]; rfl)]; rfl)
    simp
    by_cases c2 : 0 < i
    · have hw : IntKind.i64.wrap ((i : Int) - 1) = ((i - 1 : Nat) : Int) := by rw [wrap_i64 (by omega) (by omega)]; omega
      have hlt1 : i - 1 < e.needs.length := by omega
      simp [c2, hw, hlt, hlt1, hnv, mkF, mkF.mkL]
      by_cases c3 : slt (e.needs[i - 1]).name e.needs[i].name = true
      · simp [c3]
        refine ⟨i + 1, ⟨by omega, fun j hj => ?_⟩, by omega, Wk.both (by simp [wkL, wkV.same, hnv]; rw [wrapN (by omega)]; exact wkV.same _) (by simp [wkB, hav, hnv])⟩
        rcases Nat.lt_succ_iff_lt_or_eq.1 hj with h | rfl
        · exact hall j h
        · exact (by rw [hat, hn, c3]; simp)
      · have c3' : slt (e.needs[i - 1]).name e.needs[i].name = false := by simpa using c3
        simp [c3']
        exact Fin_ret rfl (by rw [no (by rw [hat]; simp [c3]; intro _ h; omega)]; rfl)
    · simp [c2]
      refine ⟨i + 1, ⟨by omega, fun j hj => ?_⟩, by omega, Wk.both (by simp [wkL, wkV.same, hnv]; rw [wrapN (by omega)]; exact wkV.same _) (by simp [wkB, hav, hnv])⟩
      rcases Nat.lt_succ_iff_lt_or_eq.1 hj with h | rfl
      · exact hall j h
      · exact (by rw [hat, hn, show decide (j = 0) = true by simp; omega]; rfl)
  obtain rfl : i = e.needs.length := by omega
  have hN : (List.range e.needs.length).all (depAt e) = true := all_range hall
  have hent : entOk e = (inR e.heads.length 1 8 && (isVer e.version && ((giI e.integrity).isSome && plainOk e.resolved))) := by rw [entOk, hH, hN]; rfl
  clear hall hi hlt hH hN
  simp
  refine vcall_go (specVer0_fx hE e.version (by omega)) (by simp) (by simp) (by simp) (by simp) ?_
  unfold ver0
  cases hv : readVer e.version
  all_goals
    have hiv : isVer e.version = (readVer e.version).isSome := rfl
    rw [hv] at hiv
    simp [okC, putElem, upd]
    refine vcall_go (specGetI_fx hE e.integrity s5) (by simp) (by simp) (by simp) (by simp) ?_
    unfold giRes
    cases hg : giI e.integrity
  all_goals
    rw [hg, hiv] at hent
    simp
    refine vcall_go (l01In_fx hE e.heads.length 1 8) (by simp) (by simp) (by simp) (by simp) ?_
    cases c1 : inR e.heads.length 1 8
    · simp
      exact Fin_ret rfl (by rw [hent, c1]; rfl)
    simp
  · exact Fin_ret rfl (by rw [hent, c1]; rfl)
  · exact Fin_ret rfl (by rw [hent, c1]; rfl)
  · exact Fin_ret rfl (by rw [hent, c1]; rfl)
  · refine vcall_go (specPlain_fx hE e.resolved (by omega)) (by simp) (by simp) (by simp) (by simp) ?_
    simp
    exact Fin_ret rfl (by rw [hent, c1]; simp [reC])
include hZ in
set_option maxHeartbeats 4000000 in
theorem implEnt_fx (e : En) (hs : e.small) : Fx E 48 [] [.agg e.av] [] (.lit (.bool (entOk e))) := by
  obtain ⟨⟨s1, s2⟩, s3, s4, s5, s6, s7⟩ := hs
  have hav : e.av = [.sl ro 2 (e.heads.map fun x => .agg x.av), .lit (.string e.version), .lit (.string e.resolved), .lit (.string e.integrity), .sl ro 2 (e.needs.map fun x => .agg x.av)] := rfl
  have hnv : ∀ x : Nd, x.av = [.lit (.string x.name), .lit (.string x.range)] := fun _ => rfl
  refine (is48.to hE).fx [] (by simp) rfl rfl ?_
  simp [v48, hav, okC]
  refine X_loop (τ := Nat) (fun i => ⟨[(1, .ptr 1000000000001 0 0), (12, .sl ro 2 (e.heads.map fun x => .agg x.av)), (13, .lit (.int .i64 e.heads.length)), (14, .lit (.int .i64 i))], [(1000000000001, [.agg e.av])]⟩) (fun i => i ≤ e.heads.length ∧ ∀ j, j < i → headAt e j = true) (fun i => e.heads.length - i) 0 (by simp) (Wk.both (by simp [wkL, wkV.same, hnv]) (by simp [wkB, hav, hnv])) ?_
  rintro i ⟨hi, hall⟩
  simp [hav]
  by_cases hlt : i < e.heads.length
  · have hat := headAt_eq hlt
    have no := ent_head hlt
    obtain ⟨z1, z2⟩ := s2 _ (List.getElem_mem hlt)
    have h0 : 0 < e.heads.length := by omega
    simp [hlt, hnv, mkF, mkF.mkL, okC, putElem, upd]
    refine vcall_go (implRange_fx hE hZ e.heads[i].range (by omega)) (by simp) (by simp) (by simp) (by simp) ?_
    unfold rngRes
    cases hr : rngO e.heads[i].range with
    | none =>
      have hn : needOk e.heads[i].name e.heads[i].range = false := by rw [needOk, hr]; simp
      rw [hn] at hat
      simp
      refine vcall_go (implNeed_fx hE hZ e.heads[i].name e.heads[i].range (by omega) (by omega)) (by simp [bndV]) (by simp) (by simp) (by simp) ?_
      simp [hn]
      exact Fin_ret rfl (by rw [no (by rw [hat]; rfl)]; rfl)
    | some r =>
      obtain ⟨r1, r2⟩ := rng_bd hr
      simp
      refine vcall_go (implNeed_fx hE hZ e.heads[i].name e.heads[i].range (by omega) (by omega)) (by simp [bndV]) (by simp) (by simp) (by simp) ?_
      cases hn : needOk e.heads[i].name e.heads[i].range
      · simp
        exact Fin_ret rfl (by rw [no (by rw [hat, hn]; rfl)]; rfl)
      simp [hlt, h0, hnv, mkF, mkF.mkL]
      by_cases c1 : e.heads[i].name = e.heads[0].name
      · simp [c1]
        have hfin : ∀ (b : Bool), b = inRng e.version r → (decide (i = 0) || slt ((e.heads[i - 1]'(by omega)).range) e.heads[i].range) = true → headAt e i = b := by
          intro b h1 h2
          rw [hat, hn, h2, hr, h1]
          simp [c1]
        by_cases c2 : 0 < i
        · have hw : IntKind.i64.wrap ((i : Int) - 1) = ((i - 1 : Nat) : Int) := by rw [wrap_i64 (by omega) (by omega)]; omega
          have hlt1 : i - 1 < e.heads.length := by omega
          simp [c2, hw, hlt1, hnv, mkF, mkF.mkL]
          by_cases c3 : slt (e.heads[i - 1]).range e.heads[i].range = true
          · have hc : (decide (i = 0) || slt (e.heads[i - 1]).range e.heads[i].range) = true := by rw [c3]; simp
            simp [geq_slt, c3]
            refine vcall_go (implIn_fx hE hZ e.version r (by omega) (by omega) r2) (by simp) (by simp) (by simp) (by simp) ?_
            cases c4 : inRng e.version r
            · simp
              exact Fin_ret rfl (by rw [no (hfin _ c4.symm hc)]; rfl)
            · simp
              refine ⟨i + 1, ⟨by omega, fun j hj => ?_⟩, by omega, Wk.both (by simp [wkL, wkV.same, hnv]; rw [wrapN (by omega)]; exact wkV.same _) (by simp [wkB, hav, hnv])⟩
              rcases Nat.lt_succ_iff_lt_or_eq.1 hj with h | rfl
              · exact hall j h
              · exact hfin _ c4.symm hc
          · have c3' : slt (e.heads[i - 1]).range e.heads[i].range = false := by simpa using c3
            simp [geq_slt, c3']
            exact Fin_ret rfl (by rw [no (by rw [hat]; simp [c3]; intro _ _ h; omega)]; rfl)
        · have hc : (decide (i = 0) || slt ((e.heads[i - 1]'(by omega)).range) e.heads[i].range) = true := by rw [show decide (i = 0) = true by simp; omega]; rfl
          simp [c2]
          refine vcall_go (implIn_fx hE hZ e.version r (by omega) (by omega) r2) (by simp) (by simp) (by simp) (by simp) ?_
          cases c4 : inRng e.version r
          · simp
            exact Fin_ret rfl (by rw [no (hfin _ c4.symm hc)]; rfl)
          · simp
            refine ⟨i + 1, ⟨by omega, fun j hj => ?_⟩, by omega, Wk.both (by simp [wkL, wkV.same, hnv]; rw [wrapN (by omega)]; exact wkV.same _) (by simp [wkB, hav, hnv])⟩
            rcases Nat.lt_succ_iff_lt_or_eq.1 hj with h | rfl
            · exact hall j h
            · exact hfin _ c4.symm hc
      · simp [c1]
        exact Fin_ret rfl (by rw [no (by rw [hat]; simp [c1])]; rfl)
  obtain rfl : i = e.heads.length := by omega
  have hH : (List.range e.heads.length).all (headAt e) = true := all_range hall
  clear hall hi hlt
  simp
  refine X_loop (τ := Nat) (fun i => ⟨[(1, .ptr 1000000000001 0 0), (63, .sl ro 2 (e.needs.map fun x => .agg x.av)), (64, .lit (.int .i64 e.needs.length)), (65, .lit (.int .i64 i))], [(1000000000001, [.agg e.av])]⟩) (fun i => i ≤ e.needs.length ∧ ∀ j, j < i → depAt e j = true) (fun i => e.needs.length - i) 0 (by simp) (Wk.both (by simp [wkL, wkV.same, hnv]) (by simp [wkB, hav, hnv])) ?_
  rintro i ⟨hi, hall⟩
  simp [hav]
  by_cases hlt : i < e.needs.length
  · have hat := depAt_eq hlt
    have no := ent_dep hlt
    obtain ⟨z1, z2⟩ := s7 _ (List.getElem_mem hlt)
    simp [hlt, hnv, mkF, mkF.mkL, okC, putElem, upd]
    refine vcall_go (implNeed_fx hE hZ e.needs[i].name e.needs[i].range (by omega) (by omega)) (by simp [bndV]) (by simp) (by simp) (by simp) ?_
    cases hn : needOk e.needs[i].name e.needs[i].range
    · simp
      exact Fin_ret rfl (by rw [no (by rw [hat, hn]; rfl)]; rfl)
    simp
    by_cases c2 : 0 < i
    · have hw : IntKind.i64.wrap ((i : Int) - 1) = ((i - 1 : Nat) : Int) := by rw [wrap_i64 (by omega) (by omega)]; omega
      have hlt1 : i - 1 < e.needs.length := by omega
      simp [c2, hw, hlt, hlt1, hnv, mkF, mkF.mkL]
      by_cases c3 : slt (e.needs[i - 1]).name e.needs[i].name = true
      · simp [geq_slt, c3]
        refine ⟨i + 1, ⟨by omega, fun j hj => ?_⟩, by omega, Wk.both (by simp [wkL, wkV.same, hnv]; rw [wrapN (by omega)]; exact wkV.same _) (by simp [wkB, hav, hnv])⟩
        rcases Nat.lt_succ_iff_lt_or_eq.1 hj with h | rfl
        · exact hall j h
        · exact (by rw [hat, hn, c3]; simp)
      · have c3' : slt (e.needs[i - 1]).name e.needs[i].name = false := by simpa using c3
        simp [geq_slt, c3']
        exact Fin_ret rfl (by rw [no (by rw [hat]; simp [c3]; intro _ h; omega)]; rfl)
    · simp [c2]
      refine ⟨i + 1, ⟨by omega, fun j hj => ?_⟩, by omega, Wk.both (by simp [wkL, wkV.same, hnv]; rw [wrapN (by omega)]; exact wkV.same _) (by simp [wkB, hav, hnv])⟩
      rcases Nat.lt_succ_iff_lt_or_eq.1 hj with h | rfl
      · exact hall j h
      · exact (by rw [hat, hn, show decide (j = 0) = true by simp; omega]; rfl)
  obtain rfl : i = e.needs.length := by omega
  have hN : (List.range e.needs.length).all (depAt e) = true := all_range hall
  have hent : entOk e = (inR e.heads.length 1 8 && (isVer e.version && ((giI e.integrity).isSome && plainOk e.resolved))) := by rw [entOk, hH, hN]; rfl
  clear hall hi hlt hH hN
  simp
  refine vcall_go (implGetI_fx hE (fun w h => (hZ w h).km) e.integrity s5) (by simp) (by simp) (by simp) (by simp) ?_
  unfold giRes
  cases hg : giI e.integrity
  · rw [hg] at hent
    simp
    exact Fin_ret rfl (by rw [hent]; simp [reC])
  rw [hg] at hent
  simp
  refine vcall_go (within_fx hE e.heads.length 1 8) (by simp) (by simp) (by simp) (by simp) ?_
  cases c1 : inR e.heads.length 1 8
  · simp
    exact Fin_ret rfl (by rw [hent, c1]; rfl)
  simp
  refine vcall_go (isVersion_fx hE hZ e.version (by omega)) (by simp) (by simp) (by simp) (by simp) ?_
  cases c2 : isVer e.version
  · simp
    exact Fin_ret rfl (by rw [hent, c1, c2]; rfl)
  simp
  refine vcall_go (implPlain_fx hE e.resolved (by omega)) (by simp) (by simp) (by simp) (by simp) ?_
  simp
  exact Fin_ret rfl (by rw [hent, c1, c2]; simp [reC])
end
end Go.Proofs.YticockdhfglolaaGreatDoor.Vm
namespace Go.Proofs.YticockdhfglolaaGreatDoor.Vm
open Go Go.RowKit
set_option linter.unusedVariables false
set_option linter.unusedSimpArgs false
def v45 : VC := .seq (.reg false [⟨some 1, .box 2 (.t 0), none⟩, ⟨some 2, .as (.c (.lit (.string (by8 "")))), none⟩] [2]) (.seq (.reg false [⟨some 3, .fa 0 (.t 1), none⟩, ⟨some 4, .ld false 1 (.t 3), none⟩, ⟨some 5, .bin .add 0 (.t 4) (.c (.lit (.string (by8 "@")))), none⟩, ⟨some 6, .fa 1 (.t 1), none⟩, ⟨some 7, .ld false 1 (.t 6), none⟩, ⟨some 8, .bin .add 0 (.t 5) (.t 7), none⟩, ⟨some 2, .as (.t 8), none⟩] [3, 4, 5, 6, 7, 8]) (.ret))
theorem is45 : Is Go.Proofs.Tryz.prog 45 9 v45 [.t 2] := ⟨Go.Proofs.Tryz.f45, dl [(0, [2]), (1, [3, 4, 5, 6, 7, 8])], Go.Proofs.Tryz.func45, by kernel_rfl, by kernel_rfl, by kernel_rfl, by kernel_rfl⟩
def v21 : VC := .seq (.reg false [⟨some 2, .as (.c (.lit (.bool false))), none⟩] [2]) (.seq (.seq (.reg false [⟨some 3, .as (.c (.lit (.int .i64 0))), none⟩] []) (.block 0 (.loop (.seq (.seq (.reg false [⟨some 5, .mv (.t 3), none⟩, ⟨some 6, .mv (.t 0), none⟩, ⟨some 7, .len false (.t 6), none⟩, ⟨some 8, .bin .lss 0 (.t 5) (.t 7), none⟩] [5, 6, 7]) (.cond (.t 8) (.skip) (.exit 0))) (.seq (.block 1 (.seq (.seq (.reg true [⟨some 11, .mv (.t 0), none⟩, ⟨some 12, .mv (.t 3), none⟩, ⟨some 13, .ia 5 (.t 11) (.t 12), none⟩, ⟨some 14, .ld true 5 (.t 13), none⟩, ⟨some 15, .call true 44 [(.t 14)], none⟩, ⟨some 16, .un .not (.t 15), none⟩, ⟨some 17, .mv (.t 16), none⟩, ⟨some 18, .mv (.t 3), (some (17, false))⟩, ⟨some 19, .bin .gtr 0 (.t 18) (.c (.lit (.int .i64 0))), (some (17, false))⟩, ⟨some 20, .mv (.t 19), (some (17, false))⟩, ⟨some 21, .mv (.t 0), (some (20, true))⟩, ⟨some 22, .mv (.t 3), (some (20, true))⟩, ⟨some 23, .bin .sub 0 (.t 22) (.c (.lit (.int .i64 1))), (some (20, true))⟩, ⟨some 24, .ia 5 (.t 21) (.t 23), (some (20, true))⟩, ⟨some 25, .fa 0 (.t 24), (some (20, true))⟩, ⟨some 26, .ld false 1 (.t 25), (some (20, true))⟩, ⟨some 27, .ia 2 (.t 26) (.c (.lit (.int .i64 0))), (some (20, true))⟩, ⟨some 28, .ld true 2 (.t 27), (some (20, true))⟩, ⟨some 29, .call true 45 [(.t 28)], (some (20, true))⟩, ⟨some 30, .mv (.t 0), (some (20, true))⟩, ⟨some 31, .mv (.t 3), (some (20, true))⟩, ⟨some 32, .ia 5 (.t 30) (.t 31), (some (20, true))⟩, ⟨some 33, .fa 0 (.t 32), (some (20, true))⟩, ⟨some 34, .ld false 1 (.t 33), (some (20, true))⟩, ⟨some 35, .ia 2 (.t 34) (.c (.lit (.int .i64 0))), (some (20, true))⟩, ⟨some 36, .ld true 2 (.t 35), (some (20, true))⟩, ⟨some 37, .call true 45 [(.t 36)], (some (20, true))⟩, ⟨some 38, .bin .geq 0 (.t 29) (.t 37), (some (20, true))⟩, ⟨some 39, .pick (.t 20) (.t 38) (.c (.lit (.bool false))), (some (17, false))⟩, ⟨some 40, .pick (.t 17) (.c (.lit (.bool true))) (.t 39), none⟩] [11, 12, 13, 14, 15, 16, 17, 18, 19, 20, 21, 22, 23, 24, 25, 26, 27, 28, 29, 30, 31, 32, 33, 34, 35, 36, 37, 38, 39]) (.cond (.t 40) (.seq (.reg false [⟨some 2, .as (.c (.lit (.bool false))), none⟩] []) (.ret)) (.skip))) (.seq (.reg false [⟨some 4, .as (.c (.lit (.int .i64 0))), none⟩] []) (.block 2 (.loop (.seq (.seq (.reg false [⟨some 41, .mv (.t 4), none⟩, ⟨some 42, .mv (.t 0), none⟩, ⟨some 43, .mv (.t 3), none⟩, ⟨some 44, .ia 5 (.t 42) (.t 43), none⟩, ⟨some 45, .fa 0 (.t 44), none⟩, ⟨some 46, .ld false 1 (.t 45), none⟩, ⟨some 47, .len false (.t 46), none⟩, ⟨some 48, .bin .lss 0 (.t 41) (.t 47), none⟩] [41, 42, 43, 44, 45, 46, 47]) (.cond (.t 48) (.skip) (.exit 2))) (.seq (.block 3 (.seq (.reg false [⟨some 51, .mv (.t 0), none⟩, ⟨some 52, .mv (.t 0), none⟩, ⟨some 53, .mv (.t 3), none⟩, ⟨some 54, .ia 5 (.t 52) (.t 53), none⟩, ⟨some 55, .fa 0 (.t 54), none⟩, ⟨some 56, .ld false 1 (.t 55), none⟩, ⟨some 57, .mv (.t 4), none⟩, ⟨some 58, .ia 2 (.t 56) (.t 57), none⟩, ⟨some 59, .ld true 2 (.t 58), none⟩, ⟨some 60, .call false 46 [(.t 51), (.t 59)], none⟩, ⟨some 61, .mv (.t 3), none⟩, ⟨some 62, .bin .neq 0 (.t 60) (.t 61), none⟩] [51, 52, 53, 54, 55, 56, 57, 58, 59, 60, 61]) (.cond (.t 62) (.seq (.reg false [⟨some 2, .as (.c (.lit (.bool false))), none⟩] []) (.ret)) (.skip)))) (.reg false [⟨some 49, .mv (.t 4), none⟩, ⟨some 50, .bin .add 0 (.t 49) (.c (.lit (.int .i64 1))), none⟩, ⟨some 4, .as (.t 50), none⟩] [49, 50])))))))) (.reg false [⟨some 9, .mv (.t 3), none⟩, ⟨some 10, .bin .add 0 (.t 9) (.c (.lit (.int .i64 1))), none⟩, ⟨some 3, .as (.t 10), none⟩] [9, 10])))))) (.seq (.reg false [⟨some 63, .mv (.t 0), none⟩, ⟨some 64, .len false (.t 63), none⟩, ⟨some 65, .bin .leq 0 (.t 64) (.c (.lit (.int .i64 40))), none⟩, ⟨some 2, .as (.t 65), none⟩] [63, 64, 65]) (.ret)))
theorem is21 : Is Go.Proofs.Tryz.prog 21 66 v21 [.t 2] := ⟨Go.Proofs.Tryz.f21, dl [(0, [2]), (2, [5, 6, 7]), (4, [11, 12, 13, 14, 15, 16, 17, 18, 19, 20, 21, 22, 23, 24, 25, 26, 27, 28, 29, 30, 31, 32, 33, 34, 35, 36, 37, 38, 39]), (7, [41, 42, 43, 44, 45, 46, 47]), (9, [51, 52, 53, 54, 55, 56, 57, 58, 59, 60, 61]), (8, [49, 50]), (3, [9, 10]), (11, [63, 64, 65])], Go.Proofs.Tryz.func21, by kernel_rfl, by kernel_rfl, by kernel_rfl, by kernel_rfl⟩
def v23 : VC := .seq (.reg false [⟨some 2, .as (.c (.lit (.bool false))), none⟩] [2]) (.seq (.reg false [⟨some 8, .bsl 2 [], none⟩, ⟨some 3, .as (.t 8), none⟩] [8]) (.seq (.seq (.reg false [⟨some 9, .mv (.t 0), none⟩, ⟨some 10, .len false (.t 9), none⟩, ⟨some 11, .mv (.c (.lit (.int .i64 0))), none⟩] []) (.block 0 (.loop (.seq (.reg false [⟨some 12, .bin .lss 0 (.t 11) (.t 10), none⟩] []) (.seq (.cond (.t 12) (.skip) (.exit 0)) (.seq (.block 1 (.seq (.reg false [⟨some 13, .mv (.t 11), none⟩, ⟨some 14, .ia 5 (.t 9) (.t 11), none⟩, ⟨some 15, .ld true 5 (.t 14), none⟩, ⟨some 5, .alloc (.agg [(.sl ⟨.nl, true⟩ 1 []), (.lit (.string (by8 ""))), (.lit (.string (by8 ""))), (.lit (.string (by8 ""))), (.sl ⟨.nl, true⟩ 1 [])]), none⟩, ⟨some 4, .as (.t 13), none⟩, ⟨none, .st 5 (.t 5) (.t 15), none⟩] [13, 14, 15]) (.seq (.seq (.reg true [⟨some 16, .ld true 5 (.t 5), none⟩, ⟨some 17, .call true 48 [(.t 16)], none⟩, ⟨some 18, .un .not (.t 17), none⟩, ⟨some 19, .mv (.t 18), none⟩, ⟨some 20, .mv (.t 4), (some (19, false))⟩, ⟨some 21, .bin .gtr 0 (.t 20) (.c (.lit (.int .i64 0))), (some (19, false))⟩, ⟨some 22, .mv (.t 21), (some (19, false))⟩, ⟨some 23, .fa 0 (.t 5), (some (22, true))⟩, ⟨some 24, .ld false 1 (.t 23), (some (22, true))⟩, ⟨some 25, .ia 2 (.t 24) (.c (.lit (.int .i64 0))), (some (22, true))⟩, ⟨some 26, .ld true 2 (.t 25), (some (22, true))⟩, ⟨some 27, .call true 49 [(.t 26)], (some (22, true))⟩, ⟨some 28, .mv (.t 0), (some (22, true))⟩, ⟨some 29, .mv (.t 4), (some (22, true))⟩, ⟨some 30, .bin .sub 0 (.t 29) (.c (.lit (.int .i64 1))), (some (22, true))⟩, ⟨some 31, .ia 5 (.t 28) (.t 30), (some (22, true))⟩, ⟨some 32, .fa 0 (.t 31), (some (22, true))⟩, ⟨some 33, .ld false 1 (.t 32), (some (22, true))⟩, ⟨some 34, .ia 2 (.t 33) (.c (.lit (.int .i64 0))), (some (22, true))⟩, ⟨some 35, .ld true 2 (.t 34), (some (22, true))⟩, ⟨some 36, .call true 49 [(.t 35)], (some (22, true))⟩, ⟨some 37, .bin .leq 0 (.t 27) (.t 36), (some (22, true))⟩, ⟨some 38, .pick (.t 22) (.t 37) (.c (.lit (.bool false))), (some (19, false))⟩, ⟨some 39, .pick (.t 19) (.c (.lit (.bool true))) (.t 38), none⟩] [16, 17, 18, 19, 20, 21, 22, 23, 24, 25, 26, 27, 28, 29, 30, 31, 32, 33, 34, 35, 36, 37, 38]) (.cond (.t 39) (.seq (.reg false [⟨some 2, .as (.c (.lit (.bool false))), none⟩] []) (.ret)) (.skip))) (.seq (.reg false [⟨some 40, .fa 0 (.t 5), none⟩, ⟨some 41, .ld false 1 (.t 40), none⟩, ⟨some 42, .len false (.t 41), none⟩, ⟨some 43, .mv (.c (.lit (.int .i64 0))), none⟩] [40]) (.block 2 (.loop (.seq (.reg false [⟨some 44, .bin .lss 0 (.t 43) (.t 42), none⟩] []) (.seq (.cond (.t 44) (.skip) (.exit 2)) (.seq (.block 3 (.seq (.reg false [⟨some 45, .ia 2 (.t 41) (.t 43), none⟩, ⟨some 46, .ld true 2 (.t 45), none⟩, ⟨some 7, .alloc (.agg [(.lit (.string (by8 ""))), (.lit (.string (by8 "")))]), none⟩, ⟨none, .st 2 (.t 7) (.t 46), none⟩] [45, 46]) (.seq (.seq (.reg false [⟨some 47, .mv (.t 3), none⟩, ⟨some 48, .ld true 2 (.t 7), none⟩, ⟨some 49, .call false 50 [(.t 47), (.t 48)], none⟩] [47, 48]) (.cond (.t 49) (.seq (.reg false [⟨some 2, .as (.c (.lit (.bool false))), none⟩] []) (.ret)) (.skip))) (.reg false [⟨some 50, .mv (.t 3), none⟩, ⟨some 51, .ld true 2 (.t 7), none⟩, ⟨some 52, .bsl 2 [(.t 51)], none⟩, ⟨some 53, .app 2 32 (.t 50) (.t 52), none⟩, ⟨some 3, .as (.t 53), none⟩] [50, 51, 52, 53])))) (.reg false [⟨some 54, .bin .add 0 (.t 43) (.c (.lit (.int .i64 1))), none⟩, ⟨some 43, .mv (.t 54), none⟩] [54])))))))))) (.reg false [⟨some 55, .bin .add 0 (.t 11) (.c (.lit (.int .i64 1))), none⟩, ⟨some 11, .mv (.t 55), none⟩] [55]))))))) (.seq (.reg false [⟨some 56, .mv (.t 0), none⟩, ⟨some 57, .len false (.t 56), none⟩, ⟨some 58, .bin .leq 0 (.t 57) (.c (.lit (.int .i64 40))), none⟩, ⟨some 2, .as (.t 58), none⟩] [56, 57, 58]) (.ret))))
theorem is23 : Is Go.Proofs.Tryz.prog 23 59 v23 [.t 2] := ⟨Go.Proofs.Tryz.f23, dl [(0, [2]), (1, [8]), (4, [13, 14, 15]), (5, [16, 17, 18, 19, 20, 21, 22, 23, 24, 25, 26, 27, 28, 29, 30, 31, 32, 33, 34, 35, 36, 37, 38]), (7, [40]), (9, [45, 46]), (10, [47, 48]), (12, [50, 51, 52, 53]), (13, [54]), (14, [55]), (15, [56, 57, 58])], Go.Proofs.Tryz.func23, by kernel_rfl, by kernel_rfl, by kernel_rfl, by kernel_rfl⟩
theorem ent_len {e : En} (h : entOk e = true) : 1 ≤ e.heads.length ∧ e.heads.length ≤ 8 := by
  rw [entOk, Bool.and_eq_true, Bool.and_eq_true, Bool.and_eq_true] at h
  have := h.2.2.1
  simp only [inR, Bool.and_eq_true, decide_eq_true_eq] at this
  omega
theorem en_get {l : List En} {i : Nat} (h : i < l.length) : l.getD i ⟨[], by8 "", by8 "", by8 "", []⟩ = l[i] := by simp [List.getD, h]
theorem entAt_eq {l : List En} {i : Nat} (h : i < l.length) : entAt l i = (entOk l[i] && (decide (i = 0) || slt (keyN (hd0 (l[i - 1]'(by omega)))) (keyN (hd0 l[i]))) && l[i].heads.all fun h => decide (h ∉ hdsL (l.take i))) := by
  unfold entAt atE
  rw [en_get h, en_get (by omega : i - 1 < l.length)]
theorem hd0_get {e : En} (h : 0 < e.heads.length) : hd0 e = e.heads[0] := head_get h
theorem entAt_ok {l : List En} {i : Nat} (h : i < l.length) (ha : entAt l i = true) : entOk l[i] = true := by
  rw [entAt_eq h, Bool.and_eq_true, Bool.and_eq_true] at ha
  exact ha.1.1
theorem ents_no {l : List En} {i : Nat} (h : i < l.length) (hn : entAt l i = false) : entsOk l = false := by
  have : (List.range l.length).all (entAt l) = false := by rw [List.all_eq_false]; exact ⟨i, List.mem_range.2 h, by simp [hn]⟩
  rw [entsOk, this]; rfl
theorem hds_no {l : List En} {i k : Nat} (h : i < l.length) (hk : k < l[i].heads.length) (hm : l[i].heads[k] ∈ hdsL (l.take i)) : entAt l i = false := by
  rw [entAt_eq h]
  have : (l[i].heads.all fun h => decide (h ∉ hdsL (l.take i))) = false := by
    rw [List.all_eq_false]
    exact ⟨_, List.getElem_mem hk, by simpa using hm⟩
  rw [this, Bool.and_false]
theorem hds_len : ∀ {l : List En}, (∀ e ∈ l, e.heads.length ≤ 8) → (hdsL l).length ≤ 8 * l.length
  | [], _ => by simp [hdsL]
  | e :: l, h => by
    have ih := hds_len (l := l) fun x hx => h x (List.mem_cons_of_mem _ hx)
    have h1 := h e List.mem_cons_self
    have : hdsL (e :: l) = e.heads ++ hdsL l := rfl
    rw [this, List.length_append, List.length_cons]; omega
section
variable {E : Env} (hE : E.P = Go.Proofs.Tryz.prog) (hZ : ∀ w, E.K w → KZ w)
include hE
theorem keyN_fx (x : Nd) (h : x.small) : Fx E 45 [] [.agg x.av] [] (.lit (.string (keyN x))) := by
  obtain ⟨h1, h2⟩ := h
  have hnv : x.av = [.lit (.string x.name), .lit (.string x.range)] := rfl
  have e : (by8 "@").size = 1 := by decide +kernel
  refine (is45.to hE).fx [] (by simp) rfl rfl ?_
  simp [v45, hnv, okC]
  refine ⟨by omega, by omega, ?_⟩
  exact Fin_ret rfl rfl
theorem textN_fx (x : Nd) (h : x.small) : Fx E 49 [] [.agg x.av] [] (.lit (.string (keyN x))) := needText_fx hE x.name x.range (by have := h.1; omega) (by have := h.2; omega)
set_option maxHeartbeats 4000000 in
theorem specEnts_fx (l : List En) (hl : l.length ≤ 1048576) (hs : ∀ e ∈ l, e.small) : Fx E 21 [] [.sl ro 5 (l.map fun x => .agg x.av)] [] (.lit (.bool (entsOk l))) := by
  have hst : ∀ i (h : i < l.length), l[i].small := fun i h => hs _ (List.getElem_mem h)
  have hev : ∀ e : En, e.av = [.sl ro 2 (e.heads.map fun x => .agg x.av), .lit (.string e.version), .lit (.string e.resolved), .lit (.string e.integrity), .sl ro 2 (e.needs.map fun x => .agg x.av)] := fun _ => rfl
  have hnv : ∀ x : Nd, x.av = [.lit (.string x.name), .lit (.string x.range)] := fun _ => rfl
  refine (is21.to hE).fx [] (by simp) rfl rfl ?_
  simp [v21, okC, frA, frA.frL]
  refine X_loop (τ := Nat) (fun i => ⟨[(0, .sl ro 5 (l.map fun x => .agg x.av)), (3, .lit (.int .i64 i))], []⟩) (fun i => i ≤ l.length ∧ ∀ j, j < i → entAt l j = true) (fun i => l.length - i) 0 (by simp) (Wk.both (by simp [wkL, wkV.same, hdsL]) trivial) ?_
  rintro i ⟨hi, hall⟩
  have hhl : (hdsL (l.take i)).length ≤ 8 * i := by
    have := hds_len (l := l.take i) fun e he => by
      obtain ⟨j, hj, rfl⟩ := List.getElem_of_mem he
      rw [List.length_take] at hj
      rw [List.getElem_take]
      exact (ent_len (entAt_ok (by omega) (hall j (by omega)))).2
    rw [List.length_take] at this
    omega
  simp
  by_cases hlt : i < l.length
  · have hat := entAt_eq hlt
    have no := ents_no hlt
    have hav := hev l[i]
    simp [hlt, hav, mkF, mkF.mkL, okC, putElem, upd]
    refine vcall_go (specEnt_fx hE l[i] (hst i hlt)) (by simp [hav]) (by simp) (by simp) (by simp) ?_
    cases hn : entOk l[i]
    · simp
      exact Fin_ret rfl (by rw [no (by rw [hat, hn]; rfl)]; rfl)
    obtain ⟨n1, n2⟩ := ent_len hn
    have h0 : 0 < l[i].heads.length := by omega
    have hn0v := hnv (l[i].heads[0])
    simp
    by_cases c2 : 0 < i
    · have hw : IntKind.i64.wrap ((i : Int) - 1) = ((i - 1 : Nat) : Int) := by rw [wrap_i64 (by omega) (by omega)]; omega
      have hlt1 : i - 1 < l.length := by omega
      have hn1 := entAt_ok hlt1 (hall _ (by omega))
      obtain ⟨m1, m2⟩ := ent_len hn1
      have h1 : 0 < l[i - 1].heads.length := by omega
      have hav1 := hev l[i - 1]
      have hn1v := hnv (l[i - 1].heads[0])
      simp [c2, hw, hlt, hlt1, hav, hav1, hn1v, hn0v, h0, h1, mkF, mkF.mkL, okC]
      refine vcall_go (keyN_fx hE (l[i - 1].heads[0]) ((hst _ hlt1).1.2 _ (List.getElem_mem _))) (by simp [hn1v]) (by simp) (by simp) (by simp) ?_
      simp [hlt, hav, hn0v, h0, mkF, mkF.mkL, okC]
      refine vcall_go (keyN_fx hE (l[i].heads[0]) ((hst _ hlt).1.2 _ (List.getElem_mem _))) (by simp [hn0v]) (by simp) (by simp) (by simp) ?_
      have hk1 : hd0 l[i - 1] = l[i - 1].heads[0] := hd0_get h1
      have hk0 : hd0 l[i] = l[i].heads[0] := hd0_get h0
      by_cases c3 : slt (keyN (l[i - 1].heads[0])) (keyN (l[i].heads[0])) = true
      · have hc : (decide (i = 0) || slt (keyN (hd0 l[i - 1])) (keyN (hd0 l[i]))) = true := by rw [hk1, hk0, c3]; simp
        simp [c3]
        refine X_loop (τ := Nat) (fun k => ⟨[(0, .sl ro 5 (l.map fun x => .agg x.av)), (3, .lit (.int .i64 i)), (4, .lit (.int .i64 k))], []⟩) (fun k => k ≤ l[i].heads.length ∧ ∀ m (h : m < l[i].heads.length), m < k → l[i].heads[m] ∉ hdsL (l.take i)) (fun k => l[i].heads.length - k) 0 (by simp) (Wk.both (by simp [wkL, wkV.same]) trivial) ?_
        rintro k ⟨hk, hks⟩
        simp [hlt, hav, mkF, mkF.mkL]
        by_cases hkl : k < l[i].heads.length
        · have hnk := hnv (l[i].heads[k])
          simp [hkl, hlt, hav, hnk, mkF, mkF.mkL, okC]
          refine vcall_go (specRes_fx hE l l[i].heads[k] hl (fun e he => (hs e he).1.1)) (by simp [hnk]) (by simp) (by simp) (by simp) ?_
          have hri := resE_iff hlt (List.getElem_mem hkl)
          by_cases c5 : l[i].heads[k] ∈ hdsL (l.take i)
          · have hne : ¬ fidx (fun e => hasN e.heads l[i].heads[k]) l = i := fun h => (hri.1 h) c5
            simp [hne]
            exact Fin_ret rfl (by rw [no (hds_no hlt hkl c5)]; rfl)
          · have hne : fidx (fun e => hasN e.heads l[i].heads[k]) l = i := hri.2 c5
            simp [hne]
            refine ⟨k + 1, ⟨by omega, fun m h hm => ?_⟩, by omega, Wk.both (by simp [wkL, wkV.same]; rw [wrapN (by omega)]; exact wkV.same _) trivial⟩
            rcases Nat.lt_succ_iff_lt_or_eq.1 hm with h2 | rfl
            · exact hks m h h2
            · exact c5
        · obtain rfl : k = l[i].heads.length := by omega
          simp
          refine ⟨i + 1, ⟨by omega, fun j hj => ?_⟩, by omega, Wk.both (by simp [wkL, wkV.same]; rw [wrapN (by omega)]; exact wkV.same _) trivial⟩
          rcases Nat.lt_succ_iff_lt_or_eq.1 hj with h | rfl
          · exact hall j h
          · rw [hat, hn, hc, Bool.true_and, Bool.true_and, List.all_eq_true]
            intro x hx
            obtain ⟨m, hm, rfl⟩ := List.getElem_of_mem hx
            simpa using hks m hm hm
      · have c3' : slt (keyN (l[i - 1].heads[0])) (keyN (l[i].heads[0])) = false := by simpa using c3
        simp [c3']
        exact Fin_ret rfl (by rw [no (by rw [hat, hk1, hk0, c3', hn]; simp; intro h; omega)]; rfl)
    · have hc : (decide (i = 0) || slt (keyN (hd0 (l[i - 1]'(by omega)))) (keyN (hd0 l[i]))) = true := by rw [show decide (i = 0) = true by simp; omega]; rfl
      simp [c2]
      refine X_loop (τ := Nat) (fun k => ⟨[(0, .sl ro 5 (l.map fun x => .agg x.av)), (3, .lit (.int .i64 i)), (4, .lit (.int .i64 k))], []⟩) (fun k => k ≤ l[i].heads.length ∧ ∀ m (h : m < l[i].heads.length), m < k → l[i].heads[m] ∉ hdsL (l.take i)) (fun k => l[i].heads.length - k) 0 (by simp) (Wk.both (by simp [wkL, wkV.same]) trivial) ?_
      rintro k ⟨hk, hks⟩
      simp [hlt, hav, mkF, mkF.mkL]
      by_cases hkl : k < l[i].heads.length
      · have hnk := hnv (l[i].heads[k])
        simp [hkl, hlt, hav, hnk, mkF, mkF.mkL, okC]
        refine vcall_go (specRes_fx hE l l[i].heads[k] hl (fun e he => (hs e he).1.1)) (by simp [hnk]) (by simp) (by simp) (by simp) ?_
        have hri := resE_iff hlt (List.getElem_mem hkl)
        by_cases c5 : l[i].heads[k] ∈ hdsL (l.take i)
        · have hne : ¬ fidx (fun e => hasN e.heads l[i].heads[k]) l = i := fun h => (hri.1 h) c5
          simp [hne]
          exact Fin_ret rfl (by rw [no (hds_no hlt hkl c5)]; rfl)
        · have hne : fidx (fun e => hasN e.heads l[i].heads[k]) l = i := hri.2 c5
          simp [hne]
          refine ⟨k + 1, ⟨by omega, fun m h hm => ?_⟩, by omega, Wk.both (by simp [wkL, wkV.same]; rw [wrapN (by omega)]; exact wkV.same _) trivial⟩
          rcases Nat.lt_succ_iff_lt_or_eq.1 hm with h2 | rfl
          · exact hks m h h2
          · exact c5
      · obtain rfl : k = l[i].heads.length := by omega
        simp
        refine ⟨i + 1, ⟨by omega, fun j hj => ?_⟩, by omega, Wk.both (by simp [wkL, wkV.same]; rw [wrapN (by omega)]; exact wkV.same _) trivial⟩
        rcases Nat.lt_succ_iff_lt_or_eq.1 hj with h | rfl
        · exact hall j h
        · rw [hat, hn, hc, Bool.true_and, Bool.true_and, List.all_eq_true]
          intro x hx
          obtain ⟨m, hm, rfl⟩ := List.getElem_of_mem hx
          simpa using hks m hm hm
  · obtain rfl : i = l.length := by omega
    have hA : (List.range l.length).all (entAt l) = true := all_range hall
    simp
    exact Fin_ret rfl (by rw [entsOk, hA]; simp [reC]; omega)
include hZ in
set_option maxHeartbeats 4000000 in
theorem implEnts_fx (l : List En) (hl : l.length ≤ 1048576) (hs : ∀ e ∈ l, e.small) : Fx E 23 [] [.sl ro 5 (l.map fun x => .agg x.av)] [] (.lit (.bool (entsOk l))) := by
  have hst : ∀ i (h : i < l.length), l[i].small := fun i h => hs _ (List.getElem_mem h)
  have hev : ∀ e : En, e.av = [.sl ro 2 (e.heads.map fun x => .agg x.av), .lit (.string e.version), .lit (.string e.resolved), .lit (.string e.integrity), .sl ro 2 (e.needs.map fun x => .agg x.av)] := fun _ => rfl
  have hnv : ∀ x : Nd, x.av = [.lit (.string x.name), .lit (.string x.range)] := fun _ => rfl
  refine (is23.to hE).fx [] (by simp) rfl rfl ?_
  simp [v23, okC, frA, frA.frL]
  refine X_loop (τ := Nat) (fun i => ⟨[(0, .sl ro 5 (l.map fun x => .agg x.av)), (3, .sl ⟨.cl 512, true⟩ 2 ((hdsL (l.take i)).map fun x => .agg x.av)), (9, .sl ro 5 (l.map fun x => .agg x.av)), (10, .lit (.int .i64 l.length)), (11, .lit (.int .i64 i))], []⟩) (fun i => i ≤ l.length ∧ ∀ j, j < i → entAt l j = true) (fun i => l.length - i) 0 (by simp) (Wk.both (by simp [wkL, wkV.same, hdsL]) trivial) ?_
  rintro i ⟨hi, hall⟩
  have hhl : (hdsL (l.take i)).length ≤ 8 * i := by
    have := hds_len (l := l.take i) fun e he => by
      obtain ⟨j, hj, rfl⟩ := List.getElem_of_mem he
      rw [List.length_take] at hj
      rw [List.getElem_take]
      exact (ent_len (entAt_ok (by omega) (hall j (by omega)))).2
    rw [List.length_take] at this
    omega
  simp
  by_cases hlt : i < l.length
  · have hat := entAt_eq hlt
    have no := ents_no hlt
    have hav := hev l[i]
    simp [hlt, hav, mkF, mkF.mkL, okC, putElem, upd]
    refine vcall_go (implEnt_fx hE hZ l[i] (hst i hlt)) (by simp [hav]) (by simp) (by simp) (by simp) ?_
    cases hn : entOk l[i]
    · simp
      exact Fin_ret rfl (by rw [no (by rw [hat, hn]; rfl)]; rfl)
    obtain ⟨n1, n2⟩ := ent_len hn
    have h0 : 0 < l[i].heads.length := by omega
    have hn0v := hnv (l[i].heads[0])
    simp
    by_cases c2 : 0 < i
    · have hw : IntKind.i64.wrap ((i : Int) - 1) = ((i - 1 : Nat) : Int) := by rw [wrap_i64 (by omega) (by omega)]; omega
      have hlt1 : i - 1 < l.length := by omega
      have hn1 := entAt_ok hlt1 (hall _ (by omega))
      obtain ⟨m1, m2⟩ := ent_len hn1
      have h1 : 0 < l[i - 1].heads.length := by omega
      have hav1 := hev l[i - 1]
      have hn1v := hnv (l[i - 1].heads[0])
      simp [c2, hw, hlt, hlt1, hav, hav1, hn1v, hn0v, h0, h1, mkF, mkF.mkL, okC]
      refine vcall_go (textN_fx hE (l[i].heads[0]) ((hst _ hlt).1.2 _ (List.getElem_mem _))) (by simp [hn0v]) (by simp) (by simp) (by simp) ?_
      simp [hlt, hlt1, hav1, hw, hn1v, h1, mkF, mkF.mkL, okC]
      refine vcall_go (textN_fx hE (l[i - 1].heads[0]) ((hst _ hlt1).1.2 _ (List.getElem_mem _))) (by simp [hn1v]) (by simp) (by simp) (by simp) ?_
      have hk1 : hd0 l[i - 1] = l[i - 1].heads[0] := hd0_get h1
      have hk0 : hd0 l[i] = l[i].heads[0] := hd0_get h0
      by_cases c3 : slt (keyN (l[i - 1].heads[0])) (keyN (l[i].heads[0])) = true
      · have hc : (decide (i = 0) || slt (keyN (hd0 l[i - 1])) (keyN (hd0 l[i]))) = true := by rw [hk1, hk0, c3]; simp
        simp [geq_slt, c3]
        refine X_loop (τ := Nat) (fun k => ⟨[(0, .sl ro 5 (l.map fun x => .agg x.av)), (3, .sl ⟨.cl 512, true⟩ 2 ((hdsL (l.take i) ++ l[i].heads.take k).map fun x => .agg x.av)), (5, .ptr 1000000000005 0 0), (9, .sl ro 5 (l.map fun x => .agg x.av)), (10, .lit (.int .i64 l.length)), (11, .lit (.int .i64 i)), (41, .sl ro 2 (l[i].heads.map fun x => .agg x.av)), (42, .lit (.int .i64 l[i].heads.length)), (43, .lit (.int .i64 k))], [(1000000000005, [.agg l[i].av])]⟩) (fun k => k ≤ l[i].heads.length ∧ ∀ m (h : m < l[i].heads.length), m < k → l[i].heads[m] ∉ hdsL (l.take i)) (fun k => l[i].heads.length - k) 0 (by simp) (Wk.both (by simp [wkL, wkV.same, hav, ro]) (by simp [wkB, hav, ro])) ?_
        rintro k ⟨hk, hks⟩
        simp [hav]
        by_cases hkl : k < l[i].heads.length
        · have hnk := hnv (l[i].heads[k])
          have hct := contN_fx hE (hdsL (l.take i) ++ l[i].heads.take k) l[i].heads[k] (by rw [List.length_append, List.length_take]; omega)
          rw [List.map_append] at hct
          simp [hkl, hnk, mkF, mkF.mkL, okC, putElem, upd]
          refine vcall_go hct (by simp [hnk]) (by simp) (by simp) (by simp) ?_
          have hcq : hasN (hdsL (l.take i) ++ l[i].heads.take k) l[i].heads[k] = decide (l[i].heads[k] ∈ hdsL (l.take i)) := by
            rw [Bool.eq_iff_iff, hasN_iff, List.mem_append, decide_eq_true_eq]
            refine ⟨fun h => ?_, .inl⟩
            rcases h with h | h
            · exact h
            · obtain ⟨m, hm, he⟩ := List.getElem_of_mem h
              rw [List.length_take] at hm
              rw [List.getElem_take] at he
              exact absurd he (heads_ne hn (by omega) hkl)
          rw [hcq]
          by_cases c5 : l[i].heads[k] ∈ hdsL (l.take i)
          · simp [c5]
            exact Fin_ret rfl (by rw [no (hds_no hlt hkl c5)]; rfl)
          · have htk : (l[i].heads.take (k + 1)) = l[i].heads.take k ++ [l[i].heads[k]] := List.take_succ_eq_append_getElem hkl
            simp [c5, hnk, mkF, mkF.mkL, okC, putElem, upd, fill, frA, frA.frL, AS.dem, mapV, dem, dem.demL, ro]
            have hmk : List.take (k + 1) (l[i].heads.map fun x => AV.agg x.av) = List.take k (l[i].heads.map fun x => AV.agg x.av) ++ [.agg [.lit (.string (l[i].heads[k]).name), .lit (.string (l[i].heads[k]).range)]] := by
              rw [← List.map_take, htk, List.map_append, List.map_take]; rfl
            refine ⟨by omega, k + 1, ⟨by omega, fun m h hm => ?_⟩, by omega, Wk.both (by simp [wkL, wkV.same, hmk]; rw [wrapN (by omega)]; exact wkV.same _) (by simp [wkB, hav, ro])⟩
            rcases Nat.lt_succ_iff_lt_or_eq.1 hm with h2 | rfl
            · exact hks m h h2
            · exact c5
        · obtain rfl : k = l[i].heads.length := by omega
          have e1 : List.take l[i].heads.length (l[i].heads.map fun x => AV.agg x.av) = l[i].heads.map fun x => AV.agg x.av := List.take_of_length_le (by simp)
          simp
          refine ⟨i + 1, ⟨by omega, fun j hj => ?_⟩, by omega, Wk.both (by simp [wkL, wkV.same, hdsL_take hlt, e1]; rw [wrapN (by omega)]; exact wkV.same _) trivial⟩
          rcases Nat.lt_succ_iff_lt_or_eq.1 hj with h | rfl
          · exact hall j h
          · rw [hat, hn, hc, Bool.true_and, Bool.true_and, List.all_eq_true]
            intro x hx
            obtain ⟨m, hm, rfl⟩ := List.getElem_of_mem hx
            simpa using hks m hm hm
      · have c3' : slt (keyN (l[i - 1].heads[0])) (keyN (l[i].heads[0])) = false := by simpa using c3
        simp [geq_slt, c3']
        exact Fin_ret rfl (by rw [no (by rw [hat, hk1, hk0, c3', hn]; simp; intro h; omega)]; rfl)
    · have hc : (decide (i = 0) || slt (keyN (hd0 (l[i - 1]'(by omega)))) (keyN (hd0 l[i]))) = true := by rw [show decide (i = 0) = true by simp; omega]; rfl
      simp [c2]
      refine X_loop (τ := Nat) (fun k => ⟨[(0, .sl ro 5 (l.map fun x => .agg x.av)), (3, .sl ⟨.cl 512, true⟩ 2 ((hdsL (l.take i) ++ l[i].heads.take k).map fun x => .agg x.av)), (5, .ptr 1000000000005 0 0), (9, .sl ro 5 (l.map fun x => .agg x.av)), (10, .lit (.int .i64 l.length)), (11, .lit (.int .i64 i)), (41, .sl ro 2 (l[i].heads.map fun x => .agg x.av)), (42, .lit (.int .i64 l[i].heads.length)), (43, .lit (.int .i64 k))], [(1000000000005, [.agg l[i].av])]⟩) (fun k => k ≤ l[i].heads.length ∧ ∀ m (h : m < l[i].heads.length), m < k → l[i].heads[m] ∉ hdsL (l.take i)) (fun k => l[i].heads.length - k) 0 (by simp) (Wk.both (by simp [wkL, wkV.same, hav, ro]) (by simp [wkB, hav, ro])) ?_
      rintro k ⟨hk, hks⟩
      simp [hav]
      by_cases hkl : k < l[i].heads.length
      · have hnk := hnv (l[i].heads[k])
        have hct := contN_fx hE (hdsL (l.take i) ++ l[i].heads.take k) l[i].heads[k] (by rw [List.length_append, List.length_take]; omega)
        rw [List.map_append] at hct
        simp [hkl, hnk, mkF, mkF.mkL, okC, putElem, upd]
        refine vcall_go hct (by simp [hnk]) (by simp) (by simp) (by simp) ?_
        have hcq : hasN (hdsL (l.take i) ++ l[i].heads.take k) l[i].heads[k] = decide (l[i].heads[k] ∈ hdsL (l.take i)) := by
          rw [Bool.eq_iff_iff, hasN_iff, List.mem_append, decide_eq_true_eq]
          refine ⟨fun h => ?_, .inl⟩
          rcases h with h | h
          · exact h
          · obtain ⟨m, hm, he⟩ := List.getElem_of_mem h
            rw [List.length_take] at hm
            rw [List.getElem_take] at he
            exact absurd he (heads_ne hn (by omega) hkl)
        rw [hcq]
        by_cases c5 : l[i].heads[k] ∈ hdsL (l.take i)
        · simp [c5]
          exact Fin_ret rfl (by rw [no (hds_no hlt hkl c5)]; rfl)
        · have htk : (l[i].heads.take (k + 1)) = l[i].heads.take k ++ [l[i].heads[k]] := List.take_succ_eq_append_getElem hkl
          simp [c5, hnk, mkF, mkF.mkL, okC, putElem, upd, fill, frA, frA.frL, AS.dem, mapV, dem, dem.demL, ro]
          have hmk : List.take (k + 1) (l[i].heads.map fun x => AV.agg x.av) = List.take k (l[i].heads.map fun x => AV.agg x.av) ++ [.agg [.lit (.string (l[i].heads[k]).name), .lit (.string (l[i].heads[k]).range)]] := by
            rw [← List.map_take, htk, List.map_append, List.map_take]; rfl
          refine ⟨by omega, k + 1, ⟨by omega, fun m h hm => ?_⟩, by omega, Wk.both (by simp [wkL, wkV.same, hmk]; rw [wrapN (by omega)]; exact wkV.same _) (by simp [wkB, hav, ro])⟩
          rcases Nat.lt_succ_iff_lt_or_eq.1 hm with h2 | rfl
          · exact hks m h h2
          · exact c5
      · obtain rfl : k = l[i].heads.length := by omega
        have e1 : List.take l[i].heads.length (l[i].heads.map fun x => AV.agg x.av) = l[i].heads.map fun x => AV.agg x.av := List.take_of_length_le (by simp)
        simp
        refine ⟨i + 1, ⟨by omega, fun j hj => ?_⟩, by omega, Wk.both (by simp [wkL, wkV.same, hdsL_take hlt, e1]; rw [wrapN (by omega)]; exact wkV.same _) trivial⟩
        rcases Nat.lt_succ_iff_lt_or_eq.1 hj with h | rfl
        · exact hall j h
        · rw [hat, hn, hc, Bool.true_and, Bool.true_and, List.all_eq_true]
          intro x hx
          obtain ⟨m, hm, rfl⟩ := List.getElem_of_mem hx
          simpa using hks m hm hm
  · obtain rfl : i = l.length := by omega
    have hA : (List.range l.length).all (entAt l) = true := all_range hall
    simp
    exact Fin_ret rfl (by rw [entsOk, hA]; simp [reC]; omega)
end
end Go.Proofs.YticockdhfglolaaGreatDoor.Vm
namespace Go.Proofs.YticockdhfglolaaGreatDoor.Vm
open Go Go.RowKit
set_option linter.unusedVariables false
set_option linter.unusedSimpArgs false
def v5 : VC := .seq (.reg false [⟨some 2, .as (.c (.lit (.bool false))), none⟩] [2]) (.seq (.reg false [⟨some 3, .as (.c (.lit (.int .i64 1048576))), none⟩] []) (.seq (.reg false [⟨some 7, .mv (.t 0), none⟩, ⟨some 8, .mv (.t 3), none⟩, ⟨some 9, .call false 20 [(.t 7), (.t 8)], none⟩, ⟨some 3, .as (.t 9), none⟩] [7, 8, 9]) (.seq (.seq (.reg false [⟨some 10, .mv (.t 3), none⟩, ⟨some 11, .bin .lss 0 (.t 10) (.c (.lit (.int .i64 0))), none⟩] [10]) (.cond (.t 11) (.seq (.reg false [⟨some 2, .as (.c (.lit (.bool true))), none⟩] []) (.ret)) (.skip))) (.seq (.reg false [⟨some 12, .mv (.t 0), none⟩, ⟨some 13, .call false 22 [(.t 12)], none⟩, ⟨some 14, .call false 21 [(.t 13)], none⟩, ⟨some 4, .as (.t 14), none⟩] [12, 13, 14]) (.seq (.reg false [⟨some 15, .mv (.t 0), none⟩, ⟨some 16, .call false 22 [(.t 15)], none⟩, ⟨some 5, .as (.t 16), none⟩] [15, 16]) (.seq (.reg false [⟨some 17, .mv (.t 5), none⟩, ⟨some 18, .call false 23 [(.t 17)], none⟩, ⟨some 6, .as (.t 18), none⟩] [17, 18]) (.seq (.seq (.reg false [⟨some 19, .mv (.t 6), none⟩, ⟨some 20, .mv (.t 4), none⟩, ⟨some 21, .bin .neq 2 (.t 19) (.t 20), none⟩] [19, 20]) (.cond (.t 21) (.seq (.reg false [⟨some 2, .as (.c (.lit (.bool false))), none⟩] []) (.ret)) (.skip))) (.seq (.seq (.reg false [⟨some 22, .mv (.t 5), none⟩, ⟨some 23, .mv (.t 0), none⟩, ⟨some 24, .call false 22 [(.t 23)], none⟩, ⟨some 25, .call false 24 [(.t 22), (.t 24)], none⟩, ⟨some 26, .un .not (.t 25), none⟩] [22, 23, 24, 25]) (.cond (.t 26) (.seq (.reg false [⟨some 2, .as (.c (.lit (.bool false))), none⟩] []) (.ret)) (.skip))) (.seq (.reg false [⟨some 2, .as (.c (.lit (.bool true))), none⟩] []) (.ret))))))))))
theorem Nd.small_of (x : Nd) (l : Int) (h : 0 ≤ l) (h2 : l ≤ 1048576) (hs : 0 ≤ x.sz l) : x.small := by
  unfold Nd.sz at hs
  obtain ⟨l1, e1⟩ : ∃ y, l - x.name.size = y := ⟨_, rfl⟩
  rw [e1] at hs
  by_cases c1 : l1 < 0
  · rw [szIf_neg c1] at hs; omega
  rw [szIf_pos c1] at hs
  obtain ⟨l2, e2⟩ : ∃ y, l1 - x.range.size = y := ⟨_, rfl⟩
  rw [e2] at hs
  by_cases c2 : l2 < 0
  · rw [szIf_neg c2] at hs; omega
  rw [szIf_pos c2] at hs
  exact ⟨by omega, by omega⟩
theorem En.small_of (x : En) (l : Int) (h : 0 ≤ l) (h2 : l ≤ 1048576) (hs : 0 ≤ x.sz l) : x.small := by
  unfold En.sz at hs
  obtain ⟨l1, e1⟩ : ∃ y, szL Nd.sz x.heads l = y := ⟨_, rfl⟩
  rw [e1] at hs
  by_cases c1 : l1 < 0
  · rw [szIf_neg c1] at hs; omega
  rw [szIf_pos c1] at hs
  have b1 := szL_bnd (f := Nd.sz) (xs := x.heads) (l := l) Nd.sz_le (by omega)
  have k1 : l1 ≤ l := by rw [← e1]; exact szL_le (fun x _ l h => x.sz_le l h) (by omega)
  obtain ⟨l2, e2⟩ : ∃ y, l1 - x.version.size = y := ⟨_, rfl⟩
  rw [e2] at hs
  by_cases c2 : l2 < 0
  · rw [szIf_neg c2] at hs; omega
  rw [szIf_pos c2] at hs
  obtain ⟨l3, e3⟩ : ∃ y, l2 - x.resolved.size = y := ⟨_, rfl⟩
  rw [e3] at hs
  by_cases c3 : l3 < 0
  · rw [szIf_neg c3] at hs; omega
  rw [szIf_pos c3] at hs
  obtain ⟨l4, e4⟩ : ∃ y, l3 - x.integrity.size = y := ⟨_, rfl⟩
  rw [e4] at hs
  by_cases c4 : l4 < 0
  · rw [szIf_neg c4] at hs; omega
  rw [szIf_pos c4] at hs
  obtain ⟨l5, e5⟩ : ∃ y, szL Nd.sz x.needs l4 = y := ⟨_, rfl⟩
  rw [e5] at hs
  by_cases c5 : l5 < 0
  · rw [szIf_neg c5] at hs; omega
  rw [szIf_pos c5] at hs
  have b5 := szL_bnd (f := Nd.sz) (xs := x.needs) (l := l4) Nd.sz_le (by omega)
  exact ⟨⟨by omega, fun y hy => by obtain ⟨m, m1, m2, m3⟩ := b1.2 y hy; exact y.small_of m m1 (by omega) m3⟩, by omega, by omega, by omega, by omega, fun y hy => by obtain ⟨m, m1, m2, m3⟩ := b5.2 y hy; exact y.small_of m m1 (by omega) m3⟩
theorem Ens.small_of {l : List En} (h : 0 ≤ szL En.sz l 1048576) : l.length ≤ 1048576 ∧ ∀ e ∈ l, e.small := by
  have b := szL_bnd (f := En.sz) (xs := l) (l := 1048576) En.sz_le h
  exact ⟨by omega, fun e he => by obtain ⟨m, m1, m2, m3⟩ := b.2 e he; exact e.small_of m m1 m2 m3⟩
theorem Nd.eq_refl (x : Nd) : x.eq x = true := by simp [Nd.eq]
theorem En.eq_refl (x : En) : x.eq x = true := by simp [En.eq, all2_same Nd.eq_refl]
section
variable {E : Env} (hE : E.P = Go.Proofs.Tryz.prog) (hZ : ∀ w, E.K w → KZ w)
include hE hZ
end
end Go.Proofs.YticockdhfglolaaGreatDoor.Vm
namespace Go.Proofs.YticockdhfglolaaGreatDoor.Vm
open Go Go.RowKit
set_option linter.unusedVariables false
set_option linter.unusedSimpArgs false
def v149 : VC := .seq (.reg false [⟨some 2, .as (.c (.lit (.string (by8 "")))), none⟩] [2]) (.seq (.reg false [⟨some 5, .bsl 1 [], none⟩, ⟨some 3, .as (.t 5), none⟩] [5]) (.seq (.seq (.reg false [⟨some 4, .as (.c (.lit (.int .i64 0))), none⟩] []) (.block 0 (.loop (.seq (.seq (.reg false [⟨some 6, .mv (.t 4), none⟩, ⟨some 7, .mv (.t 0), none⟩, ⟨some 8, .len true (.t 7), none⟩, ⟨some 9, .bin .lss 0 (.t 6) (.t 8), none⟩] [6, 7, 8]) (.cond (.t 9) (.skip) (.exit 0))) (.seq (.block 1 (.reg true [⟨some 12, .mv (.t 3), none⟩, ⟨some 13, .mv (.t 0), none⟩, ⟨some 14, .mv (.t 4), none⟩, ⟨some 15, .idx (.t 13) (.t 14), none⟩, ⟨some 16, .bin .quo 0 (.t 15) (.c (.lit (.int .u8 16))), none⟩, ⟨some 17, .idx (.c (.lit (.string (by8 "0123456789abcdef")))) (.t 16), none⟩, ⟨some 18, .mv (.t 0), none⟩, ⟨some 19, .mv (.t 4), none⟩, ⟨some 20, .idx (.t 18) (.t 19), none⟩, ⟨some 21, .bin .rem 0 (.t 20) (.c (.lit (.int .u8 16))), none⟩, ⟨some 22, .idx (.c (.lit (.string (by8 "0123456789abcdef")))) (.t 21), none⟩, ⟨some 23, .bsl 1 [(.t 17), (.t 22)], none⟩, ⟨some 24, .app 1 1 (.t 12) (.t 23), none⟩, ⟨some 3, .as (.t 24), none⟩] [12, 13, 14, 15, 16, 17, 18, 19, 20, 21, 22, 23, 24])) (.reg false [⟨some 10, .mv (.t 4), none⟩, ⟨some 11, .bin .add 0 (.t 10) (.c (.lit (.int .i64 1))), none⟩, ⟨some 4, .as (.t 11), none⟩] [10, 11])))))) (.seq (.reg false [⟨some 25, .mv (.t 3), none⟩, ⟨some 26, .b2s (.t 25), none⟩, ⟨some 2, .as (.t 26), none⟩] [25, 26]) (.ret))))
theorem is149 : Is Go.Proofs.Tryz.prog 149 27 v149 [.t 2] := ⟨Go.Proofs.Tryz.f149, dl [(0, [2]), (1, [5]), (3, [6, 7, 8]), (5, [12, 13, 14, 15, 16, 17, 18, 19, 20, 21, 22, 23, 24]), (4, [10, 11]), (6, [25, 26])], Go.Proofs.Tryz.func149, by kernel_rfl, by kernel_rfl, by kernel_rfl, by kernel_rfl⟩
def v94 : VC := .seq (.reg false [⟨some 2, .as (.c (.lit (.string (by8 "")))), none⟩] [2]) (.seq (.reg false [⟨some 5, .bsl 1 [(.c (.lit (.int .u8 34)))], none⟩, ⟨some 3, .as (.t 5), none⟩] [5]) (.seq (.seq (.reg false [⟨some 4, .as (.c (.lit (.int .i64 0))), none⟩] []) (.block 0 (.loop (.seq (.seq (.reg false [⟨some 6, .mv (.t 4), none⟩, ⟨some 7, .mv (.t 0), none⟩, ⟨some 8, .len true (.t 7), none⟩, ⟨some 9, .bin .lss 0 (.t 6) (.t 8), none⟩] [6, 7, 8]) (.cond (.t 9) (.skip) (.exit 0))) (.seq (.block 1 (.block 2 (.seq (.reg false [⟨some 19, .mv (.t 0), none⟩, ⟨some 20, .mv (.t 4), none⟩, ⟨some 21, .idx (.t 19) (.t 20), none⟩, ⟨some 22, .bin .eql 0 (.t 21) (.c (.lit (.int .u8 34))), none⟩, ⟨some 23, .mv (.t 22), none⟩, ⟨some 24, .mv (.t 0), (some (23, false))⟩, ⟨some 25, .mv (.t 4), (some (23, false))⟩, ⟨some 26, .idx (.t 24) (.t 25), (some (23, false))⟩, ⟨some 27, .bin .eql 0 (.t 26) (.c (.lit (.int .u8 92))), (some (23, false))⟩, ⟨some 28, .pick (.t 23) (.c (.lit (.bool true))) (.t 27), none⟩, ⟨some 18, .as (.t 28), none⟩] [19, 20, 21, 22, 23, 24, 25, 26, 27, 28]) (.cond (.t 18) (.reg false [⟨some 29, .mv (.t 3), none⟩, ⟨some 30, .mv (.t 0), none⟩, ⟨some 31, .mv (.t 4), none⟩, ⟨some 32, .idx (.t 30) (.t 31), none⟩, ⟨some 33, .bsl 1 [(.c (.lit (.int .u8 92))), (.t 32)], none⟩, ⟨some 34, .app 1 1 (.t 29) (.t 33), none⟩, ⟨some 3, .as (.t 34), none⟩] [29, 30, 31, 32, 33, 34]) (.seq (.reg false [⟨some 36, .mv (.t 0), none⟩, ⟨some 37, .mv (.t 4), none⟩, ⟨some 38, .idx (.t 36) (.t 37), none⟩, ⟨some 39, .bin .eql 0 (.t 38) (.c (.lit (.int .u8 10))), none⟩, ⟨some 35, .as (.t 39), none⟩] [36, 37, 38, 39]) (.cond (.t 35) (.reg false [⟨some 40, .mv (.t 3), none⟩, ⟨some 41, .bsl 1 [(.c (.lit (.int .u8 92))), (.c (.lit (.int .u8 110)))], none⟩, ⟨some 42, .app 1 1 (.t 40) (.t 41), none⟩, ⟨some 3, .as (.t 42), none⟩] [40, 41, 42]) (.seq (.reg false [⟨some 44, .mv (.t 0), none⟩, ⟨some 45, .mv (.t 4), none⟩, ⟨some 46, .idx (.t 44) (.t 45), none⟩, ⟨some 47, .bin .lss 0 (.t 46) (.c (.lit (.int .u8 32))), none⟩, ⟨some 48, .mv (.t 47), none⟩, ⟨some 49, .mv (.t 0), (some (48, false))⟩, ⟨some 50, .mv (.t 4), (some (48, false))⟩, ⟨some 51, .idx (.t 49) (.t 50), (some (48, false))⟩, ⟨some 52, .bin .gtr 0 (.t 51) (.c (.lit (.int .u8 126))), (some (48, false))⟩, ⟨some 53, .pick (.t 48) (.c (.lit (.bool true))) (.t 52), none⟩, ⟨some 43, .as (.t 53), none⟩] [44, 45, 46, 47, 48, 49, 50, 51, 52, 53]) (.cond (.t 43) (.seq (.reg false [⟨some 54, .mv (.t 3), none⟩, ⟨some 55, .bsl 1 [(.c (.lit (.int .u8 92))), (.c (.lit (.int .u8 120)))], none⟩, ⟨some 56, .app 1 1 (.t 54) (.t 55), none⟩, ⟨some 3, .as (.t 56), none⟩] [54, 55, 56]) (.reg false [⟨some 57, .mv (.t 3), none⟩, ⟨some 58, .mv (.t 0), none⟩, ⟨some 59, .mv (.t 4), none⟩, ⟨some 60, .mv (.t 4), none⟩, ⟨some 61, .bin .add 0 (.t 60) (.c (.lit (.int .i64 1))), none⟩, ⟨some 62, .slS (.t 58) (some (.t 59)) (some (.t 61)), none⟩, ⟨some 63, .call false 149 [(.t 62)], none⟩, ⟨some 64, .apS (.t 57) (.t 63), none⟩, ⟨some 3, .as (.t 64), none⟩] [57, 58, 59, 60, 61, 62, 63, 64])) (.reg false [⟨some 12, .mv (.t 3), none⟩, ⟨some 13, .mv (.t 0), none⟩, ⟨some 14, .mv (.t 4), none⟩, ⟨some 15, .idx (.t 13) (.t 14), none⟩, ⟨some 16, .bsl 1 [(.t 15)], none⟩, ⟨some 17, .app 1 1 (.t 12) (.t 16), none⟩, ⟨some 3, .as (.t 17), none⟩] [12, 13, 14, 15, 16, 17]))))))))) (.reg false [⟨some 10, .mv (.t 4), none⟩, ⟨some 11, .bin .add 0 (.t 10) (.c (.lit (.int .i64 1))), none⟩, ⟨some 4, .as (.t 11), none⟩] [10, 11])))))) (.seq (.reg false [⟨some 65, .mv (.t 3), none⟩, ⟨some 66, .bsl 1 [(.c (.lit (.int .u8 34)))], none⟩, ⟨some 67, .app 1 1 (.t 65) (.t 66), none⟩, ⟨some 68, .b2s (.t 67), none⟩, ⟨some 2, .as (.t 68), none⟩] [65, 66, 67, 68]) (.ret))))
theorem is94 : Is Go.Proofs.Tryz.prog 94 69 v94 [.t 2] := ⟨Go.Proofs.Tryz.f94, dl [(0, [2]), (1, [5]), (3, [6, 7, 8]), (6, [19, 20, 21, 22, 23, 24, 25, 26, 27, 28]), (8, [36, 37, 38, 39]), (10, [44, 45, 46, 47, 48, 49, 50, 51, 52, 53]), (5, [12, 13, 14, 15, 16, 17]), (11, [54, 55, 56]), (12, [57, 58, 59, 60, 61, 62, 63, 64]), (9, [40, 41, 42]), (7, [29, 30, 31, 32, 33, 34]), (4, [10, 11]), (13, [65, 66, 67, 68])], Go.Proofs.Tryz.func94, by kernel_rfl, by kernel_rfl, by kernel_rfl, by kernel_rfl⟩
def v55 : VC := .seq (.reg false [⟨some 2, .as (.c (.lit (.string (by8 "")))), none⟩] [2]) (.seq (.reg false [⟨some 3, .as (.c (.lit (.string ⟨#[34]⟩))), none⟩] []) (.seq (.seq (.reg false [⟨some 6, .mv (.t 0), none⟩, ⟨some 7, .len true (.t 6), none⟩, ⟨some 8, .mv (.c (.lit (.int .i64 0))), none⟩] [6]) (.block 0 (.loop (.seq (.reg false [⟨some 9, .bin .lss 0 (.t 8) (.t 7), none⟩] []) (.seq (.cond (.t 9) (.skip) (.exit 0)) (.seq (.block 1 (.seq (.reg false [⟨some 10, .mv (.t 8), none⟩, ⟨some 4, .as (.t 10), none⟩] [10]) (.seq (.reg false [⟨some 11, .mv (.t 0), none⟩, ⟨some 12, .mv (.t 4), none⟩, ⟨some 13, .idx (.t 11) (.t 12), none⟩, ⟨some 5, .as (.t 13), none⟩] [11, 12, 13]) (.block 2 (.seq (.reg false [⟨some 22, .mv (.t 5), none⟩, ⟨some 23, .bin .eql 0 (.t 22) (.c (.lit (.int .u8 34))), none⟩, ⟨some 24, .mv (.t 23), none⟩, ⟨some 25, .mv (.t 5), (some (24, false))⟩, ⟨some 26, .bin .eql 0 (.t 25) (.c (.lit (.int .u8 92))), (some (24, false))⟩, ⟨some 27, .pick (.t 24) (.c (.lit (.bool true))) (.t 26), none⟩, ⟨some 21, .as (.t 27), none⟩] [22, 23, 24, 25, 26, 27]) (.cond (.t 21) (.reg false [⟨some 28, .mv (.t 3), none⟩, ⟨some 29, .mv (.t 0), none⟩, ⟨some 30, .mv (.t 4), none⟩, ⟨some 31, .mv (.t 4), none⟩, ⟨some 32, .bin .add 0 (.t 31) (.c (.lit (.int .i64 1))), none⟩, ⟨some 33, .slS (.t 29) (some (.t 30)) (some (.t 32)), none⟩, ⟨some 34, .bin .add 0 (.c (.lit (.string ⟨#[92]⟩))) (.t 33), none⟩, ⟨some 35, .bin .add 0 (.t 28) (.t 34), none⟩, ⟨some 3, .as (.t 35), none⟩] [28, 29, 30, 31, 32, 33, 34, 35]) (.seq (.reg false [⟨some 37, .mv (.t 5), none⟩, ⟨some 38, .bin .eql 0 (.t 37) (.c (.lit (.int .u8 10))), none⟩, ⟨some 36, .as (.t 38), none⟩] [37, 38]) (.cond (.t 36) (.reg false [⟨some 39, .mv (.t 3), none⟩, ⟨some 40, .bin .add 0 (.t 39) (.c (.lit (.string ⟨#[92, 110]⟩))), none⟩, ⟨some 3, .as (.t 40), none⟩] [39, 40]) (.seq (.reg false [⟨some 42, .mv (.t 5), none⟩, ⟨some 43, .bin .lss 0 (.t 42) (.c (.lit (.int .u8 32))), none⟩, ⟨some 44, .mv (.t 43), none⟩, ⟨some 45, .mv (.t 5), (some (44, false))⟩, ⟨some 46, .bin .geq 0 (.t 45) (.c (.lit (.int .u8 127))), (some (44, false))⟩, ⟨some 47, .pick (.t 44) (.c (.lit (.bool true))) (.t 46), none⟩, ⟨some 41, .as (.t 47), none⟩] [42, 43, 44, 45, 46, 47]) (.cond (.t 41) (.reg false [⟨some 48, .mv (.t 3), none⟩, ⟨some 49, .mv (.t 0), none⟩, ⟨some 50, .mv (.t 4), none⟩, ⟨some 51, .mv (.t 4), none⟩, ⟨some 52, .bin .add 0 (.t 51) (.c (.lit (.int .i64 1))), none⟩, ⟨some 53, .slS (.t 49) (some (.t 50)) (some (.t 52)), none⟩, ⟨some 54, .call false 98 [(.t 53)], none⟩, ⟨some 55, .bin .add 0 (.c (.lit (.string ⟨#[92, 120]⟩))) (.t 54), none⟩, ⟨some 56, .bin .add 0 (.t 48) (.t 55), none⟩, ⟨some 3, .as (.t 56), none⟩] [48, 49, 50, 51, 52, 53, 54, 55, 56]) (.reg false [⟨some 14, .mv (.t 3), none⟩, ⟨some 15, .mv (.t 0), none⟩, ⟨some 16, .mv (.t 4), none⟩, ⟨some 17, .mv (.t 4), none⟩, ⟨some 18, .bin .add 0 (.t 17) (.c (.lit (.int .i64 1))), none⟩, ⟨some 19, .slS (.t 15) (some (.t 16)) (some (.t 18)), none⟩, ⟨some 20, .bin .add 0 (.t 14) (.t 19), none⟩, ⟨some 3, .as (.t 20), none⟩] [14, 15, 16, 17, 18, 19, 20]))))))))))) (.reg false [⟨some 57, .bin .add 0 (.t 8) (.c (.lit (.int .i64 1))), none⟩, ⟨some 8, .mv (.t 57), none⟩] [57]))))))) (.seq (.reg false [⟨some 58, .mv (.t 3), none⟩, ⟨some 59, .bin .add 0 (.t 58) (.c (.lit (.string ⟨#[34]⟩))), none⟩, ⟨some 2, .as (.t 59), none⟩] [58, 59]) (.ret))))
theorem is55 : Is Go.Proofs.Tryz.prog 55 60 v55 [.t 2] := ⟨Go.Proofs.Tryz.f55, dl [(0, [2]), (2, [6]), (4, [10]), (5, [11, 12, 13]), (7, [22, 23, 24, 25, 26, 27]), (9, [37, 38]), (11, [42, 43, 44, 45, 46, 47]), (6, [14, 15, 16, 17, 18, 19, 20]), (12, [48, 49, 50, 51, 52, 53, 54, 55, 56]), (10, [39, 40]), (8, [28, 29, 30, 31, 32, 33, 34, 35]), (13, [57]), (14, [58, 59])], Go.Proofs.Tryz.func55, by kernel_rfl, by kernel_rfl, by kernel_rfl, by kernel_rfl⟩
def escL (u : UInt8) : List UInt8 := if u.toNat = 34 ∨ u.toNat = 92 then [92, u] else if u.toNat = 10 then [92, 110] else if u.toNat < 32 ∨ 126 < u.toNat then [92, 120, hexL (u.toNat / 16), hexL (u.toNat % 16)] else [u]
def qtL (l : List UInt8) : List UInt8 := (l.map escL).flatten
/-- a text, quoted -/
def qt (s : ByteArray) : ByteArray := ⟨(34 :: (qtL s.data.toList ++ [34])).toArray⟩
/-- its beginning -/
def qtA (s : ByteArray) (i : Nat) : ByteArray := ⟨(34 :: qtL (s.data.toList.take i)).toArray⟩
theorem escL_len (u : UInt8) : (escL u).length ≤ 4 := by
  unfold escL
  split
  · simp
  · split
    · simp
    · split <;> simp
theorem qtL_next {s : ByteArray} {i : Nat} (h : i < s.size) : qtL (s.data.toList.take (i + 1)) = qtL (s.data.toList.take i) ++ escL (bt s i) := by
  rw [List.take_add_one, bt_get h]
  simp [qtL]
theorem qtL_len (l : List UInt8) : (qtL l).length ≤ 4 * l.length := by
  induction l with
  | nil => simp [qtL]
  | cons u l ih =>
    have := escL_len u
    simp only [qtL, List.map_cons, List.flatten_cons, List.length_append, List.length_cons] at ih ⊢
    omega
theorem qt_size (s : ByteArray) : (qt s).size ≤ 4 * s.size + 2 := by
  have h := qtL_len s.data.toList
  have e : (qt s).size = (34 :: (qtL s.data.toList ++ [34])).length := List.size_toArray
  have e2 : s.data.toList.length = s.size := by simp
  rw [e]; simp only [List.length_cons, List.length_append, List.length_nil]; omega
theorem qtA_size (s : ByteArray) (i : Nat) (h : i ≤ s.size) : (qtA s i).size ≤ 4 * i + 1 := by
  have h1 := qtL_len (s.data.toList.take i)
  have e : (qtA s i).size = (34 :: qtL (s.data.toList.take i)).length := List.size_toArray
  have e2 : (s.data.toList.take i).length = i := by simp; omega
  rw [e]; simp only [List.length_cons]; omega
theorem qtA_next {s : ByteArray} {i : Nat} (h : i < s.size) : qtA s (i + 1) = qtA s i ++ ⟨(escL (bt s i)).toArray⟩ := by
  apply ba_ext
  simp only [qtA, qtL_next h]
  simp
theorem qtA_all (s : ByteArray) : qtA s s.size ++ ⟨#[34]⟩ = qt s := by
  have e : s.data.toList.take s.size = s.data.toList := List.take_of_length_le (by simp)
  apply ba_ext
  simp [qtA, qt, e]
theorem one_ext {s : ByteArray} {i : Nat} (h : i < s.size) : s.extract i (i + 1) = one (bt s i) := by
  have := ext_one (s := s) h
  exact this
section
variable {E : Env} (hE : E.P = Go.Proofs.Tryz.prog)
include hE
set_option maxHeartbeats 1000000 in
theorem specHex_fx (s : ByteArray) (hs : s.size ≤ 1099511627) : Fx E 149 [] [.lit (.string s)] [] (.lit (.string (hexS s))) := by
  refine (is149.to hE).fx [] (by simp) rfl rfl ?_
  simp [v149]
  refine X_loop (τ := Nat) (fun i => ⟨[(0, .lit (.string s)), (3, .sl ⟨.cl 320, true⟩ 1 ((hexLs (s.data.toList.take i)).map fun b : UInt8 => .lit (.int .u8 b.toNat))), (4, .lit (.int .i64 i))], []⟩) (fun i => i ≤ s.size) (fun i => s.size - i) 0 (by simp) (Wk.both (by simp [wkL, wkV.same, hexLs, frA.frL]) trivial) ?_
  rintro i hi
  simp
  have hl := hexLs_len (s.data.toList.take i)
  have hl2 : (s.data.toList.take i).length ≤ s.size := by simp; omega
  by_cases hlt : i < s.size
  · have hn := hexLs_next hlt
    have hu := (bt s i).toNat_lt
    obtain ⟨d, hd⟩ : ∃ d, (bt s i).toNat / 16 = d := ⟨_, rfl⟩
    obtain ⟨m, hm⟩ : ∃ m, (bt s i).toNat % 16 = m := ⟨_, rfl⟩
    have h16 : (by8 "0123456789abcdef").size = 16 := by decide +kernel
    have e1 : IntKind.u8.wrap (((bt s i).toNat : Int) / 16) = (d : Int) := by rw [← hd, IntKind.wrap_u8]; omega
    have e2 : ((bt s i).toNat : Int).tmod 16 = (m : Int) := by rw [← hm]; exact tmodN _ 16
    rw [hd, hm] at hn
    have hd1 : (d : Int) < 16 := by omega
    have hm1 : (m : Int) < 16 := by omega
    simp [hlt, h16, hd1, hm1, e1, e2, okC, frA, frA.frL, AS.dem, mapV, dem, dem.demL]
    refine ⟨by omega, i + 1, by omega, by omega, Wk.both (by rw [hn]; simp [wkL, wkV.same, hexL]; rw [wrapN (by omega)]; exact wkV.same _) trivial⟩
  · obtain rfl : i = s.size := by omega
    simp
    rw [show List.take s.size s.data.toList = s.data.toList from List.take_of_length_le (by simp)]
    refine Xa_b2s (l := hexLs s.data.toList) rfl ?_
    simp
    exact Fin_ret rfl rfl
set_option maxHeartbeats 2000000 in
theorem specQuote_fx (s : ByteArray) (hs : s.size ≤ 1099511627) : Fx E 94 [] [.lit (.string s)] [] (.lit (.string (qt s))) := by
  refine (is94.to hE).fx [] (by simp) rfl rfl ?_
  simp [v94, okC, frA, frA.frL]
  refine X_loop (τ := Nat) (fun i => ⟨[(0, .lit (.string s)), (3, .sl ⟨.cl 320, true⟩ 1 ((34 :: qtL (s.data.toList.take i)).map fun b : UInt8 => .lit (.int .u8 b.toNat))), (4, .lit (.int .i64 i))], []⟩) (fun i => i ≤ s.size) (fun i => s.size - i) 0 (by simp) (Wk.both (by simp [wkL, wkV.same, qtL]) trivial) ?_
  rintro i hi
  simp
  have hl := qtL_len (s.data.toList.take i)
  have hl2 : (s.data.toList.take i).length ≤ s.size := by simp; omega
  by_cases hlt : i < s.size
  · have hn := qtL_next hlt
    have hu := (bt s i).toNat_lt
    simp [hlt]
    by_cases c1 : (bt s i).toNat = 34
    · have c1' : ((bt s i).toNat : Int) = 34 := by omega
      have he : escL (bt s i) = [92, bt s i] := if_pos (.inl c1)
      simp [c1', hlt, okC, frA, frA.frL, AS.dem, mapV, dem, dem.demL]
      refine ⟨by omega, i + 1, by omega, by omega, Wk.both (by rw [hn, he]; simp [wkL, wkV.same, c1']; rw [wrapN (by omega)]; exact wkV.same _) trivial⟩
    have c1' : ¬ ((bt s i).toNat : Int) = 34 := by omega
    simp [c1', hlt]
    by_cases c2 : (bt s i).toNat = 92
    · have c2' : ((bt s i).toNat : Int) = 92 := by omega
      have he : escL (bt s i) = [92, bt s i] := if_pos (.inr c2)
      simp [c2', hlt, okC, frA, frA.frL, AS.dem, mapV, dem, dem.demL]
      refine ⟨by omega, i + 1, by omega, by omega, Wk.both (by rw [hn, he]; simp [wkL, wkV.same, c2']; rw [wrapN (by omega)]; exact wkV.same _) trivial⟩
    have c2' : ¬ ((bt s i).toNat : Int) = 92 := by omega
    have h12 : ¬ ((bt s i).toNat = 34 ∨ (bt s i).toNat = 92) := by omega
    simp [c2', hlt]
    by_cases c3 : (bt s i).toNat = 10
    · have c3' : ((bt s i).toNat : Int) = 10 := by omega
      have he : escL (bt s i) = [92, 110] := by rw [escL, if_neg h12, if_pos c3]
      simp [c3', hlt, okC, frA, frA.frL, AS.dem, mapV, dem, dem.demL]
      refine ⟨by omega, i + 1, by omega, by omega, Wk.both (by rw [hn, he]; simp [wkL, wkV.same]; rw [wrapN (by omega)]; exact wkV.same _) trivial⟩
    have c3' : ¬ ((bt s i).toNat : Int) = 10 := by omega
    simp [c3', hlt]
    have hex := specHex_fx hE (one (bt s i)) (by rw [one_size]; omega)
    rw [← one_ext hlt] at hex
    have hxe : bytesV (hexS (s.extract i (i + 1))) = [.lit (.int .u8 (hexL ((bt s i).toNat / 16)).toNat), .lit (.int .u8 (hexL ((bt s i).toNat % 16)).toNat)] := by rw [one_ext hlt]; rfl
    have hxz : (hexS (s.extract i (i + 1))).size = 2 := by rw [one_ext hlt]; rfl
    by_cases c4 : (bt s i).toNat < 32
    · have c4' : ((bt s i).toNat : Int) < 32 := by omega
      have he : escL (bt s i) = [92, 120, hexL ((bt s i).toNat / 16), hexL ((bt s i).toNat % 16)] := by rw [escL, if_neg h12, if_neg c3, if_pos (.inl c4)]
      simp [c4', hlt, okC, frA, frA.frL, AS.dem, mapV, dem, dem.demL]
      refine ⟨by omega, ?_⟩
      rw [wrapN (by omega)]
      refine wh_ll (l := i) (h := (i + 1 : Nat)) (k := .i64) (k' := .i64) rfl rfl (by omega) (by omega) (by omega) ?_
      simp
      refine vcall_go hex (by simp) (by simp) (by simp) (by simp) ?_
      simp [hxe, hxz, AS.dem, mapV, dem, dem.demL]
      refine ⟨by omega, i + 1, by omega, by omega, Wk.both (by rw [hn, he]; simp [wkL, wkV.same]; rw [wrapN (by omega)]; exact wkV.same _) trivial⟩
    have c4' : ¬ ((bt s i).toNat : Int) < 32 := by omega
    simp [c4', hlt]
    by_cases c5 : 126 < (bt s i).toNat
    · have c5' : (126 : Int) < ((bt s i).toNat : Int) := by omega
      have he : escL (bt s i) = [92, 120, hexL ((bt s i).toNat / 16), hexL ((bt s i).toNat % 16)] := by rw [escL, if_neg h12, if_neg c3, if_pos (.inr c5)]
      simp [c5', hlt, okC, frA, frA.frL, AS.dem, mapV, dem, dem.demL]
      refine ⟨by omega, ?_⟩
      rw [wrapN (by omega)]
      refine wh_ll (l := i) (h := (i + 1 : Nat)) (k := .i64) (k' := .i64) rfl rfl (by omega) (by omega) (by omega) ?_
      simp
      refine vcall_go hex (by simp) (by simp) (by simp) (by simp) ?_
      simp [hxe, hxz, AS.dem, mapV, dem, dem.demL]
      refine ⟨by omega, i + 1, by omega, by omega, Wk.both (by rw [hn, he]; simp [wkL, wkV.same]; rw [wrapN (by omega)]; exact wkV.same _) trivial⟩
    have c5' : ¬ (126 : Int) < ((bt s i).toNat : Int) := by omega
    have he : escL (bt s i) = [bt s i] := by rw [escL, if_neg h12, if_neg c3, if_neg (by omega)]
    simp [c5', hlt, okC, frA, frA.frL, AS.dem, mapV, dem, dem.demL]
    refine ⟨by omega, i + 1, by omega, by omega, Wk.both (by rw [hn, he]; simp [wkL, wkV.same]; rw [wrapN (by omega)]; exact wkV.same _) trivial⟩
  · obtain rfl : i = s.size := by omega
    simp [okC, frA, frA.frL, AS.dem, mapV, dem, dem.demL]
    rw [show List.take s.size s.data.toList = s.data.toList from List.take_of_length_le (by simp)] at hl ⊢
    refine ⟨by simp at hl; omega, ?_⟩
    refine Xa_b2s (m := ⟨.cl 320, true⟩) (l := 34 :: (qtL s.data.toList ++ [34])) (by simp) ?_
    simp
    exact Fin_ret rfl rfl
set_option maxHeartbeats 2000000 in
theorem implQuote_fx (s : ByteArray) (hs : s.size ≤ 1099511627) : Fx E 55 [] [.lit (.string s)] [] (.lit (.string (qt s))) := by
  refine (is55.to hE).fx [] (by simp) rfl rfl ?_
  simp [v55]
  refine X_loop (τ := Nat) (fun i => ⟨[(0, .lit (.string s)), (3, .lit (.string (qtA s i))), (7, .lit (.int .i64 s.size)), (8, .lit (.int .i64 i))], []⟩) (fun i => i ≤ s.size) (fun i => s.size - i) 0 (by simp) (Wk.both (by simp [wkL, wkV.same, qtA, qtL]) trivial) ?_
  rintro i hi
  simp
  have hl := qtA_size s i hi
  by_cases hlt : i < s.size
  · have hn := qtA_next hlt
    have hu := (bt s i).toNat_lt
    have hex := implHex_fx hE (one (bt s i)) (by rw [one_size]; omega)
    rw [← one_ext hlt] at hex
    have hxz : (hexS (s.extract i (i + 1))).size = 2 := by rw [one_ext hlt]; rfl
    have hxo := one_ext hlt
    have hos := one_size (bt s i)
    have cut : ∀ (st : AS) (lo hi : Od) (K : Nat × Nat → Prop), st.val lo = .lit (.int .i64 i) → st.val hi = .lit (.int .i64 ((i + 1 : Nat) : Int)) → K (i, i + 1) → wh (cutB st s.size (some lo) (some hi)) K .mk := by
      intro st lo hi K h1 h2 hK
      exact wh_ll (l := i) (h := ((i + 1 : Nat) : Int)) (k := .i64) (k' := .i64) h1 h2 (by omega) (by omega) (by omega) (by simpa using hK)
    have z1 : (⟨#[92]⟩ : ByteArray).size = 1 := rfl
    have z2 : (⟨#[92, 110]⟩ : ByteArray).size = 2 := rfl
    have z3 : (⟨#[92, 120]⟩ : ByteArray).size = 2 := rfl
    simp [hlt]
    have back : ∀ (b : Bool), (b = true → (bt s i).toNat = 34 ∨ (bt s i).toNat = 92) → True := fun _ _ => trivial
    by_cases c1 : (bt s i).toNat = 34
    · have c1' : ((bt s i).toNat : Int) = 34 := by omega
      have hq : (⟨(escL (bt s i)).toArray⟩ : ByteArray) = ⟨#[92]⟩ ++ s.extract i (i + 1) := by
        rw [show escL (bt s i) = [92, bt s i] from if_pos (.inl c1), hxo]; rfl
      simp [c1']
      rw [wrapN (by omega)]
      refine cut _ _ _ _ rfl rfl ?_
      simp
      refine ⟨by omega, by omega, i + 1, by omega, by omega, Wk.both (by rw [hn, hq]; simp [wkL, wkV.same]; rw [wrapN (by omega)]; exact wkV.same _) trivial⟩
    have c1' : ¬ ((bt s i).toNat : Int) = 34 := by omega
    simp [c1']
    by_cases c2 : (bt s i).toNat = 92
    · have c2' : ((bt s i).toNat : Int) = 92 := by omega
      have hq : (⟨(escL (bt s i)).toArray⟩ : ByteArray) = ⟨#[92]⟩ ++ s.extract i (i + 1) := by
        rw [show escL (bt s i) = [92, bt s i] from if_pos (.inr c2), hxo]; rfl
      simp [c2']
      rw [wrapN (by omega)]
      refine cut _ _ _ _ rfl rfl ?_
      simp
      refine ⟨by omega, by omega, i + 1, by omega, by omega, Wk.both (by rw [hn, hq]; simp [wkL, wkV.same]; rw [wrapN (by omega)]; exact wkV.same _) trivial⟩
    have c2' : ¬ ((bt s i).toNat : Int) = 92 := by omega
    have h12 : ¬ ((bt s i).toNat = 34 ∨ (bt s i).toNat = 92) := by omega
    simp [c2']
    by_cases c3 : (bt s i).toNat = 10
    · have c3' : ((bt s i).toNat : Int) = 10 := by omega
      have hq : (⟨(escL (bt s i)).toArray⟩ : ByteArray) = ⟨#[92, 110]⟩ := by rw [show escL (bt s i) = [92, 110] by rw [escL, if_neg h12, if_pos c3]]
      simp [c3']
      refine ⟨by omega, i + 1, by omega, by omega, Wk.both (by rw [hn, hq]; simp [wkL, wkV.same]; rw [wrapN (by omega)]; exact wkV.same _) trivial⟩
    have c3' : ¬ ((bt s i).toNat : Int) = 10 := by omega
    simp [c3']
    by_cases c4 : (bt s i).toNat < 32
    · have c4' : ((bt s i).toNat : Int) < 32 := by omega
      have hq : (⟨(escL (bt s i)).toArray⟩ : ByteArray) = ⟨#[92, 120]⟩ ++ hexS (s.extract i (i + 1)) := by
        rw [show escL (bt s i) = [92, 120, hexL ((bt s i).toNat / 16), hexL ((bt s i).toNat % 16)] by rw [escL, if_neg h12, if_neg c3, if_pos (.inl c4)], hxo]; rfl
      simp [c4']
      rw [wrapN (by omega)]
      refine cut _ _ _ _ rfl rfl ?_
      simp
      refine vcall_go hex (by simp) (by simp) (by simp) (by simp) ?_
      simp
      refine ⟨by omega, by omega, i + 1, by omega, by omega, Wk.both (by rw [hn, hq]; simp [wkL, wkV.same]; rw [wrapN (by omega)]; exact wkV.same _) trivial⟩
    have c4' : ¬ ((bt s i).toNat : Int) < 32 := by omega
    simp [c4']
    by_cases c5 : 126 < (bt s i).toNat
    · have c5' : (127 : Int) ≤ ((bt s i).toNat : Int) := by omega
      have hq : (⟨(escL (bt s i)).toArray⟩ : ByteArray) = ⟨#[92, 120]⟩ ++ hexS (s.extract i (i + 1)) := by
        rw [show escL (bt s i) = [92, 120, hexL ((bt s i).toNat / 16), hexL ((bt s i).toNat % 16)] by rw [escL, if_neg h12, if_neg c3, if_pos (.inr c5)], hxo]; rfl
      simp [c5']
      rw [wrapN (by omega)]
      refine cut _ _ _ _ rfl rfl ?_
      simp
      refine vcall_go hex (by simp) (by simp) (by simp) (by simp) ?_
      simp
      refine ⟨by omega, by omega, i + 1, by omega, by omega, Wk.both (by rw [hn, hq]; simp [wkL, wkV.same]; rw [wrapN (by omega)]; exact wkV.same _) trivial⟩
    have c5' : ¬ (127 : Int) ≤ ((bt s i).toNat : Int) := by omega
    have hq : (⟨(escL (bt s i)).toArray⟩ : ByteArray) = s.extract i (i + 1) := by
      rw [show escL (bt s i) = [bt s i] by rw [escL, if_neg h12, if_neg c3, if_neg (by omega)], hxo]; rfl
    simp [c5']
    rw [wrapN (by omega)]
    refine cut _ _ _ _ rfl rfl ?_
    simp
    refine ⟨by omega, i + 1, by omega, by omega, Wk.both (by rw [hn, hq]; simp [wkL, wkV.same]; rw [wrapN (by omega)]; exact wkV.same _) trivial⟩
  · obtain rfl : i = s.size := by omega
    simp
    have z4 : (⟨#[34]⟩ : ByteArray).size = 1 := rfl
    rw [qtA_all]
    refine ⟨by omega, ?_⟩
    exact Fin_ret rfl rfl
end
end Go.Proofs.YticockdhfglolaaGreatDoor.Vm
namespace Go.Proofs.YticockdhfglolaaGreatDoor.Vm
open Go Go.RowKit
set_option linter.unusedVariables false
set_option linter.unusedSimpArgs false
def v93 : VC := .seq (.reg false [⟨some 1, .box 2 (.t 0), none⟩, ⟨some 2, .as (.c (.lit (.string (by8 "")))), none⟩] [2]) (.seq (.reg false [⟨some 3, .ld true 2 (.t 1), none⟩, ⟨some 4, .call false 45 [(.t 3)], none⟩, ⟨some 5, .call false 94 [(.t 4)], none⟩, ⟨some 2, .as (.t 5), none⟩] [3, 4, 5]) (.ret))
theorem is93 : Is Go.Proofs.Tryz.prog 93 6 v93 [.t 2] := ⟨Go.Proofs.Tryz.f93, dl [(0, [2]), (1, [3, 4, 5])], Go.Proofs.Tryz.func93, by kernel_rfl, by kernel_rfl, by kernel_rfl, by kernel_rfl⟩
def v53 : VC := .seq (.reg false [⟨some 1, .box 2 (.t 0), none⟩, ⟨some 2, .as (.c (.lit (.string (by8 "")))), none⟩] [2]) (.seq (.reg false [⟨some 3, .ld true 2 (.t 1), none⟩, ⟨some 4, .call false 49 [(.t 3)], none⟩, ⟨some 5, .call false 55 [(.t 4)], none⟩, ⟨some 2, .as (.t 5), none⟩] [3, 4, 5]) (.ret))
theorem is53 : Is Go.Proofs.Tryz.prog 53 6 v53 [.t 2] := ⟨Go.Proofs.Tryz.f53, dl [(0, [2]), (1, [3, 4, 5])], Go.Proofs.Tryz.func53, by kernel_rfl, by kernel_rfl, by kernel_rfl, by kernel_rfl⟩
def nlB : ByteArray := ⟨#[10]⟩
def verB : ByteArray := ⟨#[58, 10, 32, 32, 118, 101, 114, 115, 105, 111, 110, 32]⟩
def depB : ByteArray := ⟨#[32, 32, 100, 101, 112, 101, 110, 100, 101, 110, 99, 105, 101, 115, 58, 10]⟩
def yarnB : ByteArray := ⟨#[35, 32, 121, 97, 114, 110, 32, 108, 111, 99, 107, 102, 105, 108, 101, 32, 118, 49, 10]⟩
theorem nlB_size : nlB.size = 1 := rfl
theorem verB_size : verB.size = 12 := rfl
theorem depB_size : depB.size = 16 := rfl
/-- texts one behind the other -/
def catB : List ByteArray → ByteArray
  | [] => by8 ""
  | x :: l => x ++ catB l
theorem nil_app0 (x : ByteArray) : by8 "" ++ x = x := by rw [show by8 "" = ByteArray.empty by decide +kernel]; exact ByteArray.empty_append
theorem app_nil0 (x : ByteArray) : x ++ by8 "" = x := by rw [show by8 "" = ByteArray.empty by decide +kernel]; exact ByteArray.append_empty
theorem catB_snoc : ∀ (l : List ByteArray) (x : ByteArray), catB (l ++ [x]) = catB l ++ x
  | [], x => by simp [catB, nil_app0, app_nil0]
  | y :: l, x => by simp [catB, catB_snoc l, ByteArray.append_assoc]
theorem catB_size (k : Nat) : ∀ (l : List ByteArray), (∀ x ∈ l, x.size ≤ k) → (catB l).size ≤ k * l.length
  | [], _ => by rw [catB, show (by8 "").size = 0 by decide +kernel]; simp
  | x :: l, h => by
    have h1 := catB_size k l fun y hy => h y (List.mem_cons_of_mem _ hy)
    have h2 := h x List.mem_cons_self
    rw [catB, ByteArray.size_append, List.length_cons, Nat.mul_add]; omega
def headsT (l : List Nd) : ByteArray := joinB (l.map fun h => qt (keyN h)) (by8 ", ")
def depT (n : Nd) : ByteArray := by8 "    " ++ qt n.name ++ by8 " " ++ qt n.range ++ nlB
def depsT (l : List Nd) : ByteArray := catB (l.map depT)
def entA (e : En) : ByteArray := nlB ++ headsT e.heads ++ verB ++ qt e.version ++ nlB
def entR (e : En) : ByteArray := if e.resolved = by8 "" then by8 "" else by8 "  resolved " ++ qt e.resolved ++ nlB
def entI (e : En) : ByteArray := if e.integrity = by8 "" then by8 "" else by8 "  integrity " ++ e.integrity ++ nlB
def entD (l : List Nd) : ByteArray := if l = [] then by8 "" else depB ++ depsT l
def entT (e : En) : ByteArray := entA e ++ entR e ++ entI e ++ entD e.needs
noncomputable def yarnT (l : List En) : ByteArray := if entsOk l = true then yarnB ++ catB (l.map entT) else by8 ""
theorem headsT_nil : headsT [] = by8 "" := joinB_nil _
theorem headsT_next {l : List Nd} {i : Nat} (h : i < l.length) (h0 : 0 < i) : headsT (l.take (i + 1)) = headsT (l.take i) ++ by8 ", " ++ qt (keyN l[i]) := by
  unfold headsT
  rw [List.take_succ_eq_append_getElem h, List.map_append]
  exact joinB_snoc _ _ fun e => by
    have := congrArg List.length e
    rw [List.length_map, List.length_take, List.length_nil] at this; omega
theorem headsT_one {l : List Nd} (h : 0 < l.length) : headsT (l.take 1) = qt (keyN l[0]) := by
  unfold headsT
  rw [List.take_succ_eq_append_getElem h]
  exact joinB_one _ _
theorem keyN_size (x : Nd) (h : x.small) : (keyN x).size ≤ 2097153 := by
  obtain ⟨h1, h2⟩ := h
  have e : (by8 "@").size = 1 := by decide +kernel
  unfold keyN
  rw [ByteArray.size_append, ByteArray.size_append]; omega
theorem headsT_size : ∀ (l : List Nd), (∀ x ∈ l, x.small) → (headsT l).size ≤ 8388700 * l.length
  | [], _ => by rw [headsT_nil, show (by8 "").size = 0 by decide +kernel]; simp
  | [x], h => by
    have h1 := qt_size (keyN x)
    have h2 := keyN_size x (h x List.mem_cons_self)
    rw [show headsT [x] = qt (keyN x) from joinB_one _ _]
    simp only [List.length_cons, List.length_nil]; omega
  | x :: y :: l, h => by
    have h0 := headsT_size (y :: l) fun z hz => h z (List.mem_cons_of_mem _ hz)
    have h1 := qt_size (keyN x)
    have h2 := keyN_size x (h x List.mem_cons_self)
    have e : (by8 ", ").size = 2 := by decide +kernel
    rw [show headsT (x :: y :: l) = qt (keyN x) ++ by8 ", " ++ headsT (y :: l) from joinB_cons _ _ _ _, ByteArray.size_append, ByteArray.size_append]
    simp only [List.length_cons] at h0 ⊢; omega
theorem depT_size (n : Nd) (h : n.small) : (depT n).size ≤ 8388700 := by
  obtain ⟨h1, h2⟩ := h
  have q1 := qt_size n.name
  have q2 := qt_size n.range
  have e1 : (by8 "    ").size = 4 := by decide +kernel
  have e2 : (by8 " ").size = 1 := by decide +kernel
  unfold depT
  simp only [ByteArray.size_append, e1, e2, nlB_size]; omega
theorem depsT_size (l : List Nd) (h : ∀ x ∈ l, x.small) : (depsT l).size ≤ 8388700 * l.length := by
  have := catB_size 8388700 (l.map depT) fun x hx => by obtain ⟨n, hn, rfl⟩ := List.mem_map.1 hx; exact depT_size n (h n hn)
  rwa [List.length_map] at this
theorem depsT_next {l : List Nd} {i : Nat} (h : i < l.length) : depsT (l.take (i + 1)) = depsT (l.take i) ++ depT l[i] := by
  unfold depsT
  rw [List.take_succ_eq_append_getElem h, List.map_append]
  exact catB_snoc _ _
theorem ent_sizes (e : En) (hs : e.small) : (entA e).size ≤ 8800000000000 ∧ (entR e).size ≤ 4194400 ∧ (entI e).size ≤ 1048600 ∧ (entD e.needs).size ≤ 8800000000000 ∧ (entT e).size ≤ 17700000000000 := by
  obtain ⟨⟨s1, s2⟩, s3, s4, s5, s6, s7⟩ := hs
  have a := headsT_size e.heads s2
  have b := depsT_size e.needs s7
  have q1 := qt_size e.version
  have q2 := qt_size e.resolved
  have z0 : (by8 "").size = 0 := by decide +kernel
  have z1 : (by8 "  resolved ").size = 11 := by decide +kernel
  have z2 : (by8 "  integrity ").size = 12 := by decide +kernel
  have hA : (entA e).size ≤ 8800000000000 := by
    unfold entA; simp only [ByteArray.size_append, nlB_size, verB_size]; omega
  have hR : (entR e).size ≤ 4194400 := by
    unfold entR; split
    · omega
    · simp only [ByteArray.size_append, nlB_size, z1]; omega
  have hI : (entI e).size ≤ 1048600 := by
    unfold entI; split
    · omega
    · simp only [ByteArray.size_append, nlB_size, z2]; omega
  have hD : (entD e.needs).size ≤ 8800000000000 := by
    unfold entD; split
    · omega
    · simp only [ByteArray.size_append, depB_size]; omega
  refine ⟨hA, hR, hI, hD, ?_⟩
  unfold entT; simp only [ByteArray.size_append]; omega
theorem entD_nil : entD [] = by8 "" := if_pos rfl
theorem entD_next {l : List Nd} {i : Nat} (h : i < l.length) : entD (l.take (i + 1)) = (if i = 0 then depB else entD (l.take i)) ++ depT l[i] := by
  have hne : l.take (i + 1) ≠ [] := fun e => by have := congrArg List.length e; rw [List.length_take, List.length_nil] at this; omega
  rw [entD, if_neg hne, depsT_next h]
  by_cases c : i = 0
  · subst c
    rw [if_pos rfl]
    have : depsT (l.take 0) = by8 "" := rfl
    rw [this, nil_app0]
  · have hn2 : l.take i ≠ [] := fun e => by have := congrArg List.length e; rw [List.length_take, List.length_nil] at this; omega
    rw [if_neg c, entD, if_neg hn2, ByteArray.append_assoc]
section
variable {E : Env} (hE : E.P = Go.Proofs.Tryz.prog) (hZ : ∀ w, E.K w → KZ w)
include hE
theorem specNeedT_fx (x : Nd) (h : x.small) : Fx E 93 [] [.agg x.av] [] (.lit (.string (qt (keyN x)))) := by
  have hnv : x.av = [.lit (.string x.name), .lit (.string x.range)] := rfl
  have hk := keyN_size x h
  refine (is93.to hE).fx [] (by simp) rfl rfl ?_
  simp [v93, hnv, okC]
  refine vcall_go (keyN_fx hE x h) (by simp [hnv]) (by simp) (by simp) (by simp) ?_
  simp
  refine vcall_go (specQuote_fx hE (keyN x) (by omega)) (by simp) (by simp) (by simp) (by simp) ?_
  simp
  exact Fin_ret rfl rfl
theorem implNeedT_fx (x : Nd) (h : x.small) : Fx E 53 [] [.agg x.av] [] (.lit (.string (qt (keyN x)))) := by
  have hnv : x.av = [.lit (.string x.name), .lit (.string x.range)] := rfl
  have hk := keyN_size x h
  refine (is53.to hE).fx [] (by simp) rfl rfl ?_
  simp [v53, hnv, okC]
  refine vcall_go (textN_fx hE x h) (by simp [hnv]) (by simp) (by simp) (by simp) ?_
  simp
  refine vcall_go (implQuote_fx hE (keyN x) (by omega)) (by simp) (by simp) (by simp) (by simp) ?_
  simp
  exact Fin_ret rfl rfl
end
end Go.Proofs.YticockdhfglolaaGreatDoor.Vm
namespace Go.Proofs.YticockdhfglolaaGreatDoor.Vm
open Go Go.RowKit
set_option linter.unusedVariables false
set_option linter.unusedSimpArgs false
def v52_8 : VC := .ret
def v52_7 : VC := .seq (.reg false [⟨some 82, .mv (.t 3), none⟩, ⟨some 2, .as (.t 82), none⟩] [82]) v52_8
def v52_6 : VC := .seq (.seq (.reg false [⟨some 5, .as (.c (.lit (.int .i64 0))), none⟩] []) (.block 2 (.loop (.seq (.seq (.reg false [⟨some 51, .mv (.t 5), none⟩, ⟨some 52, .fa 4 (.t 1), none⟩, ⟨some 53, .ld false 1 (.t 52), none⟩, ⟨some 54, .len false (.t 53), none⟩, ⟨some 55, .bin .lss 0 (.t 51) (.t 54), none⟩] [51, 52, 53, 54]) (.cond (.t 55) (.skip) (.exit 2))) (.seq (.block 3 (.seq (.seq (.reg false [⟨some 58, .mv (.t 5), none⟩, ⟨some 59, .bin .eql 0 (.t 58) (.c (.lit (.int .i64 0))), none⟩] [58]) (.cond (.t 59) (.reg false [⟨some 60, .mv (.t 3), none⟩, ⟨some 61, .bin .add 0 (.t 60) (.c (.lit (.string ⟨#[32, 32, 100, 101, 112, 101, 110, 100, 101, 110, 99, 105, 101, 115, 58, 10]⟩))), none⟩, ⟨some 3, .as (.t 61), none⟩] [60, 61]) (.skip))) (.reg true [⟨some 62, .mv (.t 3), none⟩, ⟨some 63, .bin .add 0 (.t 62) (.c (.lit (.string (by8 "    ")))), none⟩, ⟨some 64, .fa 4 (.t 1), none⟩, ⟨some 65, .ld false 1 (.t 64), none⟩, ⟨some 66, .mv (.t 5), none⟩, ⟨some 67, .ia 2 (.t 65) (.t 66), none⟩, ⟨some 68, .fa 0 (.t 67), none⟩, ⟨some 69, .ld false 1 (.t 68), none⟩, ⟨some 70, .call true 94 [(.t 69)], none⟩, ⟨some 71, .bin .add 0 (.t 63) (.t 70), none⟩, ⟨some 72, .bin .add 0 (.t 71) (.c (.lit (.string (by8 " ")))), none⟩, ⟨some 73, .fa 4 (.t 1), none⟩, ⟨some 74, .ld false 1 (.t 73), none⟩, ⟨some 75, .mv (.t 5), none⟩, ⟨some 76, .ia 2 (.t 74) (.t 75), none⟩, ⟨some 77, .fa 1 (.t 76), none⟩, ⟨some 78, .ld false 1 (.t 77), none⟩, ⟨some 79, .call true 94 [(.t 78)], none⟩, ⟨some 80, .bin .add 0 (.t 72) (.t 79), none⟩, ⟨some 81, .bin .add 0 (.t 80) (.c (.lit (.string ⟨#[10]⟩))), none⟩, ⟨some 3, .as (.t 81), none⟩] [62, 63, 64, 65, 66, 67, 68, 69, 70, 71, 72, 73, 74, 75, 76, 77, 78, 79, 80, 81]))) (.reg false [⟨some 56, .mv (.t 5), none⟩, ⟨some 57, .bin .add 0 (.t 56) (.c (.lit (.int .i64 1))), none⟩, ⟨some 5, .as (.t 57), none⟩] [56, 57])))))) v52_7
def v52_5 : VC := .seq (.seq (.reg false [⟨some 42, .fa 3 (.t 1), none⟩, ⟨some 43, .ld false 1 (.t 42), none⟩, ⟨some 44, .bin .neq 0 (.t 43) (.c (.lit (.string (by8 "")))), none⟩] [42, 43]) (.cond (.t 44) (.reg false [⟨some 45, .mv (.t 3), none⟩, ⟨some 46, .bin .add 0 (.t 45) (.c (.lit (.string (by8 "  integrity ")))), none⟩, ⟨some 47, .fa 3 (.t 1), none⟩, ⟨some 48, .ld false 1 (.t 47), none⟩, ⟨some 49, .bin .add 0 (.t 46) (.t 48), none⟩, ⟨some 50, .bin .add 0 (.t 49) (.c (.lit (.string ⟨#[10]⟩))), none⟩, ⟨some 3, .as (.t 50), none⟩] [45, 46, 47, 48, 49, 50]) (.skip))) v52_6
def v52_4 : VC := .seq (.seq (.reg false [⟨some 32, .fa 2 (.t 1), none⟩, ⟨some 33, .ld false 1 (.t 32), none⟩, ⟨some 34, .bin .neq 0 (.t 33) (.c (.lit (.string (by8 "")))), none⟩] [32, 33]) (.cond (.t 34) (.reg false [⟨some 35, .mv (.t 3), none⟩, ⟨some 36, .bin .add 0 (.t 35) (.c (.lit (.string (by8 "  resolved ")))), none⟩, ⟨some 37, .fa 2 (.t 1), none⟩, ⟨some 38, .ld false 1 (.t 37), none⟩, ⟨some 39, .call false 94 [(.t 38)], none⟩, ⟨some 40, .bin .add 0 (.t 36) (.t 39), none⟩, ⟨some 41, .bin .add 0 (.t 40) (.c (.lit (.string ⟨#[10]⟩))), none⟩, ⟨some 3, .as (.t 41), none⟩] [35, 36, 37, 38, 39, 40, 41]) (.skip))) v52_5
def v52_3 : VC := .seq (.reg false [⟨some 25, .mv (.t 3), none⟩, ⟨some 26, .bin .add 0 (.t 25) (.c (.lit (.string ⟨#[58, 10, 32, 32, 118, 101, 114, 115, 105, 111, 110, 32]⟩))), none⟩, ⟨some 27, .fa 1 (.t 1), none⟩, ⟨some 28, .ld false 1 (.t 27), none⟩, ⟨some 29, .call false 94 [(.t 28)], none⟩, ⟨some 30, .bin .add 0 (.t 26) (.t 29), none⟩, ⟨some 31, .bin .add 0 (.t 30) (.c (.lit (.string ⟨#[10]⟩))), none⟩, ⟨some 3, .as (.t 31), none⟩] [25, 26, 27, 28, 29, 30, 31]) v52_4
def v52_2 : VC := .seq (.seq (.reg false [⟨some 4, .as (.c (.lit (.int .i64 0))), none⟩] []) (.block 0 (.loop (.seq (.seq (.reg false [⟨some 6, .mv (.t 4), none⟩, ⟨some 7, .fa 0 (.t 1), none⟩, ⟨some 8, .ld false 1 (.t 7), none⟩, ⟨some 9, .len false (.t 8), none⟩, ⟨some 10, .bin .lss 0 (.t 6) (.t 9), none⟩] [6, 7, 8, 9]) (.cond (.t 10) (.skip) (.exit 0))) (.seq (.block 1 (.seq (.seq (.reg false [⟨some 13, .mv (.t 4), none⟩, ⟨some 14, .bin .gtr 0 (.t 13) (.c (.lit (.int .i64 0))), none⟩] [13]) (.cond (.t 14) (.reg false [⟨some 15, .mv (.t 3), none⟩, ⟨some 16, .bin .add 0 (.t 15) (.c (.lit (.string (by8 ", ")))), none⟩, ⟨some 3, .as (.t 16), none⟩] [15, 16]) (.skip))) (.reg false [⟨some 17, .mv (.t 3), none⟩, ⟨some 18, .fa 0 (.t 1), none⟩, ⟨some 19, .ld false 1 (.t 18), none⟩, ⟨some 20, .mv (.t 4), none⟩, ⟨some 21, .ia 2 (.t 19) (.t 20), none⟩, ⟨some 22, .ld true 2 (.t 21), none⟩, ⟨some 23, .call false 93 [(.t 22)], none⟩, ⟨some 24, .bin .add 0 (.t 17) (.t 23), none⟩, ⟨some 3, .as (.t 24), none⟩] [17, 18, 19, 20, 21, 22, 23, 24]))) (.reg false [⟨some 11, .mv (.t 4), none⟩, ⟨some 12, .bin .add 0 (.t 11) (.c (.lit (.int .i64 1))), none⟩, ⟨some 4, .as (.t 12), none⟩] [11, 12])))))) v52_3
def v52_1 : VC := .seq (.reg false [⟨some 3, .as (.c (.lit (.string ⟨#[10]⟩))), none⟩] []) v52_2
def v52 : VC := .seq (.reg false [⟨some 1, .box 5 (.t 0), none⟩, ⟨some 2, .as (.c (.lit (.string (by8 "")))), none⟩] [2]) v52_1
theorem is52 : Is Go.Proofs.Tryz.prog 52 83 v52 [.t 2] := ⟨Go.Proofs.Tryz.f52, dl [(0, [2]), (3, [6, 7, 8, 9]), (5, [13]), (6, [15, 16]), (7, [17, 18, 19, 20, 21, 22, 23, 24]), (4, [11, 12]), (8, [25, 26, 27, 28, 29, 30, 31]), (9, [32, 33]), (10, [35, 36, 37, 38, 39, 40, 41]), (11, [42, 43]), (12, [45, 46, 47, 48, 49, 50]), (14, [51, 52, 53, 54]), (16, [58]), (17, [60, 61]), (18, [62, 63, 64, 65, 66, 67, 68, 69, 70, 71, 72, 73, 74, 75, 76, 77, 78, 79, 80, 81]), (15, [56, 57]), (19, [82])], Go.Proofs.Tryz.func52, by kernel_rfl, by kernel_rfl, by kernel_rfl, by kernel_rfl⟩
def v25 : VC := .seq (.reg false [⟨some 2, .as (.c (.lit (.string (by8 "")))), none⟩] [2]) (.seq (.seq (.reg false [⟨some 5, .mv (.t 0), none⟩, ⟨some 6, .call false 21 [(.t 5)], none⟩, ⟨some 7, .un .not (.t 6), none⟩] [5, 6]) (.cond (.t 7) (.seq (.reg false [⟨some 2, .as (.c (.lit (.string (by8 "")))), none⟩] []) (.ret)) (.skip))) (.seq (.reg false [⟨some 3, .as (.c (.lit (.string ⟨#[35, 32, 121, 97, 114, 110, 32, 108, 111, 99, 107, 102, 105, 108, 101, 32, 118, 49, 10]⟩))), none⟩] []) (.seq (.seq (.reg false [⟨some 4, .as (.c (.lit (.int .i64 0))), none⟩] []) (.block 0 (.loop (.seq (.seq (.reg false [⟨some 8, .mv (.t 4), none⟩, ⟨some 9, .mv (.t 0), none⟩, ⟨some 10, .len false (.t 9), none⟩, ⟨some 11, .bin .lss 0 (.t 8) (.t 10), none⟩] [8, 9, 10]) (.cond (.t 11) (.skip) (.exit 0))) (.seq (.block 1 (.reg false [⟨some 14, .mv (.t 3), none⟩, ⟨some 15, .mv (.t 0), none⟩, ⟨some 16, .mv (.t 4), none⟩, ⟨some 17, .ia 5 (.t 15) (.t 16), none⟩, ⟨some 18, .ld true 5 (.t 17), none⟩, ⟨some 19, .call false 52 [(.t 18)], none⟩, ⟨some 20, .bin .add 0 (.t 14) (.t 19), none⟩, ⟨some 3, .as (.t 20), none⟩] [14, 15, 16, 17, 18, 19, 20])) (.reg false [⟨some 12, .mv (.t 4), none⟩, ⟨some 13, .bin .add 0 (.t 12) (.c (.lit (.int .i64 1))), none⟩, ⟨some 4, .as (.t 13), none⟩] [12, 13])))))) (.seq (.reg false [⟨some 21, .mv (.t 3), none⟩, ⟨some 2, .as (.t 21), none⟩] [21]) (.ret)))))
theorem is25 : Is Go.Proofs.Tryz.prog 25 22 v25 [.t 2] := ⟨Go.Proofs.Tryz.f25, dl [(0, [2]), (1, [5, 6]), (5, [8, 9, 10]), (7, [14, 15, 16, 17, 18, 19, 20]), (6, [12, 13]), (8, [21])], Go.Proofs.Tryz.func25, by kernel_rfl, by kernel_rfl, by kernel_rfl, by kernel_rfl⟩
section
variable {E : Env} (hE : E.P = Go.Proofs.Tryz.prog)
include hE
set_option maxHeartbeats 1000000 in
theorem lines_6 (e : En) (hs : e.small) (n4 : Int) (out : ByteArray) (ho : out.size ≤ 100000000000000) (b10 b34 b44 : AV) (hb : noC 70 b10 = true ∧ noC 70 b34 = true ∧ noC 70 b44 = true ∧ noC 79 b10 = true ∧ noC 79 b34 = true ∧ noC 79 b44 = true) : Xe E.pl v52_6 ⟨[(1, .ptr 1000000000001 0 0), (3, .lit (.string out)), (4, .lit (.int .i64 n4)), (10, b10), (34, b34), (44, b44)], [(1000000000001, [.agg [.sl ro 2 (e.heads.map fun x => .agg x.av), .lit (.string e.version), .lit (.string e.resolved), .lit (.string e.integrity), .sl ro 2 (e.needs.map fun x => .agg x.av)]])]⟩ (Fin [VR.t 2] (.lit (.string (out ++ entD e.needs))) []) .mk := by
  obtain ⟨⟨s1, s2⟩, s3, s4, s5, s6, s7⟩ := hs
  have hnv : ∀ x : Nd, x.av = [.lit (.string x.name), .lit (.string x.range)] := fun _ => rfl
  have z1 : (by8 "    ").size = 4 := by decide +kernel
  have z2 : (by8 " ").size = 1 := by decide +kernel
  have z3 : (⟨#[10]⟩ : ByteArray).size = 1 := rfl
  have z4 : (⟨#[32, 32, 100, 101, 112, 101, 110, 100, 101, 110, 99, 105, 101, 115, 58, 10]⟩ : ByteArray).size = 16 := rfl
  simp [v52_6]
  refine X_loop (τ := Nat) (fun i => ⟨[(1, .ptr 1000000000001 0 0), (3, .lit (.string (out ++ entD (e.needs.take i)))), (5, .lit (.int .i64 i))], [(1000000000001, [.agg [.sl ro 2 (e.heads.map fun x => .agg x.av), .lit (.string e.version), .lit (.string e.resolved), .lit (.string e.integrity), .sl ro 2 (e.needs.map fun x => .agg x.av)]])]⟩) (fun i => i ≤ e.needs.length) (fun i => e.needs.length - i) 0 (by simp) (Wk.both (by simp [wkL, wkV.same, entD_nil, app_nil]) (by simp [wkB])) ?_
  rintro i hi
  simp
  have hD : (entD (e.needs.take i)).size ≤ 8800000000000 := by
    unfold entD
    split
    · have : (by8 "").size = 0 := by decide +kernel
      omega
    · have := depsT_size (e.needs.take i) fun x hx => s7 x (List.mem_of_mem_take hx)
      rw [List.length_take] at this
      rw [ByteArray.size_append, depB_size]; omega
  by_cases hlt : i < e.needs.length
  · have hn := entD_next hlt
    have hav := hnv e.needs[i]
    obtain ⟨n1, n2⟩ := s7 _ (List.getElem_mem hlt)
    have q1 := qt_size e.needs[i].name
    have q2 := qt_size e.needs[i].range
    simp [hlt]
    by_cases c0 : i = 0
    · obtain rfl := c0
      rw [if_pos rfl] at hn
      have heq : out ++ ⟨#[32, 32, 100, 101, 112, 101, 110, 100, 101, 110, 99, 105, 101, 115, 58, 10]⟩ ++ by8 "    " ++ qt e.needs[0].name ++ by8 " " ++ qt e.needs[0].range ++ ⟨#[10]⟩ = out ++ entD (e.needs.take (0 + 1)) := by
        rw [hn]
        simp only [depT, nlB, depB, ByteArray.append_assoc]
      simp [entD_nil, app_nil, hlt, hav, mkF, mkF.mkL, okC]
      (repeat refine ⟨by omega, ?_⟩)
      refine vcall_go (specQuote_fx hE e.needs[0].name (by omega)) (by simp) (by simp) (by simp) (by simp [hb]) ?_
      simp [hlt, hav, mkF, mkF.mkL, okC]
      (repeat refine ⟨by omega, ?_⟩)
      refine vcall_go (specQuote_fx hE e.needs[0].range (by omega)) (by simp) (by simp) (by simp) (by simp [hb]) ?_
      simp
      rw [heq]
      refine ⟨by omega, by omega, 0 + 1, by omega, by omega, Wk.both (by simp [wkL, wkV.same]; exact .inl (by simp; decide)) (by simp [wkB])⟩
    · rw [if_neg c0] at hn
      simp [c0, hlt, hav, mkF, mkF.mkL, okC]
      have heq : out ++ entD (e.needs.take i) ++ by8 "    " ++ qt e.needs[i].name ++ by8 " " ++ qt e.needs[i].range ++ ⟨#[10]⟩ = out ++ entD (e.needs.take (i + 1)) := by
        rw [hn]
        simp only [depT, nlB, depB, ByteArray.append_assoc]
      (repeat refine ⟨by omega, ?_⟩)
      refine vcall_go (specQuote_fx hE e.needs[i].name (by omega)) (by simp) (by simp) (by simp) (by simp [hb]) ?_
      simp [hlt, hav, mkF, mkF.mkL, okC]
      (repeat refine ⟨by omega, ?_⟩)
      refine vcall_go (specQuote_fx hE e.needs[i].range (by omega)) (by simp) (by simp) (by simp) (by simp [hb]) ?_
      simp
      rw [heq]
      refine ⟨by omega, by omega, i + 1, by omega, by omega, Wk.both (by simp [wkL, wkV.same]; rw [wrapN (by omega)]; exact wkV.same _) (by simp [wkB])⟩
  · obtain rfl : i = e.needs.length := by omega
    rw [List.take_length]
    simp [v52_7]
    exact Fin_ret rfl rfl
theorem lines_5 (e : En) (hs : e.small) (n4 : Int) (out : ByteArray) (ho : out.size ≤ 90000000000000) (x10 x34 : Bool) : Xe E.pl v52_5 ⟨[(1, .ptr 1000000000001 0 0), (3, .lit (.string out)), (4, .lit (.int .i64 n4)), (10, .lit (.bool x10)), (34, .lit (.bool x34))], [(1000000000001, [.agg [.sl ro 2 (e.heads.map fun x => .agg x.av), .lit (.string e.version), .lit (.string e.resolved), .lit (.string e.integrity), .sl ro 2 (e.needs.map fun x => .agg x.av)]])]⟩ (Fin [VR.t 2] (.lit (.string (out ++ (entI e ++ entD e.needs)))) []) .mk := by
  obtain ⟨⟨s1, s2⟩, s3, s4, s5, s6, s7⟩ := hs
  have z1 : (by8 "  integrity ").size = 12 := by decide +kernel
  have z3 : (⟨#[10]⟩ : ByteArray).size = 1 := rfl
  simp [v52_5]
  by_cases c : e.integrity = by8 ""
  · have hI : entI e = by8 "" := if_pos c
    have := lines_6 hE e ⟨⟨s1, s2⟩, s3, s4, s5, s6, s7⟩ n4 out (by omega) (.lit (.bool x10)) (.lit (.bool x34)) (.lit (.bool false)) ⟨rfl, rfl, rfl, rfl, rfl, rfl⟩
    rw [c] at this
    rw [hI, nil_app]
    simp [c]
    exact this
  · have hI : entI e = by8 "  integrity " ++ e.integrity ++ nlB := if_neg c
    have heq : out ++ by8 "  integrity " ++ e.integrity ++ ⟨#[10]⟩ = out ++ entI e := by rw [hI]; simp only [nlB, ByteArray.append_assoc]
    have hz : (out ++ entI e).size ≤ 100000000000000 := by rw [← heq]; simp only [ByteArray.size_append]; omega
    have := lines_6 hE e ⟨⟨s1, s2⟩, s3, s4, s5, s6, s7⟩ n4 (out ++ entI e) hz (.lit (.bool x10)) (.lit (.bool x34)) (.lit (.bool true)) ⟨rfl, rfl, rfl, rfl, rfl, rfl⟩
    rw [ByteArray.append_assoc] at this
    simp [c]
    rw [heq]
    refine ⟨by omega, by omega, by omega, ?_⟩
    exact this
theorem lines_4 (e : En) (hs : e.small) (n4 : Int) (out : ByteArray) (ho : out.size ≤ 80000000000000) (x10 : Bool) : Xe E.pl v52_4 ⟨[(1, .ptr 1000000000001 0 0), (3, .lit (.string out)), (4, .lit (.int .i64 n4)), (10, .lit (.bool x10))], [(1000000000001, [.agg [.sl ro 2 (e.heads.map fun x => .agg x.av), .lit (.string e.version), .lit (.string e.resolved), .lit (.string e.integrity), .sl ro 2 (e.needs.map fun x => .agg x.av)]])]⟩ (Fin [VR.t 2] (.lit (.string (out ++ (entR e ++ (entI e ++ entD e.needs))))) []) .mk := by
  obtain ⟨⟨s1, s2⟩, s3, s4, s5, s6, s7⟩ := hs
  have z1 : (by8 "  resolved ").size = 11 := by decide +kernel
  have z3 : (⟨#[10]⟩ : ByteArray).size = 1 := rfl
  have q := qt_size e.resolved
  simp [v52_4]
  by_cases c : e.resolved = by8 ""
  · have hI : entR e = by8 "" := if_pos c
    have := lines_5 hE e ⟨⟨s1, s2⟩, s3, s4, s5, s6, s7⟩ n4 out (by omega) x10 false
    rw [c] at this
    rw [hI, nil_app]
    simp [c]
    exact this
  · have hI : entR e = by8 "  resolved " ++ qt e.resolved ++ nlB := if_neg c
    have heq : out ++ by8 "  resolved " ++ qt e.resolved ++ ⟨#[10]⟩ = out ++ entR e := by rw [hI]; simp only [nlB, ByteArray.append_assoc]
    have hz : (out ++ entR e).size ≤ 90000000000000 := by rw [← heq]; simp only [ByteArray.size_append]; omega
    have := lines_5 hE e ⟨⟨s1, s2⟩, s3, s4, s5, s6, s7⟩ n4 (out ++ entR e) hz x10 true
    rw [ByteArray.append_assoc] at this
    simp [c]
    refine ⟨by omega, ?_⟩
    refine vcall_go (specQuote_fx hE e.resolved (by omega)) (by simp) (by simp) (by simp) (by simp) ?_
    simp
    rw [heq]
    refine ⟨by omega, by omega, ?_⟩
    exact this
set_option maxHeartbeats 1000000 in
theorem specLines_fx (e : En) (hs : e.small) : Fx E 52 [] [.agg e.av] [] (.lit (.string (entT e))) := by
  have hs0 := hs
  obtain ⟨⟨s1, s2⟩, s3, s4, s5, s6, s7⟩ := hs
  have hav : e.av = [.sl ro 2 (e.heads.map fun x => .agg x.av), .lit (.string e.version), .lit (.string e.resolved), .lit (.string e.integrity), .sl ro 2 (e.needs.map fun x => .agg x.av)] := rfl
  have hnv : ∀ x : Nd, x.av = [.lit (.string x.name), .lit (.string x.range)] := fun _ => rfl
  have z0 : (by8 ", ").size = 2 := by decide +kernel
  have z1 : (⟨#[58, 10, 32, 32, 118, 101, 114, 115, 105, 111, 110, 32]⟩ : ByteArray).size = 12 := rfl
  have z3 : (⟨#[10]⟩ : ByteArray).size = 1 := rfl
  refine (is52.to hE).fx [] (by simp) rfl rfl ?_
  simp [v52, v52_1, v52_2, hav, okC]
  refine X_loop (τ := Nat) (fun i => ⟨[(1, .ptr 1000000000001 0 0), (3, .lit (.string (nlB ++ headsT (e.heads.take i)))), (4, .lit (.int .i64 i))], [(1000000000001, [.agg [.sl ro 2 (e.heads.map fun x => .agg x.av), .lit (.string e.version), .lit (.string e.resolved), .lit (.string e.integrity), .sl ro 2 (e.needs.map fun x => .agg x.av)]])]⟩) (fun i => i ≤ e.heads.length) (fun i => e.heads.length - i) 0 (by simp) (Wk.both (by simp [wkL, wkV.same, headsT_nil, app_nil]; exact wkV.same _) (by simp [wkB])) ?_
  rintro i hi
  simp
  have hH := headsT_size (e.heads.take i) fun x hx => s2 x (List.mem_of_mem_take hx)
  rw [List.length_take] at hH
  by_cases hlt : i < e.heads.length
  · have hkx := hnv e.heads[i]
    have hsm := s2 _ (List.getElem_mem hlt)
    have hq := qt_size (keyN e.heads[i])
    have hk := keyN_size _ hsm
    have hN : nlB.size = 1 := rfl
    simp [hlt]
    by_cases c0 : i = 0
    · obtain rfl := c0
      have hn := headsT_one hlt
      simp [hlt, hkx, mkF, mkF.mkL, okC]
      refine vcall_go (specNeedT_fx hE e.heads[0] hsm) (by simp [hkx]) (by simp) (by simp) (by simp) ?_
      simp [headsT_nil, app_nil]
      refine ⟨by omega, 0 + 1, by omega, by omega, Wk.both (by simp [wkL, wkV.same, hn]; exact .inl (by simp; decide)) (by simp [wkB])⟩
    · have c0' : 0 < i := by omega
      have hn := headsT_next hlt c0'
      have heq : nlB ++ headsT (e.heads.take i) ++ by8 ", " ++ qt (keyN e.heads[i]) = nlB ++ headsT (e.heads.take (i + 1)) := by rw [hn]; simp only [ByteArray.append_assoc]
      simp [c0, c0', hlt, hkx, mkF, mkF.mkL, okC]
      refine ⟨by omega, ?_⟩
      refine vcall_go (specNeedT_fx hE e.heads[i] hsm) (by simp [hkx]) (by simp) (by simp) (by simp) ?_
      simp
      rw [heq]
      refine ⟨by omega, i + 1, by omega, by omega, Wk.both (by simp [wkL, wkV.same]; rw [wrapN (by omega)]; exact wkV.same _) (by simp [wkB])⟩
  · obtain rfl : i = e.heads.length := by omega
    rw [List.take_length] at hH ⊢
    have hN : nlB.size = 1 := rfl
    have q := qt_size e.version
    have heq : nlB ++ headsT e.heads ++ ⟨#[58, 10, 32, 32, 118, 101, 114, 115, 105, 111, 110, 32]⟩ ++ qt e.version ++ ⟨#[10]⟩ = entA e := rfl
    have hz := (ent_sizes e hs0).1
    simp [v52_3]
    refine ⟨by omega, ?_⟩
    refine vcall_go (specQuote_fx hE e.version (by omega)) (by simp) (by simp) (by simp) (by simp) ?_
    simp
    rw [heq]
    refine ⟨by omega, by omega, ?_⟩
    have := lines_4 hE e hs0 e.heads.length (entA e) (by omega) false
    have hT : entT e = entA e ++ (entR e ++ (entI e ++ entD e.needs)) := by unfold entT; simp only [ByteArray.append_assoc]
    rw [hT]
    exact this
omit hE in
theorem catE_size (l : List En) (h : ∀ e ∈ l, e.small) : (catB (l.map entT)).size ≤ 17700000000000 * l.length := by
  have := catB_size 17700000000000 (l.map entT) fun x hx => by obtain ⟨n, hn, rfl⟩ := List.mem_map.1 hx; exact (ent_sizes n (h n hn)).2.2.2.2
  rwa [List.length_map] at this
omit hE in
theorem ents_len {l : List En} (h : entsOk l = true) : l.length ≤ 40 := by
  rw [entsOk, Bool.and_eq_true, decide_eq_true_eq] at h
  exact h.2
omit hE in
theorem catE_next {l : List En} {i : Nat} (h : i < l.length) : catB ((l.take (i + 1)).map entT) = catB ((l.take i).map entT) ++ entT l[i] := by
  rw [List.take_succ_eq_append_getElem h, List.map_append]
  exact catB_snoc _ _
theorem specYarn_fx (l : List En) (hl : l.length ≤ 1048576) (hs : ∀ e ∈ l, e.small) : Fx E 25 [] [.sl ro 5 (l.map fun x => .agg x.av)] [] (.lit (.string (yarnT l))) := by
  have hev : ∀ e : En, e.av = [.sl ro 2 (e.heads.map fun x => .agg x.av), .lit (.string e.version), .lit (.string e.resolved), .lit (.string e.integrity), .sl ro 2 (e.needs.map fun x => .agg x.av)] := fun _ => rfl
  refine (is25.to hE).fx [] (by simp) rfl rfl ?_
  simp [v25]
  refine vcall_go (specEnts_fx hE l hl hs) (by simp) (by simp) (by simp) (by simp) ?_
  cases hk : entsOk l
  · simp
    exact Fin_ret rfl (by rw [yarnT, hk]; rfl)
  have hlen := ents_len hk
  simp
  refine X_loop (τ := Nat) (fun i => ⟨[(0, .sl ro 5 (l.map fun x => .agg x.av)), (3, .lit (.string (yarnB ++ catB ((l.take i).map entT)))), (4, .lit (.int .i64 i))], []⟩) (fun i => i ≤ l.length) (fun i => l.length - i) 0 (by simp) (Wk.both (by simp [wkL, wkV.same, catB, app_nil]; exact wkV.same _) trivial) ?_
  rintro i hi
  simp
  by_cases hlt : i < l.length
  · have hn := catE_next hlt
    have hav := hev l[i]
    have hsm := hs _ (List.getElem_mem hlt)
    have hz := catE_size (l.take i) fun x hx => hs x (List.mem_of_mem_take hx)
    rw [List.length_take] at hz
    have hz2 := (ent_sizes _ hsm).2.2.2.2
    have hy : yarnB.size = 19 := rfl
    have heq : yarnB ++ catB ((l.take i).map entT) ++ entT l[i] = yarnB ++ catB ((l.take (i + 1)).map entT) := by rw [hn, ByteArray.append_assoc]
    simp only [List.map_take] at heq hz
    simp [hlt, hav, mkF, mkF.mkL, okC]
    refine vcall_go (specLines_fx hE l[i] hsm) (by simp [hav]) (by simp) (by simp) (by simp) ?_
    simp
    rw [heq]
    refine ⟨by omega, i + 1, by omega, by omega, Wk.both (by simp [wkL, wkV.same]; rw [wrapN (by omega)]; exact wkV.same _) trivial⟩
  · obtain rfl : i = l.length := by omega
    have e1 : List.take l.length (l.map entT) = l.map entT := List.take_of_length_le (by simp)
    simp
    try rw [e1]
    try simp
    exact Fin_ret rfl (by rw [yarnT, if_pos hk]; rfl)
end
end Go.Proofs.YticockdhfglolaaGreatDoor.Vm
namespace Go.Proofs.YticockdhfglolaaGreatDoor.Vm
open Go Go.RowKit
set_option linter.unusedVariables false
set_option linter.unusedSimpArgs false
def v26_b8 : VC := .block 4 (.loop (.seq (.reg false [⟨some 74, .bin .lss 0 (.t 73) (.t 72), none⟩] []) (.seq (.cond (.t 74) (.skip) (.exit 4)) (.seq (.block 5 (.seq (.reg false [⟨some 75, .ia 2 (.t 71) (.t 73), none⟩, ⟨some 76, .ld true 2 (.t 75), none⟩, ⟨some 10, .alloc (.agg [(.lit (.string (by8 ""))), (.lit (.string (by8 "")))]), none⟩, ⟨none, .st 2 (.t 10) (.t 76), none⟩] [75, 76]) (.reg true [⟨some 77, .mv (.t 3), none⟩, ⟨some 78, .fa 0 (.t 10), none⟩, ⟨some 79, .ld false 1 (.t 78), none⟩, ⟨some 80, .call true 55 [(.t 79)], none⟩, ⟨some 81, .bin .add 0 (.c (.lit (.string (by8 "    ")))) (.t 80), none⟩, ⟨some 82, .bin .add 0 (.t 81) (.c (.lit (.string (by8 " ")))), none⟩, ⟨some 83, .fa 1 (.t 10), none⟩, ⟨some 84, .ld false 1 (.t 83), none⟩, ⟨some 85, .call true 55 [(.t 84)], none⟩, ⟨some 86, .bin .add 0 (.t 82) (.t 85), none⟩, ⟨some 87, .bin .add 0 (.t 86) (.c (.lit (.string ⟨#[10]⟩))), none⟩, ⟨some 88, .bin .add 0 (.t 77) (.t 87), none⟩, ⟨some 3, .as (.t 88), none⟩] [77, 78, 79, 80, 81, 82, 83, 84, 85, 86, 87, 88]))) (.reg false [⟨some 89, .bin .add 0 (.t 73) (.c (.lit (.int .i64 1))), none⟩, ⟨some 73, .mv (.t 89), none⟩] [89])))))
def v26_b7 : VC := .seq (.reg false [⟨some 70, .fa 4 (.t 5), none⟩, ⟨some 71, .ld false 1 (.t 70), none⟩, ⟨some 72, .len false (.t 71), none⟩, ⟨some 73, .mv (.c (.lit (.int .i64 0))), none⟩] [70]) v26_b8
def v26_b6 : VC := .seq (.seq (.reg false [⟨some 64, .fa 4 (.t 5), none⟩, ⟨some 65, .ld false 1 (.t 64), none⟩, ⟨some 66, .len false (.t 65), none⟩, ⟨some 67, .bin .gtr 0 (.t 66) (.c (.lit (.int .i64 0))), none⟩] [64, 65, 66]) (.cond (.t 67) (.reg false [⟨some 68, .mv (.t 3), none⟩, ⟨some 69, .bin .add 0 (.t 68) (.c (.lit (.string ⟨#[32, 32, 100, 101, 112, 101, 110, 100, 101, 110, 99, 105, 101, 115, 58, 10]⟩))), none⟩, ⟨some 3, .as (.t 69), none⟩] [68, 69]) (.skip))) v26_b7
def v26_b5 : VC := .seq (.seq (.reg false [⟨some 55, .fa 3 (.t 5), none⟩, ⟨some 56, .ld false 1 (.t 55), none⟩, ⟨some 57, .bin .neq 0 (.t 56) (.c (.lit (.string (by8 "")))), none⟩] [55, 56]) (.cond (.t 57) (.reg false [⟨some 58, .mv (.t 3), none⟩, ⟨some 59, .fa 3 (.t 5), none⟩, ⟨some 60, .ld false 1 (.t 59), none⟩, ⟨some 61, .bin .add 0 (.c (.lit (.string (by8 "  integrity ")))) (.t 60), none⟩, ⟨some 62, .bin .add 0 (.t 61) (.c (.lit (.string ⟨#[10]⟩))), none⟩, ⟨some 63, .bin .add 0 (.t 58) (.t 62), none⟩, ⟨some 3, .as (.t 63), none⟩] [58, 59, 60, 61, 62, 63]) (.skip))) v26_b6
def v26_b4 : VC := .seq (.seq (.reg false [⟨some 45, .fa 2 (.t 5), none⟩, ⟨some 46, .ld false 1 (.t 45), none⟩, ⟨some 47, .bin .neq 0 (.t 46) (.c (.lit (.string (by8 "")))), none⟩] [45, 46]) (.cond (.t 47) (.reg false [⟨some 48, .mv (.t 3), none⟩, ⟨some 49, .fa 2 (.t 5), none⟩, ⟨some 50, .ld false 1 (.t 49), none⟩, ⟨some 51, .call false 55 [(.t 50)], none⟩, ⟨some 52, .bin .add 0 (.c (.lit (.string (by8 "  resolved ")))) (.t 51), none⟩, ⟨some 53, .bin .add 0 (.t 52) (.c (.lit (.string ⟨#[10]⟩))), none⟩, ⟨some 54, .bin .add 0 (.t 48) (.t 53), none⟩, ⟨some 3, .as (.t 54), none⟩] [48, 49, 50, 51, 52, 53, 54]) (.skip))) v26_b5
def v26_b3 : VC := .seq (.reg true [⟨some 34, .mv (.t 3), none⟩, ⟨some 35, .mv (.t 6), none⟩, ⟨some 36, .call true 54 [(.t 35), (.c (.lit (.string (by8 ", "))))], none⟩, ⟨some 37, .bin .add 0 (.c (.lit (.string ⟨#[10]⟩))) (.t 36), none⟩, ⟨some 38, .bin .add 0 (.t 37) (.c (.lit (.string ⟨#[58, 10, 32, 32, 118, 101, 114, 115, 105, 111, 110, 32]⟩))), none⟩, ⟨some 39, .fa 1 (.t 5), none⟩, ⟨some 40, .ld false 1 (.t 39), none⟩, ⟨some 41, .call true 55 [(.t 40)], none⟩, ⟨some 42, .bin .add 0 (.t 38) (.t 41), none⟩, ⟨some 43, .bin .add 0 (.t 42) (.c (.lit (.string ⟨#[10]⟩))), none⟩, ⟨some 44, .bin .add 0 (.t 34) (.t 43), none⟩, ⟨some 3, .as (.t 44), none⟩] [34, 35, 36, 37, 38, 39, 40, 41, 42, 43, 44]) v26_b4
def v26_b2 : VC := .seq (.seq (.reg false [⟨some 21, .fa 0 (.t 5), none⟩, ⟨some 22, .ld false 1 (.t 21), none⟩, ⟨some 23, .len false (.t 22), none⟩, ⟨some 24, .mv (.c (.lit (.int .i64 0))), none⟩] [21]) (.block 2 (.loop (.seq (.reg false [⟨some 25, .bin .lss 0 (.t 24) (.t 23), none⟩] []) (.seq (.cond (.t 25) (.skip) (.exit 2)) (.seq (.block 3 (.seq (.reg false [⟨some 26, .ia 2 (.t 22) (.t 24), none⟩, ⟨some 27, .ld true 2 (.t 26), none⟩, ⟨some 8, .alloc (.agg [(.lit (.string (by8 ""))), (.lit (.string (by8 "")))]), none⟩, ⟨none, .st 2 (.t 8) (.t 27), none⟩] [26, 27]) (.reg false [⟨some 28, .mv (.t 6), none⟩, ⟨some 29, .ld true 2 (.t 8), none⟩, ⟨some 30, .call false 53 [(.t 29)], none⟩, ⟨some 31, .bsl 1 [(.t 30)], none⟩, ⟨some 32, .app 1 16 (.t 28) (.t 31), none⟩, ⟨some 6, .as (.t 32), none⟩] [28, 29, 30, 31, 32]))) (.reg false [⟨some 33, .bin .add 0 (.t 24) (.c (.lit (.int .i64 1))), none⟩, ⟨some 24, .mv (.t 33), none⟩] [33]))))))) v26_b3
def v26_b1 : VC := .seq (.reg false [⟨some 20, .bsl 1 [], none⟩, ⟨some 6, .as (.t 20), none⟩] [20]) v26_b2
def v26_b : VC := .seq (.reg false [⟨some 18, .ia 5 (.t 14) (.t 16), none⟩, ⟨some 19, .ld true 5 (.t 18), none⟩, ⟨some 5, .alloc (.agg [(.sl ⟨.nl, true⟩ 1 []), (.lit (.string (by8 ""))), (.lit (.string (by8 ""))), (.lit (.string (by8 ""))), (.sl ⟨.nl, true⟩ 1 [])]), none⟩, ⟨none, .st 5 (.t 5) (.t 19), none⟩] [18, 19]) v26_b1
def v26 : VC := .seq (.reg false [⟨some 2, .as (.c (.lit (.string (by8 "")))), none⟩] [2]) (.seq (.seq (.reg false [⟨some 11, .mv (.t 0), none⟩, ⟨some 12, .call false 23 [(.t 11)], none⟩, ⟨some 13, .un .not (.t 12), none⟩] [11, 12]) (.cond (.t 13) (.seq (.reg false [⟨some 2, .as (.c (.lit (.string (by8 "")))), none⟩] []) (.ret)) (.skip))) (.seq (.reg false [⟨some 3, .as (.c (.lit (.string ⟨#[35, 32, 121, 97, 114, 110, 32, 108, 111, 99, 107, 102, 105, 108, 101, 32, 118, 49, 10]⟩))), none⟩] []) (.seq (.seq (.reg false [⟨some 14, .mv (.t 0), none⟩, ⟨some 15, .len false (.t 14), none⟩, ⟨some 16, .mv (.c (.lit (.int .i64 0))), none⟩] []) (.block 0 (.loop (.seq (.reg false [⟨some 17, .bin .lss 0 (.t 16) (.t 15), none⟩] []) (.seq (.cond (.t 17) (.skip) (.exit 0)) (.seq (.block 1 v26_b) (.reg false [⟨some 90, .bin .add 0 (.t 16) (.c (.lit (.int .i64 1))), none⟩, ⟨some 16, .mv (.t 90), none⟩] [90]))))))) (.seq (.reg false [⟨some 91, .mv (.t 3), none⟩, ⟨some 2, .as (.t 91), none⟩] [91]) (.ret)))))
theorem is26 : Is Go.Proofs.Tryz.prog 26 92 v26 [.t 2] := ⟨Go.Proofs.Tryz.f26, dl [(0, [2]), (1, [11, 12]), (6, [18, 19]), (7, [20]), (8, [21]), (10, [26, 27]), (11, [28, 29, 30, 31, 32]), (12, [33]), (13, [34, 35, 36, 37, 38, 39, 40, 41, 42, 43, 44]), (14, [45, 46]), (15, [48, 49, 50, 51, 52, 53, 54]), (16, [55, 56]), (17, [58, 59, 60, 61, 62, 63]), (18, [64, 65, 66]), (19, [68, 69]), (20, [70]), (22, [75, 76]), (23, [77, 78, 79, 80, 81, 82, 83, 84, 85, 86, 87, 88]), (24, [89]), (25, [90]), (26, [91])], Go.Proofs.Tryz.func26, by kernel_rfl, by kernel_rfl, by kernel_rfl, by kernel_rfl⟩
section
variable {E : Env} (hE : E.P = Go.Proofs.Tryz.prog) (hZ : ∀ w, E.K w → KZ w)
include hE
set_option maxHeartbeats 2000000 in
theorem yarn_b7 (e : En) (hs : e.small) (l : List En) (i : Nat) (H : List ByteArray) (Q : Ex → AS → Prop) (out : ByteArray) (ho : out.size ≤ 1000000000000000) (x47 x57 x67 : Bool) (hQ : Q .normal ⟨[(3, .lit (.string (out ++ depsT e.needs))), (5, .ptr 1000000000005 0 0), (14, .sl ro 5 (l.map fun x => .agg x.av)), (15, .lit (.int .i64 l.length)), (16, .lit (.int .i64 i)), (71, .sl ro 2 (e.needs.map fun x => .agg x.av)), (72, .lit (.int .i64 e.needs.length)), (73, .lit (.int .i64 e.needs.length)), (74, .lit (.bool false))], [(1000000000005, [.agg [.sl ro 2 (e.heads.map fun x => .agg x.av), .lit (.string e.version), .lit (.string e.resolved), .lit (.string e.integrity), .sl ro 2 (e.needs.map fun x => .agg x.av)]])]⟩) :
    Xe E.pl v26_b7 ⟨[(3, .lit (.string out)), (5, .ptr 1000000000005 0 0), (6, .sl ⟨.cl 1280, true⟩ 1 (H.map fun x => .lit (.string x))), (14, .sl ro 5 (l.map fun x => .agg x.av)), (15, .lit (.int .i64 l.length)), (16, .lit (.int .i64 i)), (22, .sl ro 2 (e.heads.map fun x => .agg x.av)), (23, .lit (.int .i64 e.heads.length)), (24, .lit (.int .i64 e.heads.length)), (25, .lit (.bool false)), (47, .lit (.bool x47)), (57, .lit (.bool x57)), (67, .lit (.bool x67))], [(1000000000005, [.agg [.sl ro 2 (e.heads.map fun x => .agg x.av), .lit (.string e.version), .lit (.string e.resolved), .lit (.string e.integrity), .sl ro 2 (e.needs.map fun x => .agg x.av)]])]⟩ Q .mk := by
  obtain ⟨⟨s1, s2⟩, s3, s4, s5, s6, s7⟩ := hs
  have hnv : ∀ x : Nd, x.av = [.lit (.string x.name), .lit (.string x.range)] := fun _ => rfl
  have z1 : (by8 "    ").size = 4 := by decide +kernel
  have z2 : (by8 " ").size = 1 := by decide +kernel
  have z3 : (⟨#[10]⟩ : ByteArray).size = 1 := rfl
  simp [v26_b7]
  refine X_loop (l := .mk) (τ := Nat) (fun k => ⟨[(3, .lit (.string (out ++ depsT (e.needs.take k)))), (5, .ptr 1000000000005 0 0), (14, .sl ro 5 (l.map fun x => .agg x.av)), (15, .lit (.int .i64 l.length)), (16, .lit (.int .i64 i)), (71, .sl ro 2 (e.needs.map fun x => .agg x.av)), (72, .lit (.int .i64 e.needs.length)), (73, .lit (.int .i64 k))], [(1000000000005, [.agg [.sl ro 2 (e.heads.map fun x => .agg x.av), .lit (.string e.version), .lit (.string e.resolved), .lit (.string e.integrity), .sl ro 2 (e.needs.map fun x => .agg x.av)]])]⟩) (fun k => k ≤ e.needs.length) (fun k => e.needs.length - k) 0 (by simp) (Wk.both (by simp [wkL, wkV.same, depsT, catB, app_nil]) (by simp [wkB])) ?_
  rintro k hk
  have hD := depsT_size (e.needs.take k) fun x hx => s7 x (List.mem_of_mem_take hx)
  rw [List.length_take] at hD
  simp
  by_cases hlt : k < e.needs.length
  · have hn := depsT_next hlt
    have hav := hnv e.needs[k]
    obtain ⟨n1, n2⟩ := s7 _ (List.getElem_mem hlt)
    have q1 := qt_size e.needs[k].name
    have q2 := qt_size e.needs[k].range
    have heq : out ++ depsT (e.needs.take k) ++ (by8 "    " ++ qt e.needs[k].name ++ by8 " " ++ qt e.needs[k].range ++ ⟨#[10]⟩) = out ++ depsT (e.needs.take (k + 1)) := by
      rw [hn]
      simp only [depT, nlB, ByteArray.append_assoc]
    simp [hlt, hav, mkF, mkF.mkL, okC, putElem, upd]
    refine vcall_go (implQuote_fx hE e.needs[k].name (by omega)) (by simp) (by simp) (by simp) (by simp) ?_
    simp
    refine ⟨by omega, by omega, ?_⟩
    refine vcall_go (implQuote_fx hE e.needs[k].range (by omega)) (by simp) (by simp) (by simp) (by simp) ?_
    simp
    rw [heq]
    refine ⟨by omega, by omega, by omega, k + 1, by omega, by omega, Wk.both (by simp [wkL, wkV.same]; rw [wrapN (by omega)]; exact wkV.same _) (by simp [wkB])⟩
  · obtain rfl : k = e.needs.length := by omega
    rw [List.take_length]
    simp
    exact hQ
theorem yarn_b6 (e : En) (hs : e.small) (l : List En) (i : Nat) (H : List ByteArray) (Q : Ex → AS → Prop) (out : ByteArray) (ho : out.size ≤ 900000000000000) (x47 x57 : Bool) (hQ : Q .normal ⟨[(3, .lit (.string (out ++ entD e.needs))), (5, .ptr 1000000000005 0 0), (14, .sl ro 5 (l.map fun x => .agg x.av)), (15, .lit (.int .i64 l.length)), (16, .lit (.int .i64 i)), (71, .sl ro 2 (e.needs.map fun x => .agg x.av)), (72, .lit (.int .i64 e.needs.length)), (73, .lit (.int .i64 e.needs.length)), (74, .lit (.bool false))], [(1000000000005, [.agg [.sl ro 2 (e.heads.map fun x => .agg x.av), .lit (.string e.version), .lit (.string e.resolved), .lit (.string e.integrity), .sl ro 2 (e.needs.map fun x => .agg x.av)]])]⟩) :
    Xe E.pl v26_b6 ⟨[(3, .lit (.string out)), (5, .ptr 1000000000005 0 0), (6, .sl ⟨.cl 1280, true⟩ 1 (H.map fun x => .lit (.string x))), (14, .sl ro 5 (l.map fun x => .agg x.av)), (15, .lit (.int .i64 l.length)), (16, .lit (.int .i64 i)), (22, .sl ro 2 (e.heads.map fun x => .agg x.av)), (23, .lit (.int .i64 e.heads.length)), (24, .lit (.int .i64 e.heads.length)), (25, .lit (.bool false)), (47, .lit (.bool x47)), (57, .lit (.bool x57))], [(1000000000005, [.agg [.sl ro 2 (e.heads.map fun x => .agg x.av), .lit (.string e.version), .lit (.string e.resolved), .lit (.string e.integrity), .sl ro 2 (e.needs.map fun x => .agg x.av)]])]⟩ Q .mk := by
  have z4 : (⟨#[32, 32, 100, 101, 112, 101, 110, 100, 101, 110, 99, 105, 101, 115, 58, 10]⟩ : ByteArray).size = 16 := rfl
  simp [v26_b6]
  by_cases c : e.needs = []
  · have hD : out ++ entD e.needs = out ++ depsT e.needs := by rw [c]; rfl
    rw [hD] at hQ
    have := yarn_b7 hE e hs l i H Q out (by omega) x47 x57 false hQ
    simp [c]
    simp only [c, List.map_nil] at this
    exact this
  · have hp := List.length_pos_iff.2 c
    have hD : out ++ entD e.needs = out ++ ⟨#[32, 32, 100, 101, 112, 101, 110, 100, 101, 110, 99, 105, 101, 115, 58, 10]⟩ ++ depsT e.needs := by rw [entD, if_neg c, ByteArray.append_assoc]; rfl
    rw [hD] at hQ
    have := yarn_b7 hE e hs l i H Q (out ++ ⟨#[32, 32, 100, 101, 112, 101, 110, 100, 101, 110, 99, 105, 101, 115, 58, 10]⟩) (by rw [ByteArray.size_append]; omega) x47 x57 true hQ
    simp [c, hp]
    refine ⟨by omega, ?_⟩
    exact this
theorem yarn_b5 (e : En) (hs : e.small) (l : List En) (i : Nat) (H : List ByteArray) (Q : Ex → AS → Prop) (out : ByteArray) (ho : out.size ≤ 890000000000000) (x47 : Bool) (hQ : Q .normal ⟨[(3, .lit (.string (out ++ (entI e ++ entD e.needs)))), (5, .ptr 1000000000005 0 0), (14, .sl ro 5 (l.map fun x => .agg x.av)), (15, .lit (.int .i64 l.length)), (16, .lit (.int .i64 i)), (71, .sl ro 2 (e.needs.map fun x => .agg x.av)), (72, .lit (.int .i64 e.needs.length)), (73, .lit (.int .i64 e.needs.length)), (74, .lit (.bool false))], [(1000000000005, [.agg [.sl ro 2 (e.heads.map fun x => .agg x.av), .lit (.string e.version), .lit (.string e.resolved), .lit (.string e.integrity), .sl ro 2 (e.needs.map fun x => .agg x.av)]])]⟩) :
    Xe E.pl v26_b5 ⟨[(3, .lit (.string out)), (5, .ptr 1000000000005 0 0), (6, .sl ⟨.cl 1280, true⟩ 1 (H.map fun x => .lit (.string x))), (14, .sl ro 5 (l.map fun x => .agg x.av)), (15, .lit (.int .i64 l.length)), (16, .lit (.int .i64 i)), (22, .sl ro 2 (e.heads.map fun x => .agg x.av)), (23, .lit (.int .i64 e.heads.length)), (24, .lit (.int .i64 e.heads.length)), (25, .lit (.bool false)), (47, .lit (.bool x47))], [(1000000000005, [.agg [.sl ro 2 (e.heads.map fun x => .agg x.av), .lit (.string e.version), .lit (.string e.resolved), .lit (.string e.integrity), .sl ro 2 (e.needs.map fun x => .agg x.av)]])]⟩ Q .mk := by
  have z1 : (by8 "  integrity ").size = 12 := by decide +kernel
  have z3 : (⟨#[10]⟩ : ByteArray).size = 1 := rfl
  have s5 := hs.2.2.2.1
  simp [v26_b5]
  by_cases c : e.integrity = by8 ""
  · have hI : entI e = by8 "" := if_pos c
    rw [hI, nil_app] at hQ
    have := yarn_b6 hE e hs l i H Q out (by omega) x47 false hQ
    rw [c] at this
    simp [c]
    exact this
  · have hI : entI e = by8 "  integrity " ++ e.integrity ++ nlB := if_neg c
    have heq : out ++ (by8 "  integrity " ++ e.integrity ++ ⟨#[10]⟩) = out ++ entI e := by rw [hI]; rfl
    have hz : (out ++ entI e).size ≤ 900000000000000 := by rw [← heq]; simp only [ByteArray.size_append]; omega
    rw [← ByteArray.append_assoc] at hQ
    have := yarn_b6 hE e hs l i H Q (out ++ entI e) hz x47 true hQ
    simp [c]
    rw [heq]
    refine ⟨by omega, by omega, by omega, ?_⟩
    exact this
theorem yarn_b4 (e : En) (hs : e.small) (l : List En) (i : Nat) (H : List ByteArray) (Q : Ex → AS → Prop) (out : ByteArray) (ho : out.size ≤ 880000000000000) (hQ : Q .normal ⟨[(3, .lit (.string (out ++ (entR e ++ (entI e ++ entD e.needs))))), (5, .ptr 1000000000005 0 0), (14, .sl ro 5 (l.map fun x => .agg x.av)), (15, .lit (.int .i64 l.length)), (16, .lit (.int .i64 i)), (71, .sl ro 2 (e.needs.map fun x => .agg x.av)), (72, .lit (.int .i64 e.needs.length)), (73, .lit (.int .i64 e.needs.length)), (74, .lit (.bool false))], [(1000000000005, [.agg [.sl ro 2 (e.heads.map fun x => .agg x.av), .lit (.string e.version), .lit (.string e.resolved), .lit (.string e.integrity), .sl ro 2 (e.needs.map fun x => .agg x.av)]])]⟩) :
    Xe E.pl v26_b4 ⟨[(3, .lit (.string out)), (5, .ptr 1000000000005 0 0), (6, .sl ⟨.cl 1280, true⟩ 1 (H.map fun x => .lit (.string x))), (14, .sl ro 5 (l.map fun x => .agg x.av)), (15, .lit (.int .i64 l.length)), (16, .lit (.int .i64 i)), (22, .sl ro 2 (e.heads.map fun x => .agg x.av)), (23, .lit (.int .i64 e.heads.length)), (24, .lit (.int .i64 e.heads.length)), (25, .lit (.bool false))], [(1000000000005, [.agg [.sl ro 2 (e.heads.map fun x => .agg x.av), .lit (.string e.version), .lit (.string e.resolved), .lit (.string e.integrity), .sl ro 2 (e.needs.map fun x => .agg x.av)]])]⟩ Q .mk := by
  have z1 : (by8 "  resolved ").size = 11 := by decide +kernel
  have z3 : (⟨#[10]⟩ : ByteArray).size = 1 := rfl
  have q := qt_size e.resolved
  have s5 := hs.2.2.1
  simp [v26_b4]
  by_cases c : e.resolved = by8 ""
  · have hI : entR e = by8 "" := if_pos c
    rw [hI, nil_app] at hQ
    have := yarn_b5 hE e hs l i H Q out (by omega) false hQ
    rw [c] at this
    simp [c]
    exact this
  · have hI : entR e = by8 "  resolved " ++ qt e.resolved ++ nlB := if_neg c
    have heq : out ++ (by8 "  resolved " ++ qt e.resolved ++ ⟨#[10]⟩) = out ++ entR e := by rw [hI]; rfl
    have hz : (out ++ entR e).size ≤ 890000000000000 := by rw [← heq]; simp only [ByteArray.size_append]; omega
    rw [← ByteArray.append_assoc] at hQ
    have := yarn_b5 hE e hs l i H Q (out ++ entR e) hz true hQ
    simp [c]
    refine vcall_go (implQuote_fx hE e.resolved (by omega)) (by simp) (by simp) (by simp) (by simp) ?_
    simp
    rw [heq]
    refine ⟨by omega, by omega, by omega, ?_⟩
    exact this
set_option maxHeartbeats 2000000 in
theorem yarn_b3 (e : En) (hs : e.small) (l : List En) (i : Nat) (Q : Ex → AS → Prop) (out : ByteArray) (ho : out.size ≤ 800000000000000) (hQ : Q .normal ⟨[(3, .lit (.string (out ++ entT e))), (5, .ptr 1000000000005 0 0), (14, .sl ro 5 (l.map fun x => .agg x.av)), (15, .lit (.int .i64 l.length)), (16, .lit (.int .i64 i)), (71, .sl ro 2 (e.needs.map fun x => .agg x.av)), (72, .lit (.int .i64 e.needs.length)), (73, .lit (.int .i64 e.needs.length)), (74, .lit (.bool false))], [(1000000000005, [.agg [.sl ro 2 (e.heads.map fun x => .agg x.av), .lit (.string e.version), .lit (.string e.resolved), .lit (.string e.integrity), .sl ro 2 (e.needs.map fun x => .agg x.av)]])]⟩) :
    Xe E.pl v26_b3 ⟨[(3, .lit (.string out)), (5, .ptr 1000000000005 0 0), (6, .sl ⟨.cl 1280, true⟩ 1 ((e.heads.map fun h => qt (keyN h)).map fun x => .lit (.string x))), (14, .sl ro 5 (l.map fun x => .agg x.av)), (15, .lit (.int .i64 l.length)), (16, .lit (.int .i64 i)), (22, .sl ro 2 (e.heads.map fun x => .agg x.av)), (23, .lit (.int .i64 e.heads.length)), (24, .lit (.int .i64 e.heads.length)), (25, .lit (.bool false))], [(1000000000005, [.agg [.sl ro 2 (e.heads.map fun x => .agg x.av), .lit (.string e.version), .lit (.string e.resolved), .lit (.string e.integrity), .sl ro 2 (e.needs.map fun x => .agg x.av)]])]⟩ Q .mk := by
  have hT : out ++ entT e = (out ++ entA e) ++ (entR e ++ (entI e ++ entD e.needs)) := by unfold entT; simp only [ByteArray.append_assoc]
  have z1 : (⟨#[58, 10, 32, 32, 118, 101, 114, 115, 105, 111, 110, 32]⟩ : ByteArray).size = 12 := rfl
  have z3 : (⟨#[10]⟩ : ByteArray).size = 1 := rfl
  have q := qt_size e.version
  have s5 := hs.2.1
  have hA := (ent_sizes e hs).1
  have hH := headsT_size e.heads hs.1.2
  have hl := hs.1.1
  have hj := join_fx hE (e.heads.map fun h => qt (keyN h)) (by8 ", ") (by rw [List.length_map]; omega) (by show (headsT e.heads).size ≤ _; omega)
  rw [show joinB (e.heads.map fun h => qt (keyN h)) (by8 ", ") = headsT e.heads from rfl] at hj
  rw [hT] at hQ
  have heq : out ++ (⟨#[10]⟩ ++ headsT e.heads ++ ⟨#[58, 10, 32, 32, 118, 101, 114, 115, 105, 111, 110, 32]⟩ ++ qt e.version ++ ⟨#[10]⟩) = out ++ entA e := rfl
  have hz : (out ++ entA e).size ≤ 880000000000000 := by rw [ByteArray.size_append]; omega
  have := yarn_b4 hE e hs l i (e.heads.map fun h => qt (keyN h)) Q (out ++ entA e) hz hQ
  obtain ⟨H, hHe⟩ : ∃ H, (e.heads.map fun h => qt (keyN h)) = H := ⟨_, rfl⟩
  rw [hHe] at hj this ⊢
  simp [v26_b3]
  refine vcall_go hj (by simp) (by simp) (by simp) (by simp) ?_
  simp
  refine ⟨by omega, by omega, ?_⟩
  refine vcall_go (implQuote_fx hE e.version (by omega)) (by simp) (by simp) (by simp) (by simp) ?_
  simp
  rw [heq]
  refine ⟨by omega, by omega, by omega, ?_⟩
  exact this
include hZ in
set_option maxHeartbeats 4000000 in
theorem implYarn_fx (l : List En) (hl : l.length ≤ 1048576) (hs : ∀ e ∈ l, e.small) : Fx E 26 [] [.sl ro 5 (l.map fun x => .agg x.av)] [] (.lit (.string (yarnT l))) := by
  have hev : ∀ e : En, e.av = [.sl ro 2 (e.heads.map fun x => .agg x.av), .lit (.string e.version), .lit (.string e.resolved), .lit (.string e.integrity), .sl ro 2 (e.needs.map fun x => .agg x.av)] := fun _ => rfl
  have hnv : ∀ x : Nd, x.av = [.lit (.string x.name), .lit (.string x.range)] := fun _ => rfl
  refine (is26.to hE).fx [] (by simp) rfl rfl ?_
  simp [v26]
  refine vcall_go (implEnts_fx hE hZ l hl hs) (by simp) (by simp) (by simp) (by simp) ?_
  cases hk : entsOk l
  · simp
    exact Fin_ret rfl (by rw [yarnT, hk]; rfl)
  have hlen := ents_len hk
  simp
  refine X_loop (τ := Nat) (fun i => ⟨[(3, .lit (.string (yarnB ++ catB ((l.take i).map entT)))), (14, .sl ro 5 (l.map fun x => .agg x.av)), (15, .lit (.int .i64 l.length)), (16, .lit (.int .i64 i))], []⟩) (fun i => i ≤ l.length) (fun i => l.length - i) 0 (by simp) (Wk.both (by simp [wkL, wkV.same, catB, app_nil]; exact wkV.same _) trivial) ?_
  rintro i hi
  simp only [List.map_take]
  simp
  by_cases hlt : i < l.length
  · have hn := catE_next hlt
    have hav := hev l[i]
    have hsm := hs _ (List.getElem_mem hlt)
    have hz := catE_size (l.take i) fun x hx => hs x (List.mem_of_mem_take hx)
    rw [List.length_take] at hz
    have hz2 := (ent_sizes _ hsm).2.2.2.2
    have hy : yarnB.size = 19 := rfl
    have heq : yarnB ++ catB ((l.take i).map entT) ++ entT l[i] = yarnB ++ catB ((l.take (i + 1)).map entT) := by rw [hn, ByteArray.append_assoc]
    simp only [List.map_take] at heq hz
    obtain ⟨out, hout⟩ : ∃ out, yarnB ++ catB ((l.map entT).take i) = out := ⟨_, rfl⟩
    have hzo : out.size ≤ 800000000000000 := by rw [← hout, ByteArray.size_append]; omega
    rw [hout] at heq ⊢
    simp [hlt, v26_b, v26_b1, v26_b2, hav, mkF, mkF.mkL, okC, putElem, upd, frA, frA.frL]
    refine X_loop (l := .mk) (τ := Nat) (fun k => ⟨[(3, .lit (.string out)), (5, .ptr 1000000000005 0 0), (6, .sl ⟨.cl 1280, true⟩ 1 (((l[i].heads.map fun h => qt (keyN h)).take k).map fun x => .lit (.string x))), (14, .sl ro 5 (l.map fun x => .agg x.av)), (15, .lit (.int .i64 l.length)), (16, .lit (.int .i64 i)), (22, .sl ro 2 (l[i].heads.map fun x => .agg x.av)), (23, .lit (.int .i64 l[i].heads.length)), (24, .lit (.int .i64 k))], [(1000000000005, [.agg [.sl ro 2 (l[i].heads.map fun x => .agg x.av), .lit (.string l[i].version), .lit (.string l[i].resolved), .lit (.string l[i].integrity), .sl ro 2 (l[i].needs.map fun x => .agg x.av)]])]⟩) (fun k => k ≤ l[i].heads.length) (fun k => l[i].heads.length - k) 0 (by simp) (Wk.both (by simp [wkL, wkV.same, ro]) (by simp [wkB, ro])) ?_
    rintro k hk'
    obtain ⟨⟨s1, s2⟩, _⟩ := hsm
    simp only [List.map_take]
    simp
    by_cases hkl : k < l[i].heads.length
    · have hnk := hnv l[i].heads[k]
      have hsk := s2 _ (List.getElem_mem hkl)
      have hmk : List.take (k + 1) ((l[i].heads.map fun h => qt (keyN h)).map fun x => AV.lit (.string x)) = List.take k ((l[i].heads.map fun h => qt (keyN h)).map fun x => AV.lit (.string x)) ++ [.lit (.string (qt (keyN l[i].heads[k])))] := by
        rw [List.take_succ_eq_append_getElem (by simpa using hkl)]
        simp
      simp only [List.map_map] at hmk ⊢
      simp [hkl, hnk, mkF, mkF.mkL, okC, putElem, upd]
      refine vcall_go (implNeedT_fx hE l[i].heads[k] hsk) (by simp [hnk]) (by simp) (by simp) (by simp) ?_
      have hro : ro.ap = .no := rfl
      simp [okC, frA, frA.frL, AS.dem, mapV, dem, dem.demL, hro]
      refine ⟨by omega, k + 1, by omega, by omega, Wk.both (by simp [wkL, wkV.same, hmk]; rw [wrapN (by omega)]; exact wkV.same _) (by simp [wkB])⟩
    · obtain rfl : k = l[i].heads.length := by omega
      have e1 : List.take l[i].heads.length ((l[i].heads.map fun h => qt (keyN h)).map fun x => AV.lit (.string x)) = (l[i].heads.map fun h => qt (keyN h)).map fun x => AV.lit (.string x) := List.take_of_length_le (by simp)
      have key := fun (Q : Ex → AS → Prop) => yarn_b3 hE l[i] (hs _ (List.getElem_mem hlt)) l i Q out hzo
      simp only [List.map_map] at e1 key ⊢
      simp [e1]
      refine key _ ?_
      rw [heq]
      simp
      refine ⟨i + 1, by omega, by omega, Wk.both (by simp [wkL, wkV.same]; rw [wrapN (by omega)]; exact wkV.same _) trivial⟩
  · obtain rfl : i = l.length := by omega
    have e1 : List.take l.length (l.map entT) = l.map entT := List.take_of_length_le (by simp)
    simp
    try rw [e1]
    try simp
    exact Fin_ret rfl (by rw [yarnT, if_pos hk]; rfl)
end
end Go.Proofs.YticockdhfglolaaGreatDoor.Vm
namespace Go.Proofs.YticockdhfglolaaGreatDoor.Vm
open Go Go.RowKit
set_option linter.unusedVariables false
set_option linter.unusedSimpArgs false
def v6 : VC := .seq (.reg false [⟨some 2, .as (.c (.lit (.bool false))), none⟩] [2]) (.seq (.reg false [⟨some 3, .as (.c (.lit (.int .i64 1048576))), none⟩] []) (.seq (.reg false [⟨some 7, .mv (.t 0), none⟩, ⟨some 8, .mv (.t 3), none⟩, ⟨some 9, .call false 20 [(.t 7), (.t 8)], none⟩, ⟨some 3, .as (.t 9), none⟩] [7, 8, 9]) (.seq (.seq (.reg false [⟨some 10, .mv (.t 3), none⟩, ⟨some 11, .bin .lss 0 (.t 10) (.c (.lit (.int .i64 0))), none⟩] [10]) (.cond (.t 11) (.seq (.reg false [⟨some 2, .as (.c (.lit (.bool true))), none⟩] []) (.ret)) (.skip))) (.seq (.reg false [⟨some 12, .mv (.t 0), none⟩, ⟨some 13, .call false 22 [(.t 12)], none⟩, ⟨some 14, .call false 25 [(.t 13)], none⟩, ⟨some 4, .as (.t 14), none⟩] [12, 13, 14]) (.seq (.reg false [⟨some 15, .mv (.t 0), none⟩, ⟨some 16, .call false 22 [(.t 15)], none⟩, ⟨some 5, .as (.t 16), none⟩] [15, 16]) (.seq (.reg false [⟨some 17, .mv (.t 5), none⟩, ⟨some 18, .call false 26 [(.t 17)], none⟩, ⟨some 6, .as (.t 18), none⟩] [17, 18]) (.seq (.seq (.reg false [⟨some 19, .mv (.t 6), none⟩, ⟨some 20, .mv (.t 4), none⟩, ⟨some 21, .bin .neq 0 (.t 19) (.t 20), none⟩] [19, 20]) (.cond (.t 21) (.seq (.reg false [⟨some 2, .as (.c (.lit (.bool false))), none⟩] []) (.ret)) (.skip))) (.seq (.seq (.reg false [⟨some 22, .mv (.t 5), none⟩, ⟨some 23, .mv (.t 0), none⟩, ⟨some 24, .call false 22 [(.t 23)], none⟩, ⟨some 25, .call false 24 [(.t 22), (.t 24)], none⟩, ⟨some 26, .un .not (.t 25), none⟩] [22, 23, 24, 25]) (.cond (.t 26) (.seq (.reg false [⟨some 2, .as (.c (.lit (.bool false))), none⟩] []) (.ret)) (.skip))) (.seq (.reg false [⟨some 2, .as (.c (.lit (.bool true))), none⟩] []) (.ret))))))))))
theorem is6 : Is Go.Proofs.Tryz.prog 6 27 v6 [.t 2] := ⟨Go.Proofs.Tryz.f6, dl [(0, [2]), (2, [7, 8, 9]), (3, [10]), (5, [12, 13, 14]), (6, [15, 16]), (7, [17, 18]), (8, [19, 20]), (10, [22, 23, 24, 25])], Go.Proofs.Tryz.func6, by kernel_rfl, by kernel_rfl, by kernel_rfl, by kernel_rfl⟩
section
variable {E : Env} (hE : E.P = Go.Proofs.Tryz.prog) (hZ : ∀ w, E.K w → KZ w)
include hE hZ
set_option maxHeartbeats 1000000 in
theorem yarnLaw_fx (l : List En) (hg : GoodL En.good l) : Fx E 6 [] [.sl ro 5 (l.map fun x => .agg x.av)] [] (.lit (.bool true)) := by
  obtain ⟨g1, g2⟩ := hg
  refine (is6.to hE).fx [] (by simp) rfl rfl ?_
  simp [v6]
  refine vcall_go (szEntryS_fx hE l 1048576 g2 (by omega) (by omega) g1) (by simp) (by simp) (by simp) (by simp) ?_
  simp
  by_cases c1 : szL En.sz l 1048576 < 0
  · simp [c1]
    exact Fin_ret rfl rfl
  obtain ⟨s1, s2⟩ := Ens.small_of (l := l) (by omega)
  have hx : ∀ x ∈ l, x.heads.length ≤ 1048576 ∧ x.needs.length ≤ 1048576 := fun x hm => ⟨(s2 x hm).1.1, (s2 x hm).2.2.2.2.1⟩
  have hto := toEntryS_fx hE l s1 hx
  simp [c1]
  refine vcall_go hto (by simp) (by simp) (by simp) (by simp) ?_
  simp
  refine vcall_go (specYarn_fx hE l s1 s2) (by simp) (by simp) (by simp) (by simp) ?_
  simp
  refine vcall_go hto (by simp) (by simp) (by simp) (by simp) ?_
  simp
  refine vcall_go (implYarn_fx hE hZ l s1 s2) (by simp) (by simp) (by simp) (by simp) ?_
  simp
  refine vcall_go hto (by simp) (by simp) (by simp) (by simp) ?_
  simp
  refine vcall_go (eqEntryS_fx hE l l s1 hx) (by simp) (by simp) (by simp) (by simp) ?_
  simp [all2_same En.eq_refl]
  exact Fin_ret rfl rfl
end
end Go.Proofs.YticockdhfglolaaGreatDoor.Vm
