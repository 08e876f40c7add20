/- Package URLs read back: plain laws. -/
import Derived.Test.YtgegcfhifojjiaaGreatDoorGp
namespace Go.Proofs.YtgegcfhifojjiaaGreatDoor.Vm
open Go Go.RowKit
set_option linter.unusedVariables false
set_option linter.unusedSimpArgs false
theorem pct_free {c : UInt8} (h1 : safeB c = false) (h2 : c ≠ 37) (s : ByteArray) : free c (pct s) := by
  rw [free_iff]
  intro b hb e
  subst e
  rcases pctL_all _ _ hb with h | h
  · rw [h1] at h; cases h
  · exact h2 h
theorem key_hit {a b : ByteArray} (h : free 64 b) : keyA (a ++ by8 "@" ++ b) = a ∧ keyB (a ++ by8 "@" ++ b) = b := by
  have e : by8 "@" = one 64 := by decide +kernel
  rw [e]
  have hz : (a ++ one 64 ++ b).size = a.size + 1 + b.size := by rw [ByteArray.size_append, ByteArray.size_append, one_size]
  have hl : lastC 64 (a ++ one 64 ++ b) = a.size := by
    refine lastC_hit (by omega) ?_ fun j h1 h2 => ?_
    · rw [bt_appL (by rw [ByteArray.size_append, one_size]; omega)]
      have := bt_appR (a := a) (b := one 64) (j := 0) (by rw [one_size]; omega)
      rw [Nat.add_zero] at this
      rw [this]; rfl
    · obtain ⟨k, rfl⟩ : ∃ k, j = (a ++ one 64).size + k := ⟨j - (a.size + 1), by rw [ByteArray.size_append, one_size]; omega⟩
      rw [ByteArray.size_append, one_size] at h2
      rw [bt_appR (by omega)]
      exact h k (by omega)
  have e2 := ext_appR (a ++ one 64) b _ rfl
  rw [ByteArray.size_append, one_size] at e2
  unfold keyA keyB
  rw [hl, if_neg (by omega), if_neg (by omega), Int.toNat_natCast]
  exact ⟨by rw [ByteArray.append_assoc]; exact ext_appL _ _, e2⟩
theorem kind_all {p : Int → ByteArray → Prop} (h0 : p 0 (by8 "npm")) (h1 : p 1 (by8 "cargo")) (h2 : p 2 (by8 "golang")) (h3 : p 3 (by8 "pypi")) {k : Int} (h : kindT k ≠ by8 "") : p k (kindT k) := by
  cases c : inR k 0 3
  · exact absurd (kindT_out c) h
  · obtain ⟨n, rfl, hn⟩ : ∃ n : Nat, k = n ∧ n < 4 := by simp [inR] at c; exact ⟨k.toNat, by omega, by omega⟩
    match n, hn with
    | 0, _ => exact h0
    | 1, _ => exact h1
    | 2, _ => exact h2
    | 3, _ => exact h3
theorem kind_free {k : Int} (h : kindT k ≠ by8 "") : free 47 (kindT k) ∧ 0 < (kindT k).size :=
  kind_all (p := fun _ s => free 47 s ∧ 0 < s.size) ⟨free_dec (by decide +kernel), by decide +kernel⟩ ⟨free_dec (by decide +kernel), by decide +kernel⟩ ⟨free_dec (by decide +kernel), by decide +kernel⟩ ⟨free_dec (by decide +kernel), by decide +kernel⟩ h
def unP (s : ByteArray) : ByteArray → ByteArray := fun _ => s
noncomputable def dePct (p : ByteArray) : ByteArray := (unPct p).getD (by8 "")
theorem dePct_size (p : ByteArray) : (dePct p).size ≤ p.size := by
  unfold dePct
  cases h : unPct p with
  | none => rw [Option.getD_none, by8_nil]; omega
  | some t => exact unPct_size h
theorem dePct_pct (p : ByteArray) : dePct (pct p) = p := by rw [dePct, unPct_pct]; rfl
theorem dePct_map (ps : List ByteArray) : (ps.map pct).map dePct = ps := by
  rw [List.map_map]
  exact (List.map_congr_left fun p _ => dePct_pct p).trans (List.map_id ps)
theorem pctRes_eq (s : ByteArray) : pctRes s = .tup [.lit (.string (dePct s)), .lit (.bool (unPct s).isSome)] := by
  unfold pctRes dePct
  cases unPct s <;> rfl
/-- the reference's way -/
noncomputable def sN (s : ByteArray) : ByteArray := joinB (((spl 47 (keyA s)).drop 1).map dePct) (one 47)
noncomputable def sO (s : ByteArray) : Bool := (unPct (keyB s)).isSome && ((spl 47 (keyA s)).drop 1).all fun p => (unPct p).isSome
/-- the program's way -/
def iCut (s : ByteArray) : ByteArray × ByteArray := if 0 ≤ Lib.indexB s (one 47) then (s.extract 0 (Lib.indexB s (one 47)).toNat, s.extract ((Lib.indexB s (one 47)).toNat + 1) s.size) else (s, by8 "")
def idxS : List ByteArray → ByteArray → Nat → Int
  | [], _, _ => -1
  | x :: r, v, i => if v = x then i else idxS r v (i + 1)
def iK (s : ByteArray) : Int := idxS kinds (iCut (trimP s (by8 "pkg:"))).1 0
def iR (s : ByteArray) : ByteArray := (iCut (trimP s (by8 "pkg:"))).2
noncomputable def iN (s : ByteArray) : ByteArray := joinB ((spl 47 (keyA (iR s))).map dePct) (one 47)
noncomputable def iV (s : ByteArray) : ByteArray := dePct (keyB (iR s))
theorem purl_some {k : Int} {n v s : ByteArray} (h : purlT k n v = s) (hs : s ≠ by8 "") : kindT k ≠ by8 "" ∧ s = by8 "pkg:" ++ kindT k ++ barT (spl 47 n) ++ by8 "@" ++ pct v := by
  unfold purlT at h
  split at h
  · exact absurd h.symm hs
  · rename_i c
    exact ⟨fun e => c (.inl e), h.symm⟩
theorem bar_join (n : ByteArray) : barT (spl 47 n) = one 47 ++ joinB ((spl 47 n).map pct) (one 47) := by
  have e : by8 "/" = one 47 := by decide +kernel
  cases h : spl 47 n with
  | nil => exact absurd h (spl_ne 47 n)
  | cons p r => rw [← joinB_bar p r, e]
theorem safe47 : safeB 47 = false := by decide +kernel
theorem safe64 : safeB 64 = false := by decide +kernel
theorem purl_spec {k : Int} {n v s : ByteArray} (h : purlT k n v = s) (hs : s ≠ by8 "") : sN s = n ∧ dePct (keyB s) = v ∧ sO s = true := by
  obtain ⟨hk, rfl⟩ := purl_some h hs
  obtain ⟨k1, k2⟩ := key_hit (a := by8 "pkg:" ++ kindT k ++ barT (spl 47 n)) (pct_free safe64 (by decide) v)
  have hx : free 47 (by8 "pkg:" ++ kindT k) := free_app.2 ⟨free_dec (by decide +kernel), (kind_free hk).1⟩
  have hsp : spl 47 (by8 "pkg:" ++ kindT k ++ barT (spl 47 n)) = (by8 "pkg:" ++ kindT k) :: (spl 47 n).map pct := by
    rw [bar_join, ← ByteArray.append_assoc, ← joinB_cons' _ _ (by simp [spl_ne])]
    refine spl_join 47 _ (by simp) fun p hp => ?_
    rcases List.mem_cons.1 hp with rfl | hp
    · exact hx
    · obtain ⟨q, _, rfl⟩ := List.mem_map.1 hp
      exact pct_free safe47 (by decide) q
  refine ⟨?_, by rw [k2, dePct_pct], ?_⟩
  · rw [sN, k1, hsp, List.drop_succ_cons, List.drop_zero, dePct_map]
    exact join_spl 47 n.size n (Nat.le_refl _)
  · rw [sO, k1, k2, hsp, unPct_pct, List.drop_succ_cons, List.drop_zero, List.all_map]
    simp only [Option.isSome_some, Bool.true_and, List.all_eq_true]
    intro p _
    simp [unPct_pct]
theorem trimP_hit (a b : ByteArray) : trimP (a ++ b) a = b := by
  unfold trimP hasP Lib.hasPrefix
  rw [if_pos (by rw [ByteArray.data_append, Array.toList_append]; simp), ext_appR a b _ rfl]
theorem purl_impl {k : Int} {n v s : ByteArray} (h : purlT k n v = s) (hs : s ≠ by8 "") : iK s = k ∧ iN s = n ∧ iV s = v := by
  obtain ⟨hk, rfl⟩ := purl_some h hs
  obtain ⟨hf, hz⟩ := kind_free hk
  have e1 : trimP (by8 "pkg:" ++ kindT k ++ barT (spl 47 n) ++ by8 "@" ++ pct v) (by8 "pkg:") = kindT k ++ (one 47 ++ (joinB ((spl 47 n).map pct) (one 47) ++ by8 "@" ++ pct v)) := by
    rw [bar_join]
    simp only [ByteArray.append_assoc]
    exact trimP_hit _ _
  have e2 : iCut (kindT k ++ (one 47 ++ (joinB ((spl 47 n).map pct) (one 47) ++ by8 "@" ++ pct v))) = (kindT k, joinB ((spl 47 n).map pct) (one 47) ++ by8 "@" ++ pct v) := by
    obtain ⟨r, hr⟩ : ∃ r, joinB ((spl 47 n).map pct) (one 47) ++ by8 "@" ++ pct v = r := ⟨_, rfl⟩
    rw [hr]
    have hb : bt (kindT k ++ (one 47 ++ r)) (kindT k).size = 47 := by
      have := bt_appR (a := kindT k) (b := one 47 ++ r) (j := 0) (by rw [ByteArray.size_append, one_size]; omega)
      rw [Nat.add_zero] at this
      rw [this, bt_appL (by rw [one_size]; omega)]
      rfl
    have hi := idx_hit (s := kindT k ++ (one 47 ++ r)) (i := (kindT k).size) (c := 47) (by rw [ByteArray.size_append, ByteArray.size_append, one_size]; omega) hb fun j hj => by rw [bt_appL hj]; exact hf j hj
    have e3 := ext_appR (kindT k ++ one 47) r _ rfl
    rw [ByteArray.size_append, one_size, ByteArray.append_assoc] at e3
    rw [iCut, hi, if_pos (by omega), Int.toNat_natCast, ext_appL, e3]
  obtain ⟨k1, k2⟩ := key_hit (a := joinB ((spl 47 n).map pct) (one 47)) (pct_free safe64 (by decide) v)
  have hsp : spl 47 (joinB ((spl 47 n).map pct) (one 47)) = (spl 47 n).map pct := spl_join 47 _ (by simp [spl_ne]) fun p hp => by
    obtain ⟨q, _, rfl⟩ := List.mem_map.1 hp
    exact pct_free safe47 (by decide) q
  refine ⟨?_, ?_, ?_⟩
  · rw [iK, e1, e2]
    exact kind_all (p := fun k s => idxS kinds s 0 = k) (by decide +kernel) (by decide +kernel) (by decide +kernel) (by decide +kernel) hk
  · rw [iN, iR, e1, e2]
    simp only
    rw [k1, hsp, dePct_map]
    exact join_spl 47 n.size n (Nat.le_refl _)
  · rw [iV, iR, e1, e2]
    simp only
    rw [k2, dePct_pct]
noncomputable def gpRes (s : ByteArray) : AV := if s = by8 "" ∨ purlT (iK s) (iN s) (iV s) ≠ s then .tup [.lit (.int .i64 (-1)), .lit (.string (by8 "")), .lit (.string (by8 ""))] else .tup [.lit (.int .i64 (iK s)), .lit (.string (iN s)), .lit (.string (iV s))]
theorem gpRes_ok (s : ByteArray) : resOk (gpRes s) = true := by unfold gpRes; split <;> rfl
theorem gpRes_hit {k : Int} {n v s : ByteArray} (h : purlT k n v = s) (hs : s ≠ by8 "") : gpRes s = .tup [.lit (.int .i64 k), .lit (.string n), .lit (.string v)] := by
  obtain ⟨h1, h2, h3⟩ := purl_impl h hs
  rw [gpRes, h1, h2, h3, if_neg (by rintro (h4 | h4); exact hs h4; exact h4 h)]
theorem gpRes_miss {s : ByteArray} (h : ∀ k : Nat, k < 4 → ¬ (sO s = true ∧ s ≠ by8 "" ∧ purlT k (sN s) (dePct (keyB s)) = s)) : gpRes s = .tup [.lit (.int .i64 (-1)), .lit (.string (by8 "")), .lit (.string (by8 ""))] := by
  unfold gpRes
  split
  · rfl
  · rename_i c
    exfalso
    have c1 : s ≠ by8 "" := fun e => c (.inl e)
    have c2 : purlT (iK s) (iN s) (iV s) = s := Classical.byContradiction fun e => c (.inr e)
    obtain ⟨g1, g2, g3⟩ := purl_spec c2 c1
    obtain ⟨hk, _⟩ := purl_some c2 c1
    have hr : ∃ n : Nat, iK s = n ∧ n < 4 := kind_all (p := fun k _ => ∃ n : Nat, k = n ∧ n < 4) ⟨0, rfl, by omega⟩ ⟨1, rfl, by omega⟩ ⟨2, rfl, by omega⟩ ⟨3, rfl, by omega⟩ hk
    obtain ⟨n, e, hn⟩ := hr
    refine h n hn ⟨g3, c1, ?_⟩
    rw [g1, g2, ← e, c2]
theorem key_sum (s : ByteArray) : (keyA s).size + (keyB s).size ≤ s.size := by
  unfold keyA keyB
  rcases lastC_cases 64 s with ⟨h, _⟩ | ⟨i, hi, _, _, h⟩
  · rw [h, if_pos (by omega), if_pos (by omega), by8_nil]; omega
  · rw [h, if_neg (by omega), if_neg (by omega), ext_size, ext_size]; omega
theorem iCut_size (s : ByteArray) : (iCut s).1.size ≤ s.size ∧ (iCut s).2.size ≤ s.size := by
  unfold iCut
  split
  · simp only [ext_size]; omega
  · simp only [by8_nil]; omega
theorem trimP_size (s p : ByteArray) : (trimP s p).size ≤ s.size := by unfold trimP; split; rw [ext_size]; omega; omega
theorem sN_size (s : ByteArray) : (sN s).size ≤ s.size := by
  have h1 := joinB_le (one 47) dePct_size ((spl 47 (keyA s)).drop 1)
  have h2 := joinB_tail (one 47) (spl 47 (keyA s))
  rw [join_spl 47 _ (keyA s) (Nat.le_refl _)] at h2
  have h3 := keyA_size s
  unfold sN; omega
theorem iR_size (s : ByteArray) : (iR s).size ≤ s.size := by
  have h1 := (iCut_size (trimP s (by8 "pkg:"))).2
  have h2 := trimP_size s (by8 "pkg:")
  unfold iR; omega
theorem iN_size (s : ByteArray) : (iN s).size ≤ s.size := by
  have h1 := joinB_le (one 47) dePct_size (spl 47 (keyA (iR s)))
  rw [join_spl 47 _ (keyA (iR s)) (Nat.le_refl _)] at h1
  have h2 := keyA_size (iR s)
  have h3 := iR_size s
  unfold iN; omega
theorem iV_size (s : ByteArray) : (iV s).size ≤ s.size := by
  have h1 := dePct_size (keyB (iR s))
  have h2 := keyB_size (iR s)
  have h3 := iR_size s
  unfold iV; omega
end Go.Proofs.YtgegcfhifojjiaaGreatDoor.Vm
