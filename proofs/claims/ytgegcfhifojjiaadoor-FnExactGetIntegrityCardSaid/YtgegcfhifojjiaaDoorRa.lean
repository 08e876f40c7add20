/- Ranges: plain laws. -/
import Derived.Test.YtgegcfhifojjiaaDoorVy
namespace Go.Proofs.YtgegcfhifojjiaaDoor.Vm
open Go Go.RowKit
set_option linter.unusedVariables false
set_option linter.unusedSimpArgs false
theorem one_free {c d : UInt8} (h : d ≠ c) : free c (one d) := by
  rw [free_iff]; intro b hb; rw [one_list] at hb
  rw [List.mem_singleton.1 hb]; exact h
theorem preOk_free {c : UInt8} (hp : preB c = false) {p : ByteArray} (h : preOk p = true) : free c p := by
  intro j hj e
  simp only [preOk, Bool.and_eq_true] at h
  have := allB_iff.1 h.1.1 j hj
  rw [e, hp] at this
  cases this
theorem tail_free {c : UInt8} (h46 : c ≠ 46) (hp : preB c = false) : ∀ (l : List ByteArray), (∀ p ∈ l, preOk p = true) → free c (tailT l)
  | [], _ => by intro j hj; rw [tailT, by8_nil] at hj; omega
  | p :: r, h => by
    rw [tailT, free_app, free_app, by46]
    exact ⟨⟨one_free (fun e => h46 e.symm), preOk_free hp (h p List.mem_cons_self)⟩, tail_free h46 hp r fun q hq => h q (List.mem_cons_of_mem _ hq)⟩
theorem ver_free {c : UInt8} (hc : c.toNat < 48 ∨ 57 < c.toNat) (h46 : c ≠ 46) (h45 : c ≠ 45) (hp : preB c = false) {s : ByteArray} (hs : isVer s = true) : free c s := by
  unfold isVer at hs
  obtain ⟨v, hv⟩ := Option.isSome_iff_exists.1 hs
  obtain ⟨h1, h2⟩ := ver_back hv
  rw [← h2, verT, if_pos h1, coreT]
  have hd := fun n => dec_free hc n
  have h4 : free c (by8 ".") := by rw [by46]; exact one_free fun e => h46 e.symm
  simp only [free_app]
  refine ⟨⟨⟨⟨⟨hd _, h4⟩, hd _⟩, h4⟩, hd _⟩, ?_⟩
  have hpr := verOk_pre h1
  cases hq : v.pre with
  | nil => intro j hj; rw [preT, by8_nil] at hj; omega
  | cons p r =>
    rw [hq] at hpr
    rw [preT, free_app, free_app, by45]
    exact ⟨⟨one_free fun e => h45 e.symm, preOk_free hp (hpr p List.mem_cons_self)⟩, tail_free h46 hp r fun q hq => hpr q (List.mem_cons_of_mem _ hq)⟩
theorem ver32 {s : ByteArray} (hs : isVer s = true) : free 32 s := ver_free (by decide) (by decide) (by decide) (by decide +kernel) hs
theorem ver64 {s : ByteArray} (hs : isVer s = true) : free 64 s := ver_free (by decide) (by decide) (by decide) (by decide +kernel) hs
theorem ver_pos {s : ByteArray} (hs : isVer s = true) : 0 < s.size := by
  rcases Nat.eq_zero_or_pos s.size with h | h
  · rw [size_nil h, isVer_nil] at hs; cases hs
  · exact h
/-- a version begins with a digit -/
theorem free_bt {c : UInt8} {s : ByteArray} (h : free c s) (h0 : 0 < s.size) : bt s 0 ≠ c := h 0 h0
def ge2 : ByteArray := by8 ">="
def lt1 : ByteArray := by8 "<"
def sl2 : ByteArray := by8 " <"
theorem ge2_eq : ge2 = one 62 ++ one 61 := by decide +kernel
theorem lt1_eq : lt1 = one 60 := by decide +kernel
theorem sl2_eq : sl2 = one 32 ++ one 60 := by decide +kernel
theorem ge2_size : ge2.size = 2 := by decide +kernel
theorem sl2_size : sl2.size = 2 := by decide +kernel
theorem hasP_iff {s p : ByteArray} : hasP s p = true ↔ ∃ t, s = p ++ t := by
  unfold hasP Lib.hasPrefix
  rw [List.isPrefixOf_iff_prefix]
  constructor
  · rintro ⟨t, ht⟩
    exact ⟨⟨t.toArray⟩, ba_ext (by simp [← ht])⟩
  · rintro ⟨t, rfl⟩
    exact ⟨t.data.toList, by simp⟩
theorem ext_app (a b : ByteArray) : (a ++ b).extract a.size (a ++ b).size = b := ext_appR a b _ rfl
theorem app_inj {a b c : ByteArray} (h : a ++ b = a ++ c) : b = c := by
  rw [← ext_app a b, h, ext_app]
/-- signs, word by word -/
noncomputable def sgnW : List ByteArray → Option (ByteArray × ByteArray)
  | [w] => if hasP w ge2 = true then (if isVer (w.extract 2 w.size) = true then some (w.extract 2 w.size, by8 "") else none) else if hasP w lt1 = true ∧ isVer (w.extract 1 w.size) = true then some (by8 "", w.extract 1 w.size) else none
  | [w, x] => if (hasP w ge2 = true ∧ isVer (w.extract 2 w.size) = true) ∧ hasP x lt1 = true ∧ isVer (x.extract 1 x.size) = true then some (w.extract 2 w.size, x.extract 1 x.size) else none
  | _ => none
noncomputable def sgnO (s : ByteArray) : Option (ByteArray × ByteArray) := sgnW (spl 32 s)
theorem lt_not_ge {t : ByteArray} : hasP (lt1 ++ t) ge2 = false := by
  cases h : hasP (lt1 ++ t) ge2
  · rfl
  · obtain ⟨u, hu⟩ := hasP_iff.1 h
    have h1 : bt (lt1 ++ t) 0 = 60 := by rw [bt_appL (by decide +kernel)]; decide +kernel
    have h2 : bt (ge2 ++ u) 0 = 62 := by rw [bt_appL (by decide +kernel)]; decide +kernel
    rw [hu, h2] at h1
    exact absurd h1 (by decide)
theorem ge_not_lt {t : ByteArray} : hasP (ge2 ++ t) lt1 = false := by
  cases h : hasP (ge2 ++ t) lt1
  · rfl
  · obtain ⟨u, hu⟩ := hasP_iff.1 h
    have h1 : bt (ge2 ++ t) 0 = 62 := by rw [bt_appL (by decide +kernel)]; decide +kernel
    have h2 : bt (lt1 ++ u) 0 = 60 := by rw [bt_appL (by decide +kernel)]; decide +kernel
    rw [hu, h2] at h1
    exact absurd h1 (by decide)
theorem spl1 {s : ByteArray} (h : free 32 s) : spl 32 s = [s] := spl_none h
theorem ge_free {l : ByteArray} (h : free 32 l) : free 32 (ge2 ++ l) := by
  rw [free_app, ge2_eq, free_app]
  exact ⟨⟨one_free (by decide), one_free (by decide)⟩, h⟩
theorem lt_free {l : ByteArray} (h : free 32 l) : free 32 (lt1 ++ l) := by
  rw [free_app, lt1_eq]
  exact ⟨one_free (by decide), h⟩
theorem ext_ge (l : ByteArray) : (ge2 ++ l).extract 2 (ge2 ++ l).size = l := by
  have := ext_app ge2 l
  rwa [ge2_size] at this
theorem ext_lt (l : ByteArray) : (lt1 ++ l).extract 1 (lt1 ++ l).size = l := ext_app lt1 l
theorem sgn_low {l : ByteArray} (h : isVer l = true) : sgnO (ge2 ++ l) = some (l, by8 "") := by
  rw [sgnO, spl1 (ge_free (ver32 h)), sgnW, if_pos (hasP_iff.2 ⟨l, rfl⟩), ext_ge, if_pos h]
theorem sgn_high {h : ByteArray} (hh : isVer h = true) : sgnO (lt1 ++ h) = some (by8 "", h) := by
  rw [sgnO, spl1 (lt_free (ver32 hh)), sgnW, lt_not_ge, if_neg (by simp), ext_lt, if_pos ⟨hasP_iff.2 ⟨h, rfl⟩, hh⟩]
theorem sgn_both {l h : ByteArray} (hl : isVer l = true) (hh : isVer h = true) : sgnO (ge2 ++ l ++ sl2 ++ h) = some (l, h) := by
  have e : ge2 ++ l ++ sl2 ++ h = joinB [ge2 ++ l, lt1 ++ h] (one 32) := by
    rw [joinB_cons, joinB_one, sl2_eq, lt1_eq]
    simp only [ByteArray.append_assoc]
  rw [sgnO, e, spl_join 32 _ (by simp) (by
    intro p hp
    simp only [List.mem_cons, List.not_mem_nil, or_false] at hp
    rcases hp with rfl | rfl
    · exact ge_free (ver32 hl)
    · exact lt_free (ver32 hh)), sgnW, ext_ge, ext_lt, if_pos ⟨⟨hasP_iff.2 ⟨l, rfl⟩, hl⟩, hasP_iff.2 ⟨h, rfl⟩, hh⟩]
/-- what signs there can be -/
theorem sgn_inv {s l h : ByteArray} (hs : sgnO s = some (l, h)) : (isVer l = true ∧ h = by8 "" ∧ s = ge2 ++ l) ∨ (l = by8 "" ∧ isVer h = true ∧ s = lt1 ++ h) ∨ (isVer l = true ∧ isVer h = true ∧ s = ge2 ++ l ++ sl2 ++ h) := by
  have hj := join_spl 32 s.size s (Nat.le_refl _)
  unfold sgnO at hs
  generalize spl 32 s = w at hs hj
  match w, hs, hj with
  | [], hs, _ => cases hs
  | [a], hs, hj =>
    rw [joinB_one] at hj
    subst hj
    simp only [sgnW] at hs
    split at hs
    · rename_i h1
      obtain ⟨t, rfl⟩ := hasP_iff.1 h1
      rw [ext_ge] at hs
      split at hs
      · rename_i h2
        obtain ⟨rfl, rfl⟩ := Prod.mk.inj (Option.some.inj hs)
        exact .inl ⟨h2, rfl, rfl⟩
      · cases hs
    · split at hs
      · rename_i h1 h2
        obtain ⟨t, rfl⟩ := hasP_iff.1 h2.1
        rw [ext_lt] at hs h2
        obtain ⟨rfl, rfl⟩ := Prod.mk.inj (Option.some.inj hs)
        exact .inr (.inl ⟨rfl, h2.2, rfl⟩)
      · cases hs
  | [a, b], hs, hj =>
    rw [joinB_cons, joinB_one] at hj
    simp only [sgnW] at hs
    split at hs
    · rename_i h1
      obtain ⟨t, rfl⟩ := hasP_iff.1 h1.1.1
      obtain ⟨u, rfl⟩ := hasP_iff.1 h1.2.1
      rw [ext_ge, ext_lt] at hs h1
      obtain ⟨rfl, rfl⟩ := Prod.mk.inj (Option.some.inj hs)
      refine .inr (.inr ⟨h1.1.2, h1.2.2, ?_⟩)
      rw [← hj, sl2_eq, lt1_eq]
      simp only [ByteArray.append_assoc]
    · cases hs
  | _ :: _ :: _ :: _, hs, _ => cases hs
end Go.Proofs.YtgegcfhifojjiaaDoor.Vm
