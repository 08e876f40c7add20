/- Ranges: plain laws, more. -/
import Derived.Test.YtgegcfhifojjiaaDoorRa
namespace Go.Proofs.YtgegcfhifojjiaaDoor.Vm
open Go Go.RowKit
set_option linter.unusedVariables false
set_option linter.unusedSimpArgs false
theorem occ_app (a p b : ByteArray) : Lib.occAt (a ++ p ++ b).data.toList p.data.toList a.size = true := by
  unfold Lib.occAt
  rw [List.isPrefixOf_iff_prefix]
  refine ⟨b.data.toList, ?_⟩
  have : a.size = a.data.toList.length := by simp
  simp only [ByteArray.data_append, Array.toList_append, List.append_assoc]
  rw [this, List.drop_left]
theorem occ_split {s p : ByteArray} {i : Nat} (hi : i ≤ s.size) (h : Lib.occAt s.data.toList p.data.toList i = true) : s = s.extract 0 i ++ p ++ s.extract (i + p.size) s.size := by
  unfold Lib.occAt at h
  rw [List.isPrefixOf_iff_prefix] at h
  obtain ⟨t, ht⟩ := h
  have hz : s.data.size = s.size := rfl
  have e : s.data.toList = s.data.toList.take i ++ (p.data.toList ++ t) := by rw [ht, List.take_append_drop]
  have ht2 : s.data.toList.drop (i + p.size) = t := by
    rw [← List.drop_drop, ← ht]
    have : p.size = p.data.toList.length := by simp
    rw [this, List.drop_left]
  refine ba_ext ?_
  simp only [ByteArray.data_append, Array.toList_append, ByteArray.data_extract, Array.toList_extract, List.extract_eq_take_drop, List.drop_zero, Nat.sub_zero, List.append_assoc]
  rw [show s.size - (i + p.size) = (s.data.toList.drop (i + p.size)).length by simp, List.take_length, ht2]
  exact e
theorem index_cases (s p : ByteArray) : (Lib.indexB s p = -1 ∧ ∀ a b, s ≠ a ++ p ++ b) ∨ ∃ i : Nat, Lib.indexB s p = i ∧ i ≤ s.size ∧ s = s.extract 0 i ++ p ++ s.extract (i + p.size) s.size ∧ ∀ a b, s = a ++ p ++ b → i ≤ a.size := by
  have hl : s.data.toList.length = s.size := by simp
  rcases Lib.index_spec s.data.toList p.data.toList with ⟨h1, h2⟩ | ⟨i, h1, h2, h3, h4⟩
  · refine .inl ⟨h1, fun a b e => ?_⟩
    have := h2 a.size (by rw [e]; simp)
    rw [e, occ_app] at this
    cases this
  · refine .inr ⟨i, h1, by omega, occ_split (by omega) h3, fun a b e => ?_⟩
    rcases Nat.lt_or_ge a.size i with h | h
    · have := h4 a.size h
      rw [e, occ_app] at this
      cases this
    · exact h
theorem sgn_lt {t : ByteArray} : sgnO (lt1 ++ t) = if isVer t = true then some (by8 "", t) else none := by
  by_cases h : isVer t = true
  · rw [if_pos h, sgn_high h]
  · rw [if_neg h]
    cases hs : sgnO (lt1 ++ t) with
    | none => rfl
    | some p =>
      obtain ⟨l, q⟩ := p
      rcases sgn_inv hs with ⟨_, _, e⟩ | ⟨_, h2, e⟩ | ⟨_, _, e⟩
      · have h3 := lt_not_ge (t := t)
        rw [e, hasP_iff.2 ⟨l, rfl⟩] at h3; cases h3
      · rw [app_inj e] at h; exact absurd h2 h
      · have h3 := lt_not_ge (t := t)
        rw [e, hasP_iff.2 ⟨l ++ sl2 ++ q, by simp only [ByteArray.append_assoc]⟩] at h3; cases h3
theorem sgn_cut_none {t : ByteArray} (hn : ∀ a b, t ≠ a ++ sl2 ++ b) : sgnO (ge2 ++ t) = if isVer t = true then some (t, by8 "") else none := by
  by_cases h : isVer t = true
  · rw [if_pos h, sgn_low h]
  · rw [if_neg h]
    cases hs : sgnO (ge2 ++ t) with
    | none => rfl
    | some p =>
      obtain ⟨l, q⟩ := p
      rcases sgn_inv hs with ⟨h2, _, e⟩ | ⟨_, h2, e⟩ | ⟨_, _, e⟩
      · rw [app_inj e] at h; exact absurd h2 h
      · have h3 := ge_not_lt (t := t)
        rw [e, hasP_iff.2 ⟨q, rfl⟩] at h3; cases h3
      · have e2 : ge2 ++ t = ge2 ++ (l ++ sl2 ++ q) := by rw [e]; simp only [ByteArray.append_assoc]
        exact absurd (app_inj e2) (hn _ _)
theorem app_size_inj {a b c d : ByteArray} (h : a ++ b = c ++ d) (hz : a.size = c.size) : a = c ∧ b = d := by
  have h1 := ext_appL a b
  rw [h, hz, ext_appL] at h1
  subst h1
  exact ⟨rfl, app_inj h⟩
theorem sgn_cut_some {v w : ByteArray} (hf : ∀ a b, v ++ sl2 ++ w = a ++ sl2 ++ b → v.size ≤ a.size) : sgnO (ge2 ++ (v ++ sl2 ++ w)) = if isVer v = true ∧ isVer w = true then some (v, w) else none := by
  by_cases h : isVer v = true ∧ isVer w = true
  · rw [if_pos h, ← sgn_both h.1 h.2]
    simp only [ByteArray.append_assoc]
  · rw [if_neg h]
    cases hs : sgnO (ge2 ++ (v ++ sl2 ++ w)) with
    | none => rfl
    | some p =>
      obtain ⟨l, q⟩ := p
      rcases sgn_inv hs with ⟨h2, _, e⟩ | ⟨_, h2, e⟩ | ⟨h2, h3, e⟩
      · have := ver32 h2
        rw [← app_inj e, free_app, free_app, sl2_eq, free_app] at this
        exact absurd (by decide +kernel : bt (one 32) 0 = 32) (this.1.2.1 0 (by decide))
      · have h3 := ge_not_lt (t := v ++ sl2 ++ w)
        rw [e, hasP_iff.2 ⟨q, rfl⟩] at h3; cases h3
      · have e2 : ge2 ++ (v ++ sl2 ++ w) = ge2 ++ (l ++ sl2 ++ q) := by rw [e]; simp only [ByteArray.append_assoc]
        have e3 := app_inj e2
        have h4 := hf l q e3
        rcases Nat.lt_or_ge v.size l.size with h5 | h5
        · have h6 := ver32 h2 v.size h5
          have e4 : bt (v ++ sl2 ++ w) v.size = 32 := by
            have := bt_appR (a := v) (b := sl2 ++ w) (j := 0) (by rw [ByteArray.size_append, sl2_size]; omega)
            rw [Nat.add_zero] at this
            rw [ByteArray.append_assoc, this, bt_appL (by decide +kernel)]
            decide +kernel
          rw [e3, ByteArray.append_assoc, bt_appL h5] at e4
          exact absurd e4 h6
        · have h6 : v.size = l.size := by omega
          rw [ByteArray.append_assoc, ByteArray.append_assoc] at e3
          obtain ⟨rfl, e4⟩ := app_size_inj e3 h6
          rw [app_inj e4] at h
          exact absurd ⟨h2, h3⟩ h
theorem sgn_else {s : ByteArray} (h1 : hasP s ge2 = false) (h2 : hasP s lt1 = false) : sgnO s = none := by
  cases hs : sgnO s with
  | none => rfl
  | some p =>
    obtain ⟨l, q⟩ := p
    rcases sgn_inv hs with ⟨_, _, e⟩ | ⟨_, _, e⟩ | ⟨_, _, e⟩
    · rw [e, hasP_iff.2 ⟨_, rfl⟩] at h1; cases h1
    · rw [e, hasP_iff.2 ⟨_, rfl⟩] at h2; cases h2
    · rw [e, hasP_iff.2 ⟨l ++ sl2 ++ q, by simp only [ByteArray.append_assoc]⟩] at h1; cases h1
/-- one or two numbers -/
noncomputable def shortO (s : ByteArray) : Option (ByteArray × ByteArray) := match spl 46 s with
  | [a] => if 0 ≤ readDec a ∧ verOk ⟨readDec a + 1, 0, 0, []⟩ = true then some (verT ⟨readDec a, 0, 0, []⟩, verT ⟨readDec a + 1, 0, 0, [by8 "0"]⟩) else none
  | [a, b] => if (0 ≤ readDec a ∧ 0 ≤ readDec b) ∧ verOk ⟨readDec a, readDec b + 1, 0, []⟩ = true then some (verT ⟨readDec a, readDec b, 0, []⟩, verT ⟨readDec a, readDec b + 1, 0, [by8 "0"]⟩) else none
  | _ => none
theorem dec0 : decT 0 = by8 "0" := by decide +kernel
theorem verOk_nums {a b c : Nat} (ha : a ≤ 999999999) (hb : b ≤ 999999999) (hc : c ≤ 999999999) : verOk ⟨a, b, c, []⟩ = true := by
  simp [verOk, inR]; omega
theorem verT_nums {a b c : Nat} (ha : a ≤ 999999999) (hb : b ≤ 999999999) (hc : c ≤ 999999999) : verT ⟨a, b, c, []⟩ = joinB [decT a, decT b, decT c] (one 46) := by
  rw [verT, if_pos (verOk_nums ha hb hc), coreT_join]
  simp only [preT, app_nil, Int.toNat_natCast]
/-- a version without texts, by its parts -/
theorem ver_parts {s : ByteArray} {v : Ver} (h : readVer s = some v) (hp : v.pre = []) : ∃ a b c : Nat, (a ≤ 999999999 ∧ b ≤ 999999999 ∧ c ≤ 999999999) ∧ v = ⟨a, b, c, []⟩ ∧ spl 46 s = [decT a, decT b, decT c] := by
  obtain ⟨h1, h2⟩ := ver_back h
  obtain ⟨⟨a, e1, k1⟩, ⟨b, e2, k2⟩, ⟨c, e3, k3⟩, _, _⟩ := verOk_b h1
  obtain ⟨maj, min, pat, pre⟩ := v
  simp only at e1 e2 e3 hp
  subst e1 e2 e3 hp
  refine ⟨a, b, c, ⟨k1, k2, k3⟩, rfl, ?_⟩
  have e : verT ⟨a, b, c, []⟩ = coreT ⟨a, b, c, []⟩ := by rw [verT, if_pos h1]; simp only [preT, app_nil]
  rw [← h2, e, core_spl]
  simp only [Int.toNat_natCast]
theorem dec_of {a : ByteArray} (h : 0 ≤ readDec a) : ∃ n : Nat, n ≤ 999999999 ∧ a = decT n ∧ readDec a = n := by
  rcases readDec_cases a with h1 | ⟨n, h1, h2, h3⟩
  · omega
  · exact ⟨n, h1, h2.symm, h3⟩
theorem joinB_app {qs : List ByteArray} (hne : qs ≠ []) : ∀ (ps : List ByteArray), ps ≠ [] → joinB ps (one 46) ++ (one 46 ++ joinB qs (one 46)) = joinB (ps ++ qs) (one 46)
  | [], h => absurd rfl h
  | [x], _ => by rw [joinB_one, List.singleton_append, joinB_cons' _ _ hne, ByteArray.append_assoc]
  | x :: y :: r, _ => by
    rw [joinB_cons, List.cons_append, List.cons_append, joinB_cons, ← List.cons_append, ← joinB_app hne (y :: r) (by simp)]
    simp only [ByteArray.append_assoc]
theorem spl_app {s t : ByteArray} {ps qs : List ByteArray} (hs : spl 46 s = ps) (hq : ∀ p ∈ qs, free 46 p) (hne : qs ≠ []) (ht : t = one 46 ++ joinB qs (one 46)) : spl 46 (s ++ t) = ps ++ qs := by
  have h1 := join_spl 46 s.size s (Nat.le_refl _)
  have h2 := spl_free 46 s.size s (Nat.le_refl _)
  have h3 := spl_ne 46 s
  rw [hs] at h1 h2 h3
  rw [← h1, ht, joinB_app hne ps h3, spl_join 46 _ (by simp [hne])]
  intro p hp
  rcases List.mem_append.1 hp with h | h
  · exact h2 p h
  · exact hq p h
theorem zero46 : free 46 (by8 "0") := zero_free
theorem short_one {s : ByteArray} {a : ByteArray} (hs : spl 46 s = [a]) {v : Ver} (h : readVer (s ++ by8 ".0.0") = some v) (hp : v.pre = []) : ∃ n : Nat, n ≤ 999999999 ∧ a = decT n ∧ readDec a = n ∧ v = ⟨n, 0, 0, []⟩ := by
  obtain ⟨x, y, z, ⟨k1, k2, k3⟩, rfl, hsp⟩ := ver_parts h hp
  rw [spl_app (qs := [by8 "0", by8 "0"]) hs (by simp [zero46]) (by simp) (by decide +kernel)] at hsp
  simp only [List.cons_append, List.nil_append, List.cons.injEq, and_true] at hsp
  obtain ⟨e1, e2, e3⟩ := hsp
  rw [← dec0] at e2 e3
  have := decT_inj e2; have := decT_inj e3
  subst_vars
  exact ⟨x, k1, rfl, readDec_some k1, rfl⟩
theorem short_two {s : ByteArray} {a b : ByteArray} (hs : spl 46 s = [a, b]) {v : Ver} (h : readVer (s ++ by8 ".0") = some v) (hp : v.pre = []) : ∃ n m : Nat, (n ≤ 999999999 ∧ m ≤ 999999999) ∧ (readDec a = n ∧ readDec b = m) ∧ v = ⟨n, m, 0, []⟩ := by
  obtain ⟨x, y, z, ⟨k1, k2, k3⟩, rfl, hsp⟩ := ver_parts h hp
  rw [spl_app (qs := [by8 "0"]) hs (by simp [zero46]) (by simp) (by decide +kernel)] at hsp
  simp only [List.cons_append, List.nil_append, List.cons.injEq, and_true] at hsp
  obtain ⟨e1, e2, e3⟩ := hsp
  rw [← dec0] at e3
  have := decT_inj e3
  subst_vars
  exact ⟨x, y, ⟨k1, k2⟩, ⟨readDec_some k1, readDec_some k2⟩, rfl⟩
theorem short_one_back {s a : ByteArray} (hs : spl 46 s = [a]) (h : 0 ≤ readDec a) : verT ⟨readDec a, 0, 0, []⟩ = s ++ by8 ".0.0" ∧ readVer (s ++ by8 ".0.0") = some ⟨readDec a, 0, 0, []⟩ := by
  obtain ⟨n, k, rfl, e⟩ := dec_of h
  have hj := join_spl 46 s.size s (Nat.le_refl _)
  rw [hs, joinB_one] at hj
  subst hj
  rw [e]
  have e2 : verT ⟨n, 0, 0, []⟩ = decT n ++ by8 ".0.0" := by
    have := verT_nums (a := n) (b := 0) (c := 0) k (by omega) (by omega)
    refine this.trans ?_
    rw [joinB_cons, joinB_cons, joinB_one, dec0, ByteArray.append_assoc]
    congr 1
  have hv : verOk ⟨n, 0, 0, []⟩ = true := verOk_nums (b := 0) (c := 0) k (by omega) (by omega)
  exact ⟨e2, by rw [← e2, ver_round hv]⟩
theorem short_two_back {s a b : ByteArray} (hs : spl 46 s = [a, b]) (h : 0 ≤ readDec a) (h2 : 0 ≤ readDec b) : verT ⟨readDec a, readDec b, 0, []⟩ = s ++ by8 ".0" ∧ readVer (s ++ by8 ".0") = some ⟨readDec a, readDec b, 0, []⟩ := by
  obtain ⟨n, k, rfl, e⟩ := dec_of h
  obtain ⟨m, k2, rfl, e'⟩ := dec_of h2
  have hj := join_spl 46 s.size s (Nat.le_refl _)
  rw [hs, joinB_cons, joinB_one] at hj
  subst hj
  rw [e, e']
  have e2 : verT ⟨n, m, 0, []⟩ = decT n ++ one 46 ++ decT m ++ by8 ".0" := by
    have := verT_nums (a := n) (b := m) (c := 0) k k2 (by omega)
    refine this.trans ?_
    rw [joinB_cons, joinB_cons, joinB_one, dec0]
    simp only [ByteArray.append_assoc]
    congr 1
  have hv : verOk ⟨n, m, 0, []⟩ = true := verOk_nums (c := 0) k k2 (by omega)
  exact ⟨e2, by rw [← e2, ver_round hv]⟩
end Go.Proofs.YtgegcfhifojjiaaDoor.Vm
