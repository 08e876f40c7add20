/- Versions: their texts read back; a version alone as a range: plain laws. -/
import Derived.Test.YtgegcfhifojjiaaDoorVi
namespace Go.Proofs.YtgegcfhifojjiaaDoor.Vm
open Go Go.RowKit
set_option linter.unusedVariables false
set_option linter.unusedSimpArgs false
theorem by46 : by8 "." = one 46 := by decide +kernel
theorem by45 : by8 "-" = one 45 := by decide +kernel
theorem preT_join (p : ByteArray) (r : List ByteArray) : preT (p :: r) = one 45 ++ joinB (p :: r) (one 46) := by
  rw [← by46, joinB_pre, preT, by45, ByteArray.append_assoc]
theorem dec_free {c : UInt8} (h : c.toNat < 48 ∨ 57 < c.toNat) (n : Nat) : free c (decT n) := by
  rw [free_iff]
  intro b hb e
  subst e
  have := dec_digits n b (by rwa [← decT_list])
  unfold isD at this
  omega
theorem coreT_join (v : Ver) : coreT v = joinB [decT v.maj.toNat, decT v.min.toNat, decT v.pat.toNat] (one 46) := by
  rw [coreT, joinB_cons, joinB_cons, joinB_one, by46]
  simp only [ByteArray.append_assoc]
theorem core_free (v : Ver) : free 45 (coreT v) := by
  rw [coreT]
  simp only [free_app]
  have h := fun n => dec_free (c := 45) (by decide) n
  exact ⟨⟨⟨⟨h _, free_dec (by decide +kernel)⟩, h _⟩, free_dec (by decide +kernel)⟩, h _⟩
theorem core_spl (v : Ver) : spl 46 (coreT v) = [decT v.maj.toNat, decT v.min.toNat, decT v.pat.toNat] := by
  rw [coreT_join]
  refine spl_join 46 _ (by simp) fun p hp => ?_
  have h := fun n => dec_free (c := 46) (by decide) n
  simp only [List.mem_cons, List.not_mem_nil, or_false] at hp
  rcases hp with rfl | rfl | rfl
  · exact h _
  · exact h _
  · exact h _
/-- what is read out of such a text -/
theorem cand_text (a b c : Nat) (ha : a ≤ 999999999) (hb : b ≤ 999999999) (hc : c ≤ 999999999) (pre : List ByteArray) (hf : ∀ p ∈ pre, free 46 p) : cand (coreT ⟨a, b, c, pre⟩ ++ preT pre) = some ⟨a, b, c, pre⟩ := by
  have h3 : mk3 pre (spl 46 (coreT ⟨a, b, c, pre⟩)) = some ⟨a, b, c, pre⟩ := by
    rw [core_spl]
    simp only [mk3, Int.toNat_natCast]
    rw [readDec_some ha, readDec_some hb, readDec_some hc]
  have hfr := core_free ⟨a, b, c, pre⟩
  generalize coreT ⟨a, b, c, pre⟩ = core at h3 hfr
  cases pre with
  | nil =>
    have hd : dashI core = -1 := idx_miss hfr
    rw [preT, app_nil]
    unfold cand
    rw [preS, coreS, hd, if_neg (by omega), if_neg (by omega)]
    exact h3
  | cons p r =>
    rw [preT_join]
    obtain ⟨J, hJ⟩ : ∃ J, joinB (p :: r) (one 46) = J := ⟨_, rfl⟩
    rw [hJ]
    have e1 : bt (core ++ (one 45 ++ J)) core.size = 45 := by
      have := bt_appR (a := core) (b := one 45 ++ J) (j := 0) (by rw [ByteArray.size_append, one_size]; omega)
      rw [Nat.add_zero] at this
      rw [this, bt_appL (by rw [one_size]; omega)]
      rfl
    have hd : dashI (core ++ (one 45 ++ J)) = core.size := idx_hit (by rw [ByteArray.size_append, ByteArray.size_append, one_size]; omega) e1 fun j hj => by rw [bt_appL hj]; exact hfr j hj
    have e3 := ext_appR (core ++ one 45) J _ rfl
    rw [ByteArray.size_append, one_size, ByteArray.append_assoc] at e3
    unfold cand
    rw [preS, coreS, hd, if_pos (by omega), if_pos (by omega), Int.toNat_natCast, ext_appL, e3, ← hJ, spl_join 46 _ (by simp) hf]
    exact h3
theorem pre_free {p : ByteArray} (h : preOk p = true) : free 46 p := by
  intro j hj e
  simp only [preOk, Bool.and_eq_true] at h
  have := allB_iff.1 h.1.1 j hj
  rw [e] at this
  revert this
  decide +kernel
theorem verOk_pre {v : Ver} (h : verOk v = true) : ∀ p ∈ v.pre, preOk p = true := by
  simp only [verOk, Bool.and_eq_true] at h
  exact fun p hp => List.all_eq_true.1 h.1.1.1.1 p hp
theorem ver_round {v : Ver} (h : verOk v = true) : readVer (verT v) = some v := by
  have hp := verOk_pre h
  obtain ⟨⟨a, e1, h1⟩, ⟨b, e2, h2⟩, ⟨c, e3, h3⟩, h4, h5⟩ := verOk_b h
  obtain ⟨maj, min, pat, pre⟩ := v
  simp only at e1 e2 e3 hp
  subst e1 e2 e3
  have hc := cand_text a b c h1 h2 h3 pre fun p hm => pre_free (hp p hm)
  have ht : verT ⟨a, b, c, pre⟩ = coreT ⟨a, b, c, pre⟩ ++ preT pre := by simp [verT, h]
  rw [ht, readVer, hc, Option.bind_some, ht, if_pos rfl]
theorem verT_ne {v : Ver} (h : verOk v = true) : verT v ≠ by8 "" := by
  intro e
  have := congrArg ByteArray.size e
  have es : (by8 ".").size = 1 := by decide +kernel
  rw [verT, if_pos h, by8_nil, coreT] at this
  simp only [ByteArray.size_append, es] at this
  omega
theorem cand_nil : cand (by8 "") = none := by
  have h : dashI (by8 "") = -1 := idx_miss fun j hj => by rw [by8_nil] at hj; omega
  unfold cand
  rw [coreS, h, if_neg (by omega), spl_none fun j hj => by rw [by8_nil] at hj; omega]
  rfl
theorem ver_back {s : ByteArray} {v : Ver} (h : readVer s = some v) : verOk v = true ∧ verT v = s := by
  unfold readVer at h
  cases hc : cand s with
  | none => rw [hc] at h; cases h
  | some w =>
    rw [hc, Option.bind_some] at h
    split at h
    · rename_i e
      obtain rfl := Option.some.inj h
      refine ⟨?_, e⟩
      cases ho : verOk w
      · rw [verT, if_neg (by simp [ho])] at e
        rw [← e, cand_nil] at hc
        cases hc
      · rfl
    · cases h
theorem verT_nil {v : Ver} : verT v = by8 "" ↔ verOk v = false := by
  constructor
  · intro h
    cases ho : verOk v
    · rfl
    · exact absurd h (verT_ne ho)
  · intro h
    rw [verT, if_neg (by simp [h])]
theorem isVer_of {s : ByteArray} {v : Ver} (h : readVer s = some v) : isVer s = true := by rw [isVer, h]; rfl
theorem isVer_nil : isVer (by8 "") = false := by rw [isVer, readVer, cand_nil]; rfl
/-- the version behind it, among those with texts behind -/
def Ver.app0 (v : Ver) : Ver := ⟨v.maj, v.min, v.pat, v.pre ++ [by8 "0"]⟩
theorem core_pre (v : Ver) (l : List ByteArray) : coreT ⟨v.maj, v.min, v.pat, l⟩ = coreT v := rfl
theorem zero_pre : preOk (by8 "0") = true := by
  have e : by8 "0" = decT 0 := by rw [decT, Lib.decDigits]; decide +kernel
  have h : readDec (by8 "0") = 0 := by rw [e]; exact readDec_some (by omega)
  simp only [preOk, h]
  decide +kernel
theorem zero_free : free 46 (by8 "0") := pre_free zero_pre
theorem text_app0 {v : Ver} (hp : v.pre ≠ []) : coreT v.app0 ++ preT v.app0.pre = coreT v ++ preT v.pre ++ by8 ".0" := by
  have e : by8 ".0" = by8 "." ++ by8 "0" := by decide +kernel
  obtain ⟨maj, min, pat, pre⟩ := v
  cases pre with
  | nil => exact absurd rfl hp
  | cons p r =>
    rw [show coreT (Ver.app0 ⟨maj, min, pat, p :: r⟩) = coreT ⟨maj, min, pat, p :: r⟩ from rfl, show (Ver.app0 ⟨maj, min, pat, p :: r⟩).pre = p :: r ++ [by8 "0"] from rfl, preT_snoc, e]
    simp only [ByteArray.append_assoc]
theorem ver_dot {s : ByteArray} {v : Ver} (h : readVer s = some v) (hp : v.pre ≠ []) : readVer (s ++ by8 ".0") = if verOk v.app0 = true then some v.app0 else none := by
  obtain ⟨ho, hs⟩ := ver_back h
  have hpp := verOk_pre ho
  obtain ⟨⟨a, e1, h1⟩, ⟨b, e2, h2⟩, ⟨c, e3, h3⟩, h4, h5⟩ := verOk_b ho
  have ht := text_app0 hp
  have hvt : verT v = coreT v ++ preT v.pre := by simp [verT, ho]
  rw [← hvt, hs] at ht
  have hc : cand (s ++ by8 ".0") = some v.app0 := by
    obtain ⟨maj, min, pat, pre⟩ := v
    simp only at e1 e2 e3 hpp
    subst e1 e2 e3
    have := cand_text a b c h1 h2 h3 (pre ++ [by8 "0"]) fun p hm => by
      rcases List.mem_append.1 hm with hm | hm
      · exact pre_free (hpp p hm)
      · rw [List.mem_singleton.1 hm]; exact zero_free
    rw [← ht]
    exact this
  rw [readVer, hc, Option.bind_some]
  cases hk : verOk v.app0
  · have e1 : verT v.app0 ≠ s ++ by8 ".0" := by
      rw [verT_nil.2 hk]
      intro e
      have := congrArg ByteArray.size e
      have es : (by8 ".0").size = 2 := by decide +kernel
      rw [by8_nil, ByteArray.size_append, es] at this
      omega
    rw [if_neg e1]
    simp
  · have e1 : verT v.app0 = s ++ by8 ".0" := by rw [← ht, verT, if_pos hk]
    rw [if_pos e1]
    simp
/-- the end of the range of a version alone -/
noncomputable def exHigh (v : Ver) : ByteArray := if v.pre = [] then verT ⟨v.maj, v.min, v.pat + 1, [by8 "0"]⟩ else verT v.app0
noncomputable def exactO (s : ByteArray) : Option (ByteArray × ByteArray) := match readVer s with
  | some v => if exHigh v = by8 "" then none else some (s, exHigh v)
  | none => none
def bndV (l h : ByteArray) : AV := .agg [.lit (.string l), .lit (.string h)]
noncomputable def exactRes (s : ByteArray) : AV := .sl ⟨.no, true⟩ 2 (match exactO s with
  | some p => [bndV p.1 p.2]
  | none => [])
theorem verOk_pre0 (a b c : Int) : verOk ⟨a, b, c, [by8 "0"]⟩ = verOk ⟨a, b, c, []⟩ := by
  simp [verOk, zero_pre]
theorem exHigh_size {v : Ver} (h : verOk v = true) : (exHigh v).size ≤ 200 := by
  have key : ∀ w : Ver, (verT w).size ≤ 200 := by
    intro w
    cases hw : verOk w
    · rw [verT_nil.2 hw, by8_nil]; omega
    · have hb := verOk_b hw
      have h1 := coreT_size hb
      have h2 := preT_size w.pre 20 hb.pre
      have h3 := hb.len
      rw [verT, if_pos hw, ByteArray.size_append]
      omega
  unfold exHigh
  split
  · exact key _
  · exact key _
theorem verT_size (w : Ver) : (verT w).size ≤ 200 := by
  cases hw : verOk w
  · rw [verT_nil.2 hw, by8_nil]; omega
  · have hb := verOk_b hw
    have h1 := coreT_size hb
    have h2 := preT_size w.pre 20 hb.pre
    have h3 := hb.len
    rw [verT, if_pos hw, ByteArray.size_append]
    omega
end Go.Proofs.YtgegcfhifojjiaaDoor.Vm
