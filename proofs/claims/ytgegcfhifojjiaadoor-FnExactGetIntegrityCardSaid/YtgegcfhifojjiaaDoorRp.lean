/- Ranges: parts. -/
import Derived.Test.YtgegcfhifojjiaaDoorRb
namespace Go.Proofs.YtgegcfhifojjiaaDoor.Vm
open Go Go.RowKit
set_option linter.unusedVariables false
set_option linter.unusedSimpArgs false
noncomputable def careV (v : Ver) : Int := if 0 < v.maj then 0 else if 0 < v.min then 1 else 2
noncomputable def carP (s : ByteArray) (v : Ver) : Int := if bt s 0 = 126 then 1 else careV v
noncomputable def carO (s : ByteArray) : Option (ByteArray × ByteArray) := match readVer (s.extract 1 s.size) with
  | some v => if verOk (nextV v (carP s v)) = true then some (s.extract 1 s.size, verT ⟨(nextV v (carP s v)).maj, (nextV v (carP s v)).min, (nextV v (carP s v)).pat, [by8 "0"]⟩) else none
  | none => none
noncomputable def partO (s : ByteArray) : Option (ByteArray × ByteArray) := if s = by8 "*" then some (by8 "", by8 "") else if 0 < s.size ∧ (bt s 0 = 94 ∨ bt s 0 = 126) then carO s else if 0 < s.size ∧ (bt s 0 = 62 ∨ bt s 0 = 60) then sgnO s else match exactO s with
  | some p => some p
  | none => shortO s
theorem carP_cases (s : ByteArray) (v : Ver) : carP s v = 0 ∨ carP s v = 1 ∨ carP s v = 2 := by
  unfold carP careV
  repeat' split
  all_goals simp
theorem first_part {s a : ByteArray} {r : List ByteArray} (h : spl 46 s = a :: r) (h0 : 0 < a.size) : bt s 0 = bt a 0 := by
  have hj := join_spl 46 s.size s (Nat.le_refl _)
  rw [h] at hj
  rw [← hj]
  cases r with
  | nil => rw [joinB_one]
  | cons b r => rw [joinB_cons, ByteArray.append_assoc, bt_appL h0]
theorem decT_pos (n : Nat) : 0 < (decT n).size := by
  have h := dec_ne n
  rw [← decT_list] at h
  have : (decT n).data.toList.length = (decT n).size := by simp
  rcases Nat.eq_zero_or_pos (decT n).size with h2 | h2
  · rw [h2] at this
    exact absurd (List.length_eq_zero_iff.1 this) h
  · exact h2
theorem first_no {c : UInt8} (hc : c.toNat < 48 ∨ 57 < c.toNat) (h46 : c ≠ 46) (h45 : c ≠ 45) (hp : preB c = false) {s : ByteArray} (h0 : 0 < s.size) (hb : bt s 0 = c) : readVer s = none ∧ shortO s = none := by
  have hd : ∀ a r, spl 46 s = a :: r → readDec a < 0 := fun a r h => by
    rcases Int.lt_or_le (readDec a) 0 with h1 | h1
    · exact h1
    · obtain ⟨n, _, rfl, _⟩ := dec_of h1
      have := first_part h (decT_pos n)
      exact absurd (this.symm.trans hb) (dec_free hc n 0 (decT_pos n))
  refine ⟨?_, ?_⟩
  · cases h : readVer s with
    | none => rfl
    | some v => exact absurd hb (ver_free hc h46 h45 hp (isVer_of h) 0 h0)
  · unfold shortO
    split
    · rename_i a h; rw [if_neg (by have := hd _ _ h; omega)]
    · rename_i a b h; rw [if_neg (by have := hd _ _ h; omega)]
    · rfl
theorem exact_no {s : ByteArray} (h : readVer s = none) : exactO s = none := by simp [exactO, h]
theorem verT_is {v : Ver} (h : verOk v = true) : isVer (verT v) = true := isVer_of (ver_round h)
theorem verT_is' {v : Ver} (h : verT v ≠ by8 "") : isVer (verT v) = true := verT_is (by
  cases ho : verOk v
  · exact absurd (verT_nil.2 ho) h
  · rfl)
theorem head_ext {s : ByteArray} (h0 : 0 < s.size) : s = one (bt s 0) ++ s.extract 1 s.size := by
  have := ext_cut (s := s) (i := 0) h0
  rw [show s.extract 0 0 = by8 "" from size_nil (by rw [ext_size]; omega), nil_app] at this
  exact this.symm
/-- what a part's bound is -/
structure PartOk (s l h : ByteArray) : Prop where
  low : l = by8 "" ∨ isVer l = true
  high : h = by8 "" ∨ isVer h = true
  at64 : free 64 s
theorem part_ok {s l h : ByteArray} (hp : partO s = some (l, h)) : PartOk s l h := by
  have f64 : ∀ {t : ByteArray}, isVer t = true → free 64 t := fun ht => ver64 ht
  unfold partO at hp
  split at hp
  · rename_i h1
    obtain ⟨rfl, rfl⟩ := Prod.mk.inj (Option.some.inj hp)
    exact ⟨.inl rfl, .inl rfl, by rw [h1]; exact free_dec (by decide +kernel)⟩
  · split at hp
    · rename_i _ h1
      unfold carO at hp
      split at hp
      · rename_i v hv
        split at hp
        · rename_i h2
          obtain ⟨rfl, rfl⟩ := Prod.mk.inj (Option.some.inj hp)
          refine ⟨.inr (isVer_of hv), .inr (verT_is ?_), ?_⟩
          · rw [verOk_pre0, ← h2]
            congr 1
            rcases carP_cases s v with e | e | e <;> rw [e] <;> rfl
          · rw [head_ext h1.1, free_app]
            refine ⟨one_free ?_, f64 (isVer_of hv)⟩
            rcases h1.2 with e | e <;> rw [e] <;> decide
        · cases hp
      · cases hp
    · split at hp
      · have fg : free 64 ge2 := free_dec (by decide +kernel)
        have fl : free 64 lt1 := free_dec (by decide +kernel)
        have fs : free 64 sl2 := free_dec (by decide +kernel)
        rcases sgn_inv hp with ⟨h1, rfl, rfl⟩ | ⟨rfl, h1, rfl⟩ | ⟨h1, h2, rfl⟩
        · exact ⟨.inr h1, .inl rfl, free_app.2 ⟨fg, f64 h1⟩⟩
        · exact ⟨.inl rfl, .inr h1, free_app.2 ⟨fl, f64 h1⟩⟩
        · exact ⟨.inr h1, .inr h2, by rw [free_app, free_app, free_app]; exact ⟨⟨⟨fg, f64 h1⟩, fs⟩, f64 h2⟩⟩
      · split at hp
        · rename_i q hq
          obtain rfl := Option.some.inj hp
          unfold exactO at hq
          split at hq
          · rename_i v hv
            split at hq
            · cases hq
            · rename_i hx
              obtain ⟨rfl, rfl⟩ := Prod.mk.inj (Option.some.inj hq)
              refine ⟨.inr (isVer_of hv), .inr ?_, f64 (isVer_of hv)⟩
              unfold exHigh at hx ⊢
              split
              · rename_i h5; rw [if_pos h5] at hx; exact verT_is' hx
              · rename_i h5; rw [if_neg h5] at hx; exact verT_is' hx
          · cases hq
        · have hj := join_spl 46 s.size s (Nat.le_refl _)
          have dfree := fun n => dec_free (c := 64) (by decide) n
          unfold shortO at hp
          split at hp
          · rename_i a ha
            split at hp
            · rename_i h2
              obtain ⟨rfl, rfl⟩ := Prod.mk.inj (Option.some.inj hp)
              obtain ⟨n, k, rfl, e⟩ := dec_of h2.1
              rw [e] at h2 ⊢
              refine ⟨.inr (verT_is (verOk_nums (b := 0) (c := 0) k (by omega) (by omega))), .inr (verT_is (by rw [verOk_pre0]; exact h2.2)), ?_⟩
              rw [← hj, ha, joinB_one]
              exact dfree n
            · cases hp
          · rename_i a b ha
            split at hp
            · rename_i h2
              obtain ⟨rfl, rfl⟩ := Prod.mk.inj (Option.some.inj hp)
              obtain ⟨n, k, rfl, e⟩ := dec_of h2.1.1
              obtain ⟨m, k2, rfl, e2⟩ := dec_of h2.1.2
              rw [e, e2] at h2 ⊢
              refine ⟨.inr (verT_is (verOk_nums (c := 0) k k2 (by omega))), .inr (verT_is (by rw [verOk_pre0]; exact h2.2)), ?_⟩
              rw [← hj, ha, joinB_cons, joinB_one, free_app, free_app]
              exact ⟨⟨dfree n, one_free (by decide)⟩, dfree m⟩
            · cases hp
          · cases hp
/-- all parts -/
noncomputable def mapO : List ByteArray → Option (List (ByteArray × ByteArray))
  | [] => some []
  | p :: r => (partO p).bind fun b => (mapO r).map (b :: ·)
theorem mapO_app : ∀ (a b : List ByteArray), mapO (a ++ b) = (mapO a).bind fun x => (mapO b).map (x ++ ·)
  | [], b => by simp [mapO]
  | p :: r, b => by
    rw [List.cons_append, mapO, mapO, mapO_app r b]
    cases partO p with
    | none => rfl
    | some x =>
      simp only [Option.bind_some]
      cases mapO r with
      | none => rfl
      | some y =>
        simp only [Option.bind_some, Option.map_some, Option.map_map]
        rfl
theorem mapO_none {l : List ByteArray} {i : Nat} (h : i < l.length) (hp : partO l[i] = none) : mapO l = none := by
  have e : l = l.take i ++ (l[i] :: l.drop (i + 1)) := by rw [← List.drop_eq_getElem_cons h, List.take_append_drop]
  rw [e, mapO_app, mapO, hp]
  cases mapO (l.take i) <;> rfl
theorem mapO_next {l : List ByteArray} {i : Nat} (h : i < l.length) {out : List (ByteArray × ByteArray)} {b : ByteArray × ByteArray} (ho : mapO (l.take i) = some out) (hp : partO l[i] = some b) : mapO (l.take (i + 1)) = some (out ++ [b]) := by
  rw [List.take_succ_eq_append_getElem h, mapO_app, ho, mapO, hp]
  rfl
theorem mapO_len : ∀ {l : List ByteArray} {out : List (ByteArray × ByteArray)}, mapO l = some out → out.length = l.length
  | [], out, h => by obtain rfl := Option.some.inj h; rfl
  | p :: r, out, h => by
    rw [mapO] at h
    obtain ⟨b, _, h⟩ := Option.bind_eq_some_iff.1 h
    obtain ⟨q, hq, rfl⟩ := Option.map_eq_some_iff.1 h
    simp [mapO_len hq]
theorem mapO_mem : ∀ {l : List ByteArray} {out : List (ByteArray × ByteArray)}, mapO l = some out → (∀ p ∈ l, ∃ b, partO p = some b) ∧ ∀ b ∈ out, ∃ p ∈ l, partO p = some b
  | [], out, h => by obtain rfl := Option.some.inj h; simp
  | p :: r, out, h => by
    rw [mapO] at h
    obtain ⟨b, hb, h⟩ := Option.bind_eq_some_iff.1 h
    obtain ⟨q, hq, rfl⟩ := Option.map_eq_some_iff.1 h
    obtain ⟨h1, h2⟩ := mapO_mem hq
    refine ⟨fun x hx => ?_, fun x hx => ?_⟩
    · rcases List.mem_cons.1 hx with rfl | hx
      · exact ⟨b, hb⟩
      · exact h1 x hx
    · rcases List.mem_cons.1 hx with rfl | hx
      · exact ⟨p, List.mem_cons_self, hb⟩
      · obtain ⟨y, hy, e⟩ := h2 x hx
        exact ⟨y, List.mem_cons_of_mem _ hy, e⟩
def barB : ByteArray := by8 " || "
theorem barB_size : barB.size = 4 := by decide +kernel
theorem join_spB {sep : ByteArray} (h1 : 1 ≤ sep.size) : ∀ (n : Nat) (s : ByteArray), s.size ≤ n → joinB (spB sep s) sep = s
  | n, s, hn => by
    rcases index_cases s sep with ⟨h, _⟩ | ⟨i, h, hi, e, _⟩
    · rw [spB_none h, joinB_one]
    · have hz : i + sep.size ≤ s.size := by
        have := congrArg ByteArray.size e
        simp only [ByteArray.size_append, ext_size] at this
        omega
      match n with
      | 0 => omega
      | n + 1 =>
        have hne : spB sep (s.extract (i + sep.size) s.size) ≠ [] := fun e => by
          have := spB_len (sep := sep) (s := s.extract (i + sep.size) s.size) h1
          rw [e] at this; simp at this
        rw [spB_hit h1 h, joinB_cons' _ _ hne, join_spB h1 n _ (by rw [ext_size]; omega)]
        exact e.symm
noncomputable def rngO (s : ByteArray) : Option (List (ByteArray × ByteArray)) := if s.size ≤ 200 ∧ (spB barB s).length ≤ 8 then mapO (spB barB s) else none
theorem join_free {c : UInt8} {sep : ByteArray} (hs : free c sep) : ∀ (l : List ByteArray), (∀ p ∈ l, free c p) → free c (joinB l sep)
  | [], _ => by intro j hj; rw [joinB_nil, by8_nil] at hj; omega
  | [x], h => by rw [joinB_one]; exact h x List.mem_cons_self
  | x :: y :: r, h => by
    rw [joinB_cons, free_app, free_app]
    exact ⟨⟨h x List.mem_cons_self, hs⟩, join_free hs (y :: r) fun q hq => h q (List.mem_cons_of_mem _ hq)⟩
theorem rng_free {s : ByteArray} {out : List (ByteArray × ByteArray)} (h : rngO s = some out) : free 64 s := by
  unfold rngO at h
  split at h
  · rw [← join_spB (sep := barB) (by rw [barB_size]; omega) s.size s (Nat.le_refl _)]
    refine join_free (free_dec (by decide +kernel)) _ fun p hp => ?_
    obtain ⟨b, hb⟩ := (mapO_mem h).1 p hp
    exact (part_ok hb).at64
  · cases h
end Go.Proofs.YtgegcfhifojjiaaDoor.Vm
