/- Sums, read: plain laws. -/
import Derived.Test.YtgegcfhifojjiaaDoorIl
namespace Go.Proofs.YtgegcfhifojjiaaDoor.Vm
open Go Go.RowKit
set_option linter.unusedVariables false
set_option linter.unusedSimpArgs false
def cutL (p : ByteArray) : ByteArray := if Lib.indexB p (one 45) < 0 then p else p.extract 0 (Lib.indexB p (one 45)).toNat
def cutR (p : ByteArray) : ByteArray := if Lib.indexB p (one 45) < 0 then by8 "" else p.extract ((Lib.indexB p (one 45)).toNat + 1) p.size
noncomputable def smI (p : ByteArray) : Sm := ⟨cutL p, (unB (cutR p)).getD (by8 "")⟩
noncomputable def smO (p : ByteArray) : Option Sm := if Lib.indexB p (one 45) < 0 then none else (unB (cutR p)).map fun b => ⟨cutL p, b⟩
theorem smO_smI {p : ByteArray} {x : Sm} (h : smO p = some x) : smI p = x := by
  unfold smO at h
  split at h
  · cases h
  · obtain ⟨b, hb, rfl⟩ := Option.map_eq_some_iff.1 h
    rw [smI, hb]; rfl
theorem unB_some {s : ByteArray} {b : ByteArray} (h : unB s = some b) : b64 b = s := by
  unfold unB at h
  split at h
  · rename_i he
    rw [← Option.some.inj h]; exact he.choose_spec
  · cases h
theorem unB_of {b : ByteArray} : ∃ c, unB (b64 b) = some c := by
  have he : ∃ c, b64 c = b64 b := ⟨b, rfl⟩
  exact ⟨he.choose, by unfold unB; rw [dif_pos he]⟩
theorem by45' : by8 "-" = one 45 := by decide +kernel
theorem smO_of {p : ByteArray} (h : p = wrd (smI p)) : smO p = some (smI p) := by
  rcases idx_cases 45 p with ⟨hi, hf⟩ | ⟨i, hi, hb, _, hx⟩
  · have h0 : (smI p).alg.size < p.size := by
      have hz := congrArg ByteArray.size h
      rw [wrd, by45', ByteArray.size_append, ByteArray.size_append, one_size] at hz
      omega
    have : cutL p = p := by rw [cutL, hi, if_pos (by omega)]
    rw [show (smI p).alg = cutL p from rfl, this] at h0
    omega
  · have ha : cutL p = p.extract 0 i := by rw [cutL, hx, if_neg (by omega), Int.toNat_natCast]
    have hr : cutR p = p.extract (i + 1) p.size := by rw [cutR, hx, if_neg (by omega), Int.toNat_natCast]
    have hc := ext_cut hi
    rw [hb] at hc
    have h2 : p.extract 0 i ++ one 45 ++ p.extract (i + 1) p.size = p.extract 0 i ++ one 45 ++ b64 (smI p).bytes := by
      rw [hc]
      have := h
      rw [wrd, show (smI p).alg = cutL p from rfl, ha, by45'] at this
      exact this
    have h3 := app_inj h2
    obtain ⟨c, hcc⟩ := unB_of (b := (smI p).bytes)
    rw [← h3, ← hr] at hcc
    rw [smO, if_neg (by omega), smI, hcc]
    rfl
noncomputable def mapS : List ByteArray → Option (List Sm)
  | [] => some []
  | p :: r => (smO p).bind fun x => (mapS r).map (x :: ·)
theorem mapS_smI : ∀ {w : List ByteArray} {out : List Sm}, mapS w = some out → w.map smI = out
  | [], out, h => by obtain rfl := Option.some.inj h; rfl
  | p :: r, out, h => by
    rw [mapS] at h
    obtain ⟨x, hx, h⟩ := Option.bind_eq_some_iff.1 h
    obtain ⟨q, hq, rfl⟩ := Option.map_eq_some_iff.1 h
    rw [List.map_cons, smO_smI hx, mapS_smI hq]
theorem mapS_all : ∀ {w : List ByteArray}, (∀ p ∈ w, p = wrd (smI p)) → mapS w = some (w.map smI)
  | [], _ => rfl
  | p :: r, h => by
    rw [mapS, smO_of (h p List.mem_cons_self), mapS_all fun q hq => h q (List.mem_cons_of_mem _ hq)]; rfl
theorem rightI_sums {l : List Sm} (h : rightI l = true) : sumsOk l = true := by
  rw [rightI, Bool.and_eq_true] at h; exact h.2
theorem sgn_no32 : ∀ x : _root_.Fin 64, bt sgn x.val ≠ 32 := by decide +kernel
theorem b64_free (b : ByteArray) : free 32 (b64 b) := by
  intro j hj
  rw [b64_bt b hj, ch]
  split
  · decide
  · exact sgn_no32 ⟨_, Nat.mod_lt _ (by decide)⟩
theorem ext_free {c : UInt8} {p : ByteArray} (h : free c p) (a b : Nat) : free c (p.extract a b) := by
  intro j hj
  rw [ext_size] at hj
  rw [bt_ext (by omega)]
  exact h _ (by omega)
theorem cutL_free {p : ByteArray} (h : free 32 p) : free 32 (cutL p) := by
  unfold cutL; split
  · exact h
  · exact ext_free h _ _
theorem by32 : by8 " " = one 32 := by decide +kernel
theorem wrd_free {p : ByteArray} (h : free 32 p) : free 32 (wrd (smI p)) := by
  rw [wrd, free_app, free_app, by45']
  exact ⟨⟨cutL_free h, one_free (by decide)⟩, b64_free _⟩
theorem pig_words {s : ByteArray} (hs : s ≠ by8 "") (hp : pig ((spl 32 s).map smI) = s) : (∀ p ∈ spl 32 s, p = wrd (smI p)) ∧ ∀ x ∈ (spl 32 s).map smI, kwn x.alg = true := by
  have hf := spl_free 32 s.size s (Nat.le_refl _)
  obtain ⟨w, hw⟩ : ∃ w, spl 32 s = w := ⟨_, rfl⟩
  rw [hw] at hp hf ⊢
  obtain ⟨m, hm⟩ : ∃ m, (w.map smI).filter (fun x => kwn x.alg) = m := ⟨_, rfl⟩
  have hp2 : joinB (m.map wrd) (one 32) = s := by rw [← hp, pig, hm, by32]
  have hne : m.map wrd ≠ [] := fun e => hs (by rw [← hp2, e, joinB_nil])
  have hfree : ∀ q ∈ m.map wrd, free 32 q := fun q hq => by
    obtain ⟨x, hx, rfl⟩ := List.mem_map.1 hq
    rw [← hm] at hx
    obtain ⟨p, hpw, rfl⟩ := List.mem_map.1 (List.mem_filter.1 hx).1
    exact wrd_free (hf p hpw)
  have h1 := spl_join 32 (m.map wrd) hne hfree
  rw [hp2, hw] at h1
  have hlen : m.length = (w.map smI).length := by
    have := congrArg List.length h1
    rw [List.length_map] at this ⊢
    exact this.symm
  have hall : ∀ x ∈ w.map smI, kwn x.alg = true := by
    rw [← hm] at hlen
    exact List.length_filter_eq_length_iff.1 hlen
  have hmm : m = w.map smI := by rw [← hm]; exact List.filter_eq_self.2 hall
  rw [hmm, List.map_map] at h1
  refine ⟨fun p hpw => ?_, hall⟩
  obtain ⟨i, hi, rfl⟩ := List.getElem_of_mem hpw
  have := congrArg (·[i]?) h1
  simp only [List.getElem?_map, List.getElem?_eq_getElem hi, Option.map_some, Option.some.injEq] at this
  exact this
/-- what the program reads, and what the reference reads -/
noncomputable def giI (s : ByteArray) : Option (List Sm) := if s = by8 "" then some [] else if sumsOk ((spl 32 s).map smI) = true ∧ pig ((spl 32 s).map smI) = s then some ((spl 32 s).map smI) else none
noncomputable def giS (s : ByteArray) : Option (List Sm) := if s = by8 "" then some [] else (mapS (spl 32 s)).bind fun out => if rightI out = true ∧ pig out = s then some out else none
theorem gi_eq (s : ByteArray) : giS s = giI s := by
  unfold giS giI
  by_cases hs : s = by8 ""
  · rw [if_pos hs, if_pos hs]
  rw [if_neg hs, if_neg hs]
  by_cases h : sumsOk ((spl 32 s).map smI) = true ∧ pig ((spl 32 s).map smI) = s
  · obtain ⟨h1, h2⟩ := pig_words hs h.2
    rw [if_pos h, mapS_all h1, Option.bind_some]
    have h3 : allN ((spl 32 s).map smI).length (h1At ((spl 32 s).map smI)) = true := allN_true fun i hi => by
      have hk := h2 _ (List.getElem_mem hi)
      rw [kwn_iff] at hk
      rw [h1At, getD_lt hi]
      cases hd : decide (((spl 32 s).map smI)[i].alg = by8 "h1")
      · rfl
      · rw [hd] at hk; simp at hk
    rw [if_pos ⟨by rw [rightI, h3, h.1]; rfl, h.2⟩]
  · rw [if_neg h]
    cases hm : mapS (spl 32 s) with
    | none => rfl
    | some out =>
      have := mapS_smI hm
      rw [Option.bind_some, if_neg]
      rintro ⟨g1, g2⟩
      exact h ⟨by rw [this]; exact rightI_sums g1, by rw [this]; exact g2⟩
end Go.Proofs.YtgegcfhifojjiaaDoor.Vm
