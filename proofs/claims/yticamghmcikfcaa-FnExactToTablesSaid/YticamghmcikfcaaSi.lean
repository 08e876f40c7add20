/- SetField: the program. -/
import Derived.Test.YticamghmcikfcaaSf
namespace Go.Proofs.Yticamghmcikfcaa.Vm
open Go Go.RowKit
set_option linter.unusedVariables false
set_option linter.unusedSimpArgs false

theorem noIL_app (p : Nat → Prop) : ∀ (a b : List AV), noI.noIL p (a ++ b) ↔ noI.noIL p a ∧ noI.noIL p b
  | [], b => by simp [noI.noIL]
  | x :: a, b => by simp only [List.cons_append, noI.noIL, noIL_app p a b, and_assoc]
theorem noIL_strs (p : Nat → Prop) (l : List ByteArray) : noI.noIL p (l.map fun x => AV.lit (.string x)) := noIL_iff.2 fun a ha => by
  obtain ⟨x, _, rfl⟩ := List.mem_map.1 ha; trivial
theorem noI_ro (p : Nat → Prop) (sz : Nat) (xs : List AV) (h : noI.noIL p xs) : noI p (.sl ro sz xs) := ⟨by simp [ro], h⟩
theorem noI_fld (p : Nat → Prop) (f : Fld) : noI p (.agg f.av) := ⟨trivial, trivial, noI_ro _ _ _ (noIL_strs _ _), trivial, trivial⟩
theorem noIL_flds (p : Nat → Prop) (l : List Fld) : noI.noIL p (flds l) := noIL_iff.2 fun a ha => by
  obtain ⟨x, _, rfl⟩ := List.mem_map.1 ha; exact noI_fld p x
/-- a named tree bears just its names -/
theorem noI_idS {p : Nat → Prop} : ∀ (t : AV), wfT t = true → ∀ n, (∀ k, n ≤ k → k < n + nB t → ¬ p k) → noI p (idS n t) := by
  intro t
  refine AV.rec (motive_1 := fun t => wfT t = true → ∀ n, (∀ k, n ≤ k → k < n + nB t → ¬ p k) → noI p (idS n t)) (motive_2 := fun cs => wfT.wfL cs = true → ∀ n, (∀ k, n ≤ k → k < n + nB.nBL cs → ¬ p k) → noI.noIL p (idS.idL n cs)) ?_ ?_ ?_ ?_ ?_ ?_ ?_ ?_ ?_ ?_ ?_ ?_ ?_ t
  · intro h; cases h
  · intro v _ n _; trivial
  · intro m sz xs ih hw n h
    obtain ⟨_, _, w3⟩ := wf_sl hw
    simp only [idS, nB] at h ⊢
    split
    · exact noI_ro _ _ _ trivial
    · rename_i he
      rw [if_neg he] at h
      refine ⟨fun k hk => ?_, ih w3 (n + 1) fun k h1 h2 => h k (by omega) (by omega)⟩
      obtain rfl : n = k := by simpa using hk
      exact h n (Nat.le_refl _) (by omega)
  · intro cs ih hw n h
    simp only [wfT, Bool.and_eq_true] at hw
    simp only [idS]
    exact ih hw.2 n (by simpa only [nB] using h)
  · intro _ _ hw; cases hw
  · intro _ _ _ hw; cases hw
  · intro _ _ _ hw; cases hw
  · intro _ _ _ hw; cases hw
  · intro _ _ _ hw; cases hw
  · intro _ _ _ hw; cases hw
  · intro _ _ hw; cases hw
  · intro _ n _; trivial
  · intro c cs h1 h2 hw n h
    simp only [wfT.wfL, Bool.and_eq_true] at hw
    simp only [nB.nBL] at h
    exact ⟨h1 hw.1 n fun k a b => h k a (by omega), h2 hw.2 (n + nB c) fun k a b => h k (by omega) (by omega)⟩
theorem noIL_idL {p : Nat → Prop} {cs : List AV} (hw : wfT.wfL cs = true) (n : Nat) (h : ∀ k, n ≤ k → k < n + nB.nBL cs → ¬ p k) : noI.noIL p (idS.idL n cs) := by
  induction cs generalizing n with
  | nil => trivial
  | cons c cs ih =>
    simp only [wfT.wfL, Bool.and_eq_true] at hw
    simp only [nB.nBL] at h
    exact ⟨noI_idS c hw.1 n fun k a b => h k a (by omega), ih hw.2 (n + nB c) fun k a b => h k (by omega) (by omega)⟩
/-- the mark of a row of texts -/
def mT (b : Bool) (p : Nat) (l : List ByteArray) : Mk := if l.isEmpty = true then ⟨.no, b⟩ else ⟨.id p, b⟩
theorem lsI_eq (p : Nat) (l : List ByteArray) : lsI p l = .sl (mT false p l) 1 (l.map fun x => .lit (.string x)) := by
  unfold lsI mT
  cases l <;> rfl
def lsT (p : Nat) (l : List ByteArray) : AV := .sl (mT true p l) 1 (l.map fun x => .lit (.string x))
@[simp] theorem mT_skI (b : Bool) (p : Nat) (l : List ByteArray) : skI (mT b p l) = mT false p l := by unfold mT; split <;> rfl
@[simp] theorem mT_mkI (b c : Bool) (p : Nat) (l : List ByteArray) : mkI c (mT b p l) = mT c p l := by unfold mT; split <;> rfl
@[simp] theorem mT_fr (b : Bool) (p : Nat) (l : List ByteArray) : (mT b p l).fr = b := by unfold mT; split <;> rfl
@[simp] theorem mT_noC (b : Bool) (d p sz : Nat) (l : List ByteArray) (xs : List AV) : noC d (.sl (mT b p l) sz xs) = true := by unfold mT; split <;> rfl
@[simp] theorem mT_dem (b : Bool) (c p sz : Nat) (l : List ByteArray) (xs : List AV) : dem c (.sl (mT b p l) sz xs) = .sl (mT b p l) sz xs := by unfold mT; split <;> rfl
@[simp] theorem mT_nam (b : Bool) (c k p sz : Nat) (l : List ByteArray) (xs : List AV) : nam c k (.sl (mT b p l) sz xs) = .sl (mT b p l) sz xs := by unfold mT; split <;> rfl
@[simp] theorem mT_reC (b : Bool) (ks : List Nat) (p sz : Nat) (l : List ByteArray) (xs : List AV) : reC ks (.sl (mT b p l) sz xs) = .sl (mT b p l) sz xs := by unfold mT; split <;> rfl
@[simp] theorem dem_lit (c : Nat) (v : Value) : dem c (.lit v) = .lit v := rfl
@[simp] theorem dem_ptr (c n i o : Nat) : dem c (.ptr n i o) = .ptr n i o := rfl
@[simp] theorem dem_agg (c : Nat) (cs : List AV) : dem c (.agg cs) = .agg (dem.demL c cs) := by rw [dem]
@[simp] theorem dem_ro (c sz : Nat) (xs : List AV) : dem c (.sl ro sz xs) = .sl ro sz xs := rfl
@[simp] theorem dem_no (c sz : Nat) (b : Bool) (xs : List AV) : dem c (.sl ⟨.no, b⟩ sz xs) = .sl ⟨.no, b⟩ sz xs := rfl
@[simp] theorem dem_nl (c sz : Nat) (b : Bool) (xs : List AV) : dem c (.sl ⟨.nl, b⟩ sz xs) = .sl ⟨.nl, b⟩ sz xs := rfl
@[simp] theorem dem_cl (c k sz : Nat) (b : Bool) (xs : List AV) : dem c (.sl ⟨.cl k, b⟩ sz xs) = if k = c then .sl ⟨.no, b⟩ sz xs else .sl ⟨.cl k, b⟩ sz xs := rfl
@[simp] theorem demL_nil (c : Nat) : dem.demL c [] = [] := rfl
@[simp] theorem demL_cons (c : Nat) (x : AV) (l : List AV) : dem.demL c (x :: l) = dem c x :: dem.demL c l := rfl
theorem mT_noI (q : Nat → Prop) (b : Bool) (p : Nat) (l : List ByteArray) (h : l = [] ∨ ¬ q p) : noI q (.sl (mT b p l) 1 (l.map fun x => .lit (.string x))) := by
  refine ⟨fun k hk => ?_, noIL_strs _ _⟩
  unfold mT at hk
  split at hk
  · cases hk
  · rename_i he
    obtain rfl : p = k := by simpa using hk
    rcases h with h | h
    · exact absurd (by rw [h]; rfl) he
    · exact h
theorem idS_fld (p : Nat) (f : Fld) : idS p (.agg f.av) = .agg [.lit (.string f.key), .lit (.string f.text), lsI p f.list, .lit (.bool f.isL)] := by
  rw [show idS p (.agg f.av) = .agg [.lit (.string f.key), .lit (.string f.text), idS (p + 0 + 0) (.sl ro 1 (f.list.map fun x => .lit (.string x))), .lit (.bool f.isL)] from rfl, idS_strs]
  rfl
def fldsI (n : Nat) (l : List Fld) : List AV := idS.idL n (flds l)
theorem fldsI_snoc (n : Nat) (l : List Fld) (f : Fld) : fldsI n (l ++ [f]) = fldsI n l ++ [.agg [.lit (.string f.key), .lit (.string f.text), lsI (n + nB.nBL (flds l)) f.list, .lit (.bool f.isL)]] := by
  unfold fldsI
  rw [flds_snoc, idL_app, idS.idL, idS_fld, idS.idL]
theorem fldsI_len (n : Nat) (l : List Fld) : (fldsI n l).length = l.length := by unfold fldsI; rw [idL_len]; simp [flds]
theorem nBL_snoc (l : List Fld) (f : Fld) : nB.nBL (flds (l ++ [f])) = nB.nBL (flds l) + n1 f.list := by
  rw [flds_snoc, nBL_app]; simp only [nB.nBL, nB_fld]; omega
theorem nBL_mono (R : List Fld) : ∀ {i j : Nat}, i ≤ j → nB.nBL (flds (R.take i)) ≤ nB.nBL (flds (R.take j)) := by
  intro i j h
  have e : R.take j = R.take i ++ (R.drop i).take (j - i) := by
    rw [show j = i + (j - i) by omega, List.take_add]; simp
  rw [e]
  unfold flds
  rw [List.map_append, nBL_app]
  omega
theorem n1_pos {l : List ByteArray} (h : l ≠ []) : n1 l = 1 := by unfold n1; rw [if_neg (by simpa using h)]
def outN (c : Nat) (R : List Fld) (i : Nat) : AV := if i = 0 then .sl ⟨.nl, true⟩ 1 [] else .sl ⟨.cl c, true⟩ 4 (fldsI 1 (R.take i))
theorem outN_noI {q : Nat → Prop} (c : Nat) (R : List Fld) (i : Nat) (h : ∀ k, 1 ≤ k → k < 1 + nB.nBL (flds (R.take i)) → ¬ q k) : noI q (outN c R i) := by
  unfold outN
  split
  · exact ⟨by simp, trivial⟩
  · exact ⟨by simp, noIL_idL (wfL_flds _) 1 h⟩
theorem Fin_nam {K : Nat → Prop} {rs : List VR} {r r' : AV} {s : AS} (c k : Nat) (hk : K k) (hs : s.noI fun j => j = k) (h : resVs (s.nam c k) rs = some [r']) (h2 : r = reC [] r') : FinK K rs r [] .ret s := ⟨.inr rfl, _, .nam s c k hk hs, _, h, h2⟩
section
variable {E : Env} (hE : E.P = Go.Proofs.Try.prog)
include hE
end
end Go.Proofs.Yticamghmcikfcaa.Vm
