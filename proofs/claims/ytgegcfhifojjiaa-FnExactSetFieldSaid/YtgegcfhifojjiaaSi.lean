/- SetField: the program. -/
import Derived.Test.YtgegcfhifojjiaaSf
namespace Go.Proofs.Ytgegcfhifojjiaa.Vm
open Go Go.RowKit
set_option linter.unusedVariables false
set_option linter.unusedSimpArgs false
def v10 : VC := .seq (.reg false [⟨some 2, .box 2 (.t 0), none⟩, ⟨some 3, .box 4 (.t 1), none⟩, ⟨some 4, .alloc (.agg [(.lit (.string (by8 ""))), (.sl ⟨.nl, true⟩ 1 [])]), none⟩] []) (.seq (.reg false [⟨some 9, .fa 0 (.t 2), none⟩, ⟨some 10, .ld false 1 (.t 9), none⟩, ⟨some 11, .bld [(.lit (.string (by8 ""))), (.sl ⟨.nl, true⟩ 1 [])] [(0, 1, (.t 10))], none⟩, ⟨some 5, .alloc (.agg [(.lit (.string (by8 ""))), (.sl ⟨.nl, true⟩ 1 [])]), none⟩, ⟨none, .st 2 (.t 5) (.t 11), none⟩] [9, 10, 11]) (.seq (.reg false [⟨some 12, .fa 2 (.t 3), none⟩, ⟨some 13, .ld false 1 (.t 12), none⟩, ⟨some 14, .call false 30 [(.t 13)], none⟩, ⟨some 15, .fa 2 (.t 3), none⟩, ⟨none, .st 1 (.t 15) (.t 14), none⟩] [12, 13, 14, 15]) (.seq (.reg false [⟨some 6, .as (.c (.lit (.bool false))), none⟩] []) (.seq (.seq (.reg false [⟨some 16, .fa 1 (.t 2), none⟩, ⟨some 17, .ld false 1 (.t 16), none⟩, ⟨some 18, .len false (.t 17), none⟩, ⟨some 19, .mv (.c (.lit (.int .i64 0))), none⟩] [16]) (.block 0 (.loop (.seq (.reg false [⟨some 20, .bin .lss 0 (.t 19) (.t 18), none⟩] []) (.seq (.cond (.t 20) (.skip) (.exit 0)) (.seq (.block 1 (.seq (.reg false [⟨some 21, .ia 4 (.t 17) (.t 19), none⟩, ⟨some 22, .ld true 4 (.t 21), none⟩, ⟨some 8, .alloc (.agg [(.lit (.string (by8 ""))), (.lit (.string (by8 ""))), (.sl ⟨.nl, true⟩ 1 []), (.lit (.bool false))]), none⟩, ⟨none, .st 4 (.t 8) (.t 22), none⟩] [21, 22]) (.seq (.reg false [⟨some 23, .fa 2 (.t 8), none⟩, ⟨some 24, .ld false 1 (.t 23), none⟩, ⟨some 25, .call false 30 [(.t 24)], none⟩, ⟨some 26, .fa 2 (.t 8), none⟩, ⟨none, .st 1 (.t 26) (.t 25), none⟩] [23, 24, 25, 26]) (.seq (.seq (.reg false [⟨some 27, .fa 0 (.t 8), none⟩, ⟨some 28, .ld false 1 (.t 27), none⟩, ⟨some 29, .fa 0 (.t 3), none⟩, ⟨some 30, .ld false 1 (.t 29), none⟩, ⟨some 31, .bin .eql 0 (.t 28) (.t 30), none⟩, ⟨some 32, .mv (.t 31), none⟩, ⟨some 33, .mv (.t 6), (some (32, true))⟩, ⟨some 34, .un .not (.t 33), (some (32, true))⟩, ⟨some 35, .pick (.t 32) (.t 34) (.c (.lit (.bool false))), none⟩] [27, 28, 29, 30, 31, 32, 33, 34]) (.cond (.t 35) (.reg false [⟨some 36, .ld true 4 (.t 3), none⟩, ⟨none, .st 4 (.t 8) (.t 36), none⟩, ⟨some 6, .as (.c (.lit (.bool true))), none⟩] [36]) (.skip))) (.reg false [⟨some 37, .fa 1 (.t 5), none⟩, ⟨some 38, .ld false 1 (.t 37), none⟩, ⟨some 39, .ld true 4 (.t 8), none⟩, ⟨some 40, .bsl 4 [(.t 39)], none⟩, ⟨some 41, .app 4 64 (.t 38) (.t 40), none⟩, ⟨some 42, .fa 1 (.t 5), none⟩, ⟨none, .st 1 (.t 42) (.t 41), none⟩] [37, 38, 39, 40, 41, 42]))))) (.reg false [⟨some 43, .bin .add 0 (.t 19) (.c (.lit (.int .i64 1))), none⟩, ⟨some 19, .mv (.t 43), none⟩] [43]))))))) (.seq (.seq (.reg false [⟨some 44, .mv (.t 6), none⟩, ⟨some 45, .un .not (.t 44), none⟩] [44]) (.cond (.t 45) (.reg false [⟨some 46, .fa 1 (.t 5), none⟩, ⟨some 47, .ld false 1 (.t 46), none⟩, ⟨some 48, .ld true 4 (.t 3), none⟩, ⟨some 49, .bsl 4 [(.t 48)], none⟩, ⟨some 50, .app 4 64 (.t 47) (.t 49), none⟩, ⟨some 51, .fa 1 (.t 5), none⟩, ⟨none, .st 1 (.t 51) (.t 50), none⟩] [46, 47, 48, 49, 50, 51]) (.skip))) (.seq (.reg false [⟨some 52, .ld true 2 (.t 5), none⟩, ⟨none, .st 2 (.t 4) (.t 52), none⟩] [52]) (.ret)))))))
theorem is10 : Is Go.Proofs.Try.prog 10 53 v10 [.b 4 true 2] := ⟨Go.Proofs.Try.f10, dl [(1, [9, 10, 11]), (2, [12, 13, 14, 15]), (4, [16]), (6, [21, 22]), (7, [23, 24, 25, 26]), (8, [27, 28, 29, 30, 31, 32, 33, 34]), (9, [36]), (10, [37, 38, 39, 40, 41, 42]), (11, [43]), (12, [44]), (13, [46, 47, 48, 49, 50, 51]), (14, [52])], Go.Proofs.Try.func10, by kernel_rfl, by kernel_rfl, by kernel_rfl, by kernel_rfl⟩
theorem noIL_iff {p : Nat → Prop} {l : List AV} : noI.noIL p l ↔ ∀ a ∈ l, noI p a := by
  induction l with
  | nil => simp [noI.noIL]
  | cons a l ih => simp [noI.noIL, ih]
theorem noIL_app (p : Nat → Prop) : ∀ (a b : List AV), noI.noIL p (a ++ b) ↔ noI.noIL p a ∧ noI.noIL p b
  | [], b => by simp [noI.noIL]
  | x :: a, b => by simp only [List.cons_append, noI.noIL, noIL_app p a b, and_assoc]
theorem noIL_strs (p : Nat → Prop) (l : List ByteArray) : noI.noIL p (l.map fun x => AV.lit (.string x)) := noIL_iff.2 fun a ha => by
  obtain ⟨x, _, rfl⟩ := List.mem_map.1 ha; trivial
theorem noI_ro (p : Nat → Prop) (sz : Nat) (xs : List AV) (h : noI.noIL p xs) : noI p (.sl ro sz xs) := ⟨by simp [ro], h⟩
theorem noI_fld (p : Nat → Prop) (f : Fld) : noI p (.agg f.av) := ⟨trivial, trivial, noI_ro _ _ _ (noIL_strs _ _), trivial, trivial⟩
theorem noIL_flds (p : Nat → Prop) (l : List Fld) : noI.noIL p (flds l) := noIL_iff.2 fun a ha => by
  obtain ⟨x, _, rfl⟩ := List.mem_map.1 ha; exact noI_fld p x
/-- a named tree bears just its names -/
theorem noI_idS {p : Nat → Prop} : ∀ (t : AV), wfT t = true → ∀ n, (∀ k, n ≤ k → k < n + nB t → ¬ p k) → noI p (idS n t) := by
  intro t
  refine AV.rec (motive_1 := fun t => wfT t = true → ∀ n, (∀ k, n ≤ k → k < n + nB t → ¬ p k) → noI p (idS n t)) (motive_2 := fun cs => wfT.wfL cs = true → ∀ n, (∀ k, n ≤ k → k < n + nB.nBL cs → ¬ p k) → noI.noIL p (idS.idL n cs)) ?_ ?_ ?_ ?_ ?_ ?_ ?_ ?_ ?_ ?_ ?_ ?_ ?_ t
  · intro h; cases h
  · intro v _ n _; trivial
  · intro m sz xs ih hw n h
    obtain ⟨_, _, w3⟩ := wf_sl hw
    simp only [idS, nB] at h ⊢
    split
    · exact noI_ro _ _ _ trivial
    · rename_i he
      rw [if_neg he] at h
      refine ⟨fun k hk => ?_, ih w3 (n + 1) fun k h1 h2 => h k (by omega) (by omega)⟩
      obtain rfl : n = k := by simpa using hk
      exact h n (Nat.le_refl _) (by omega)
  · intro cs ih hw n h
    simp only [wfT, Bool.and_eq_true] at hw
    simp only [idS]
    exact ih hw.2 n (by simpa only [nB] using h)
  · intro _ _ hw; cases hw
  · intro _ _ _ hw; cases hw
  · intro _ _ _ hw; cases hw
  · intro _ _ _ hw; cases hw
  · intro _ _ _ hw; cases hw
  · intro _ _ _ hw; cases hw
  · intro _ _ hw; cases hw
  · intro _ n _; trivial
  · intro c cs h1 h2 hw n h
    simp only [wfT.wfL, Bool.and_eq_true] at hw
    simp only [nB.nBL] at h
    exact ⟨h1 hw.1 n fun k a b => h k a (by omega), h2 hw.2 (n + nB c) fun k a b => h k (by omega) (by omega)⟩
theorem noIL_idL {p : Nat → Prop} {cs : List AV} (hw : wfT.wfL cs = true) (n : Nat) (h : ∀ k, n ≤ k → k < n + nB.nBL cs → ¬ p k) : noI.noIL p (idS.idL n cs) := by
  induction cs generalizing n with
  | nil => trivial
  | cons c cs ih =>
    simp only [wfT.wfL, Bool.and_eq_true] at hw
    simp only [nB.nBL] at h
    exact ⟨noI_idS c hw.1 n fun k a b => h k a (by omega), ih hw.2 (n + nB c) fun k a b => h k (by omega) (by omega)⟩
/-- the mark of a row of texts -/
def mT (b : Bool) (p : Nat) (l : List ByteArray) : Mk := if l.isEmpty = true then ⟨.no, b⟩ else ⟨.id p, b⟩
theorem lsI_eq (p : Nat) (l : List ByteArray) : lsI p l = .sl (mT false p l) 1 (l.map fun x => .lit (.string x)) := by
  unfold lsI mT
  cases l <;> rfl
def lsT (p : Nat) (l : List ByteArray) : AV := .sl (mT true p l) 1 (l.map fun x => .lit (.string x))
@[simp] theorem mT_skI (b : Bool) (p : Nat) (l : List ByteArray) : skI (mT b p l) = mT false p l := by unfold mT; split <;> rfl
@[simp] theorem mT_mkI (b c : Bool) (p : Nat) (l : List ByteArray) : mkI c (mT b p l) = mT c p l := by unfold mT; split <;> rfl
@[simp] theorem mT_fr (b : Bool) (p : Nat) (l : List ByteArray) : (mT b p l).fr = b := by unfold mT; split <;> rfl
@[simp] theorem mT_noC (b : Bool) (d p sz : Nat) (l : List ByteArray) (xs : List AV) : noC d (.sl (mT b p l) sz xs) = true := by unfold mT; split <;> rfl
@[simp] theorem mT_dem (b : Bool) (c p sz : Nat) (l : List ByteArray) (xs : List AV) : dem c (.sl (mT b p l) sz xs) = .sl (mT b p l) sz xs := by unfold mT; split <;> rfl
@[simp] theorem mT_nam (b : Bool) (c k p sz : Nat) (l : List ByteArray) (xs : List AV) : nam c k (.sl (mT b p l) sz xs) = .sl (mT b p l) sz xs := by unfold mT; split <;> rfl
@[simp] theorem mT_reC (b : Bool) (ks : List Nat) (p sz : Nat) (l : List ByteArray) (xs : List AV) : reC ks (.sl (mT b p l) sz xs) = .sl (mT b p l) sz xs := by unfold mT; split <;> rfl
@[simp] theorem dem_lit (c : Nat) (v : Value) : dem c (.lit v) = .lit v := rfl
@[simp] theorem dem_ptr (c n i o : Nat) : dem c (.ptr n i o) = .ptr n i o := rfl
@[simp] theorem dem_agg (c : Nat) (cs : List AV) : dem c (.agg cs) = .agg (dem.demL c cs) := by rw [dem]
@[simp] theorem dem_ro (c sz : Nat) (xs : List AV) : dem c (.sl ro sz xs) = .sl ro sz xs := rfl
@[simp] theorem dem_no (c sz : Nat) (b : Bool) (xs : List AV) : dem c (.sl ⟨.no, b⟩ sz xs) = .sl ⟨.no, b⟩ sz xs := rfl
@[simp] theorem dem_nl (c sz : Nat) (b : Bool) (xs : List AV) : dem c (.sl ⟨.nl, b⟩ sz xs) = .sl ⟨.nl, b⟩ sz xs := rfl
@[simp] theorem dem_cl (c k sz : Nat) (b : Bool) (xs : List AV) : dem c (.sl ⟨.cl k, b⟩ sz xs) = if k = c then .sl ⟨.no, b⟩ sz xs else .sl ⟨.cl k, b⟩ sz xs := rfl
@[simp] theorem demL_nil (c : Nat) : dem.demL c [] = [] := rfl
@[simp] theorem demL_cons (c : Nat) (x : AV) (l : List AV) : dem.demL c (x :: l) = dem c x :: dem.demL c l := rfl
theorem mT_noI (q : Nat → Prop) (b : Bool) (p : Nat) (l : List ByteArray) (h : l = [] ∨ ¬ q p) : noI q (.sl (mT b p l) 1 (l.map fun x => .lit (.string x))) := by
  refine ⟨fun k hk => ?_, noIL_strs _ _⟩
  unfold mT at hk
  split at hk
  · cases hk
  · rename_i he
    obtain rfl : p = k := by simpa using hk
    rcases h with h | h
    · exact absurd (by rw [h]; rfl) he
    · exact h
theorem idS_fld (p : Nat) (f : Fld) : idS p (.agg f.av) = .agg [.lit (.string f.key), .lit (.string f.text), lsI p f.list, .lit (.bool f.isL)] := by
  rw [show idS p (.agg f.av) = .agg [.lit (.string f.key), .lit (.string f.text), idS (p + 0 + 0) (.sl ro 1 (f.list.map fun x => .lit (.string x))), .lit (.bool f.isL)] from rfl, idS_strs]
  rfl
def fldsI (n : Nat) (l : List Fld) : List AV := idS.idL n (flds l)
theorem fldsI_snoc (n : Nat) (l : List Fld) (f : Fld) : fldsI n (l ++ [f]) = fldsI n l ++ [.agg [.lit (.string f.key), .lit (.string f.text), lsI (n + nB.nBL (flds l)) f.list, .lit (.bool f.isL)]] := by
  unfold fldsI
  rw [flds_snoc, idL_app, idS.idL, idS_fld, idS.idL]
theorem fldsI_len (n : Nat) (l : List Fld) : (fldsI n l).length = l.length := by unfold fldsI; rw [idL_len]; simp [flds]
theorem nBL_snoc (l : List Fld) (f : Fld) : nB.nBL (flds (l ++ [f])) = nB.nBL (flds l) + n1 f.list := by
  rw [flds_snoc, nBL_app]; simp only [nB.nBL, nB_fld]; omega
theorem nBL_mono (R : List Fld) : ∀ {i j : Nat}, i ≤ j → nB.nBL (flds (R.take i)) ≤ nB.nBL (flds (R.take j)) := by
  intro i j h
  have e : R.take j = R.take i ++ (R.drop i).take (j - i) := by
    rw [show j = i + (j - i) by omega, List.take_add]; simp
  rw [e]
  unfold flds
  rw [List.map_append, nBL_app]
  omega
theorem n1_pos {l : List ByteArray} (h : l ≠ []) : n1 l = 1 := by unfold n1; rw [if_neg (by simpa using h)]
def outN (c : Nat) (R : List Fld) (i : Nat) : AV := if i = 0 then .sl ⟨.nl, true⟩ 1 [] else .sl ⟨.cl c, true⟩ 4 (fldsI 1 (R.take i))
theorem outN_noI {q : Nat → Prop} (c : Nat) (R : List Fld) (i : Nat) (h : ∀ k, 1 ≤ k → k < 1 + nB.nBL (flds (R.take i)) → ¬ q k) : noI q (outN c R i) := by
  unfold outN
  split
  · exact ⟨by simp, trivial⟩
  · exact ⟨by simp, noIL_idL (wfL_flds _) 1 h⟩
theorem Fin_nam {K : Nat → Prop} {rs : List VR} {r r' : AV} {s : AS} (c k : Nat) (hk : K k) (hs : s.noI fun j => j = k) (h : resVs (s.nam c k) rs = some [r']) (h2 : r = reC [] r') : FinK K rs r [] .ret s := ⟨.inr rfl, _, .nam s c k hk hs, _, h, h2⟩
section
variable {E : Env} (hE : E.P = Go.Proofs.Try.prog)
include hE
theorem clone_nm (l : List ByteArray) (hl : l.length ≤ 1048576) (hne : l ≠ []) (N : Nat) : FxK E (fun j => j = N) 30 [] [.sl ro 1 (l.map fun x => .lit (.string x))] [] (.sl ⟨.id N, true⟩ 1 (l.map fun x => .lit (.string x))) := by
  refine (is30.to hE).fxk (fun j => j = N) [] (by simp) rfl rfl ?_
  simp [v30, AS.dem, mapV, dem, dem.demL, frA.frL, ro]
  refine ⟨⟨by omega, ?_⟩, fun h => absurd h hne⟩
  refine ⟨.inr rfl, ⟨[(2, .sl ⟨.id N, true⟩ 1 (l.map fun x => .lit (.string x)))], []⟩, .trans (Wk_same (s := AS.nam ⟨mapV frU [(0, .sl ⟨.no, false⟩ 1 (l.map fun x => .lit (.string x))), (2, .sl ⟨.cl 320, false⟩ 1 (l.map fun x => .lit (.string x))), (4, .lit (.bool false))], mapV frU.frUL []⟩ 320 N) ?_ rfl) (.trans (.nam _ 320 N rfl ?_) (.frs ⟨[(0, .sl ⟨.no, false⟩ 1 (l.map fun x => .lit (.string x))), (2, .sl ⟨.cl 320, false⟩ 1 (l.map fun x => .lit (.string x))), (4, .lit (.bool false))], []⟩)), _, rfl, rfl⟩
  · simp [wkL, AS.nam, mapV, nam, frU, litL_strs, wkV.same]
  · simp [AS.noI, allP, mapV, frU, noI, noIL_strs, ro]
theorem vcall_clone {s : AS} {t : Nat} {a : AV} {Q : AS → Prop} (l : List ByteArray) (N : Nat) (hl : l.length ≤ 1048576) (ha : ∃ b, a = .sl ⟨.no, b⟩ 1 (l.map fun x => .lit (.string x))) (hc : (s.putO (some t) .un).noC t = true) (hI : l ≠ [] → (s.putO (some t) .un).noI fun j => j = N) {k : Lk Q} (hQ : Q (s.put t (lsT N l))) : Xc ⟨E, fun _ => True⟩ false s (some t) 30 [a] Q k := by
  obtain ⟨b, rfl⟩ := ha
  by_cases hne : l = []
  · subst hne
    exact vcall_go (clone_fx hE [] hl) (by simp) (by simp) (by simp) hc (by simpa [lsT, mT] using hQ)
  · refine vcall_nm (clone_nm hE l hl hne N) (by simp) (by simp) (by simp) hc (fun _ _ => trivial) (hI hne) (by simp [noI.noIL, noI, noIL_strs]) ?_
    have : lsT N l = .sl ⟨.id N, true⟩ 1 (l.map fun x => .lit (.string x)) := by unfold lsT mT; rw [if_neg (by simpa using hne)]
    rw [this] at hQ
    simpa using hQ
set_option maxHeartbeats 8000000 in
theorem implSet_fx (x : Tb) (f : Fld) (hl : x.fields.length ≤ 1048576) (hx : ∀ g ∈ x.fields, g.list.length ≤ 1048576) (hf : f.list.length ≤ 1048576) : FxK E (fun _ => True) 10 [] [.agg x.av, .agg f.av] [] (.agg [.lit (.string x.name), .sl ⟨.id 0, true⟩ 4 (fldsI 1 (setF x.fields f))]) := by
  have hxa : x.av = [.lit (.string x.name), .sl ro 4 (flds x.fields)] := rfl
  have hfa : f.av = [.lit (.string f.key), .lit (.string f.text), .sl ro 1 (f.list.map fun x => .lit (.string x)), .lit (.bool f.isL)] := rfl
  have hxl : (flds x.fields).length = x.fields.length := by simp [flds]
  obtain ⟨R, hR⟩ : ∃ R, setF x.fields f = R := ⟨_, rfl⟩
  obtain ⟨i0, hi0⟩ : ∃ i0, idx0 x.fields f = i0 := ⟨_, rfl⟩
  have hi0le := idx0_le x.fields f
  obtain ⟨N, hN⟩ : ∃ N, 1 + nB.nBL (flds (R.take i0)) = N := ⟨_, rfl⟩
  rw [hR]
  refine (is10.to hE).fxk (fun _ => True) [] (by simp) rfl rfl ?_
  rw [hxa, hfa]
  simp [v10, okC, putElem, upd, fill]
  refine vcall_clone hE f.list N hf ⟨false, rfl⟩ (by simp) (fun _ => by simp [AS.noI, AS.putO, AS.put, allP, setL, noI, noIL_strs, noIL_flds, noI.noIL, ro]) ?_
  simp [okC, putElem, upd, lsT]
  refine X_loop (τ := Nat) (fun i => ⟨[(2, .ptr 1000000000002 0 0), (3, .ptr 1000000000003 0 0), (4, .ptr 1000000000004 0 0), (5, .ptr 1000000000005 0 0), (6, .lit (.bool (decide (i0 < i)))), (17, .sl ro 4 (flds x.fields)), (18, .lit (.int .i64 x.fields.length)), (19, .lit (.int .i64 i))], [(1000000000002, [.agg [.lit (.string x.name), .sl ro 4 (flds x.fields)]]), (1000000000003, [.agg [.lit (.string f.key), .lit (.string f.text), .sl (mT true N f.list) 1 (f.list.map fun x => .lit (.string x)), .lit (.bool f.isL)]]), (1000000000004, [.agg [.lit (.string (by8 "")), .sl ⟨.nl, true⟩ 1 []]]), (1000000000005, [.agg [.lit (.string x.name), outN 2624 R i]])]⟩) (fun i => i ≤ x.fields.length) (fun i => x.fields.length - i) 0 (by simp) (Wk.both (by simp [wkL, wkV.same, hxl]) (by simp [wkB, outN])) ?_
  intro i hi
  simp
  by_cases hlt : i < x.fields.length
  · have hg : (flds x.fields)[i]? = some (.agg x.fields[i].av) := by unfold flds; rw [List.getElem?_map, List.getElem?_eq_getElem hlt]; rfl
    have hav : x.fields[i].av = [.lit (.string x.fields[i].key), .lit (.string x.fields[i].text), .sl ro 1 (x.fields[i].list.map fun x => .lit (.string x)), .lit (.bool x.fields[i].isL)] := rfl
    have hxi := hx _ (List.getElem_mem hlt)
    have htk := setF_take (f := f) hlt
    rw [hR, hi0] at htk
    have hrl : (fldsI 1 (R.take i)).length = i := by rw [fldsI_len, ← hR]; have := take_len (f := f) (i := i) (l := x.fields) (by omega); simpa [flds] using this
    have hoB : ∀ d, noB d (outN 2624 R i) = true := fun d => by unfold outN; split <;> rfl
    have hoC : noC 25 (outN 2624 R i) = true := by unfold outN; split <;> rfl
    obtain ⟨M, hM⟩ : ∃ M, 1 + nB.nBL (flds (R.take i)) = M := ⟨_, rfl⟩
    simp [hlt, hg, hav, okC, mkF, mkF.mkL, putElem, upd, hoB]
    by_cases hii : i = i0
    · have hk := idx0_eq hlt (hii.trans hi0.symm)
      rw [if_pos hii] at htk
      have hNi : 1 + nB.nBL (flds (R.take i)) = N := by rw [hii]; exact hN
      have hd : ¬ i0 < i := by omega
      have hd2 : i0 < i + 1 := by omega
      refine vcall_go (clone_fx hE x.fields[i].list hxi) (by simp) (by simp) (by simp) (by simp [hoC]) ?_
      simp [hk, hd, okC, putElem, upd, hoB]
      by_cases hz : i = 0
      · have ho : outN 2624 R i = .sl ⟨.nl, true⟩ 1 [] := by simp [outN, hz]
        have hT : fldsI 1 (R.take (i + 1)) = [.agg [.lit (.string f.key), .lit (.string f.text), .sl (mT false N f.list) 1 (f.list.map fun x => .lit (.string x)), .lit (.bool f.isL)]] := by
          rw [htk, fldsI_snoc, lsI_eq, hNi, show R.take i = [] by rw [hz]; rfl]; rfl
        rw [ho]
        simp [okC, putElem, upd, frA, frA.frL]
        refine ⟨i + 1, by omega, by omega, Wk.both (by simp [wkL, wkV.same, hd2]; rw [wrapN (by omega)]; exact wkV.same _) ?_⟩
        simp [wkB, outN, hT]
      · have ho : outN 2624 R i = .sl ⟨.cl 2624, true⟩ 4 (fldsI 1 (R.take i)) := by simp [outN, hz]
        have hT : fldsI 1 (R.take (i + 1)) = fldsI 1 (R.take i) ++ [.agg [.lit (.string f.key), .lit (.string f.text), .sl (mT false N f.list) 1 (f.list.map fun x => .lit (.string x)), .lit (.bool f.isL)]] := by
          rw [htk, fldsI_snoc, lsI_eq, hNi]
        rw [ho]
        simp [okC, putElem, upd, frA, frA.frL, AS.dem, mapV, hrl]
        refine ⟨by omega, i + 1, by omega, by omega, Wk.both (by simp [wkL, wkV.same, hd2]; rw [wrapN (by omega)]; exact wkV.same _) ?_⟩
        simp [wkB, outN, hT]
    · rw [if_neg hii] at htk
      have hNi := hM
      have hne : x.fields[i].list ≠ [] → f.list = [] ∨ ¬ N = M := by
        intro hn
        by_cases hfe : f.list = []
        · exact .inl hfe
        · refine .inr fun e => ?_
          have h1 : nB.nBL (flds (R.take (i + 1))) = nB.nBL (flds (R.take i)) + n1 x.fields[i].list := by rw [htk, nBL_snoc]
          rw [n1_pos hn] at h1
          rcases Nat.lt_or_ge i i0 with h | h
          · have := nBL_mono R (i := i + 1) (j := i0) h
            omega
          · have hlt0 : i0 < x.fields.length := by omega
            have htk0 := setF_take (f := f) hlt0
            rw [hR, hi0, if_pos rfl] at htk0
            have h2 : nB.nBL (flds (R.take (i0 + 1))) = nB.nBL (flds (R.take i0)) + n1 f.list := by rw [htk0, nBL_snoc]
            rw [n1_pos hfe] at h2
            have := nBL_mono R (i := i0 + 1) (j := i) (by omega)
            omega
      have hoI : noI (fun j => j = M) (outN 2624 R i) := outN_noI _ _ _ fun k h1 h2 => by omega
      refine vcall_clone hE x.fields[i].list M hxi ⟨_, rfl⟩ (by simp [hoC]) (fun hn => ?_) ?_
      · have hmT := mT_noI (fun j => j = M) true N f.list (hne hn)
        simp only [noI] at hmT
        simp [AS.noI, AS.putO, AS.put, allP, setL, noI, noIL_strs, noIL_flds, noI.noIL, ro, hoI]
        exact hmT.1
      simp [okC, putElem, upd, lsT, hoB]
      by_cases hk : x.fields[i].key = f.key
      · have hd : i0 < i := by
          rcases Nat.lt_trichotomy i i0 with h | h | h
          · exact absurd hk (idx0_lt hlt (by omega))
          · exact absurd h hii
          · exact h
        have hd2 : i0 < i + 1 := by omega
        simp [hk, hd, okC, putElem, upd, hoB]
        by_cases hz : i = 0
        · have ho : outN 2624 R i = .sl ⟨.nl, true⟩ 1 [] := by simp [outN, hz]
          have hT : fldsI 1 (R.take (i + 1)) = [.agg [.lit (.string x.fields[i].key), .lit (.string x.fields[i].text), .sl (mT false M x.fields[i].list) 1 (x.fields[i].list.map fun x => .lit (.string x)), .lit (.bool x.fields[i].isL)]] := by
            rw [htk, fldsI_snoc, lsI_eq, hNi, show R.take i = [] by rw [hz]; rfl]; rfl
          rw [ho]
          simp [okC, putElem, upd, frA, frA.frL]
          refine ⟨i + 1, by omega, by omega, Wk.both (by simp [wkL, wkV.same, hd2]; rw [wrapN (by omega)]; exact wkV.same _) ?_⟩
          simp [wkB, outN, hT, hk]
        · have ho : outN 2624 R i = .sl ⟨.cl 2624, true⟩ 4 (fldsI 1 (R.take i)) := by simp [outN, hz]
          have hT : fldsI 1 (R.take (i + 1)) = fldsI 1 (R.take i) ++ [.agg [.lit (.string x.fields[i].key), .lit (.string x.fields[i].text), .sl (mT false M x.fields[i].list) 1 (x.fields[i].list.map fun x => .lit (.string x)), .lit (.bool x.fields[i].isL)]] := by
            rw [htk, fldsI_snoc, lsI_eq, hNi]
          rw [ho]
          simp [okC, putElem, upd, frA, frA.frL, AS.dem, mapV, hrl]
          refine ⟨by omega, i + 1, by omega, by omega, Wk.both (by simp [wkL, wkV.same, hd2]; rw [wrapN (by omega)]; exact wkV.same _) ?_⟩
          simp [wkB, outN, hT, hk]
      · have hd2 : (i0 < i + 1) = (i0 < i) := by apply propext; omega
        simp [hk, okC, putElem, upd, hoB]
        by_cases hz : i = 0
        · have ho : outN 2624 R i = .sl ⟨.nl, true⟩ 1 [] := by simp [outN, hz]
          have hT : fldsI 1 (R.take (i + 1)) = [.agg [.lit (.string x.fields[i].key), .lit (.string x.fields[i].text), .sl (mT false M x.fields[i].list) 1 (x.fields[i].list.map fun x => .lit (.string x)), .lit (.bool x.fields[i].isL)]] := by
            rw [htk, fldsI_snoc, lsI_eq, hNi, show R.take i = [] by rw [hz]; rfl]; rfl
          rw [ho]
          simp [okC, putElem, upd, frA, frA.frL]
          refine ⟨i + 1, by omega, by omega, Wk.both (by simp [wkL, wkV.same, hd2]; rw [wrapN (by omega)]; exact wkV.same _) ?_⟩
          simp [wkB, outN, hT]
        · have ho : outN 2624 R i = .sl ⟨.cl 2624, true⟩ 4 (fldsI 1 (R.take i)) := by simp [outN, hz]
          have hT : fldsI 1 (R.take (i + 1)) = fldsI 1 (R.take i) ++ [.agg [.lit (.string x.fields[i].key), .lit (.string x.fields[i].text), .sl (mT false M x.fields[i].list) 1 (x.fields[i].list.map fun x => .lit (.string x)), .lit (.bool x.fields[i].isL)]] := by
            rw [htk, fldsI_snoc, lsI_eq, hNi]
          rw [ho]
          simp [okC, putElem, upd, frA, frA.frL, AS.dem, mapV, hrl]
          refine ⟨by omega, i + 1, by omega, by omega, Wk.both (by simp [wkL, wkV.same, hd2]; rw [wrapN (by omega)]; exact wkV.same _) ?_⟩
          simp [wkB, outN, hT]
  · obtain rfl : i = x.fields.length := by omega
    simp
    have hmT := mT_noI (fun j => j = 0) true N f.list (.inr (by omega))
    simp only [noI] at hmT
    have hrow : ∀ l : List Fld, noI.noIL (fun j => j = 0) (fldsI 1 l) := fun l => noIL_idL (wfL_flds _) 1 fun k h1 _ => by omega
    by_cases hh : i0 < x.fields.length
    · have hz : x.fields.length ≠ 0 := by omega
      have hT := setF_hit (l := x.fields) (f := f) (by omega)
      rw [hR] at hT
      have ho : outN 2624 R x.fields.length = .sl ⟨.cl 2624, true⟩ 4 (fldsI 1 R) := by simp [outN, hz, hT]
      rw [ho]
      simp [hh, okC, putElem, upd]
      refine Fin_nam 2624 0 trivial ?_ rfl (by simp [reC, reC.reL, nam, nam.namL])
      simp [AS.noI, allP, noI, noIL_flds, noI.noIL, ro, hrow, noIL_strs]
      exact hmT.1
    · have hT := setF_miss (l := x.fields) (f := f) (by omega)
      rw [hR] at hT
      have hi0e : i0 = x.fields.length := by omega
      have hrl : (fldsI 1 (R.take x.fields.length)).length = x.fields.length := by rw [fldsI_len, ← hR]; have := take_len (f := f) (i := x.fields.length) (l := x.fields) (Nat.le_refl _); simpa [flds] using this
      have hN2 : 1 + nB.nBL (flds (R.take x.fields.length)) = N := by rw [← hi0e]; exact hN
      have hT2 : fldsI 1 R = fldsI 1 (R.take x.fields.length) ++ [.agg [.lit (.string f.key), .lit (.string f.text), .sl (mT false N f.list) 1 (f.list.map fun x => .lit (.string x)), .lit (.bool f.isL)]] := by
        conv => lhs; rw [← hT]
        rw [fldsI_snoc, lsI_eq, hN2]
      simp [hh, okC, putElem, upd]
      by_cases hz : x.fields.length = 0
      · have ho : outN 2624 R x.fields.length = .sl ⟨.nl, true⟩ 1 [] := by simp [outN, hz]
        have hT3 : fldsI 1 R = [.agg [.lit (.string f.key), .lit (.string f.text), .sl (mT false N f.list) 1 (f.list.map fun x => .lit (.string x)), .lit (.bool f.isL)]] := by rw [hT2, hz]; rfl
        have hrow1 := hrow R
        rw [hT3] at hrow1 ⊢
        rw [ho]
        simp [okC, putElem, upd, frA, frA.frL]
        refine Fin_nam 3200 0 trivial ?_ rfl (by simp [reC, reC.reL, nam, nam.namL])
        simp [AS.noI, allP, noI, noIL_flds, noI.noIL, ro, noIL_strs] at hrow1 ⊢
        exact ⟨hmT.1, hrow1⟩
      · have ho : outN 2624 R x.fields.length = .sl ⟨.cl 2624, true⟩ 4 (fldsI 1 (R.take x.fields.length)) := by simp [outN, hz]
        have hrow1 := hrow R
        rw [hT2] at hrow1 ⊢
        rw [ho]
        simp [okC, putElem, upd, frA, frA.frL, AS.dem, mapV, hrl]
        refine ⟨by omega, ?_⟩
        refine Fin_nam 2624 0 trivial ?_ rfl (by simp [reC, reC.reL, nam, nam.namL])
        simp [AS.noI, allP, noI, noIL_flds, noI.noIL, ro, noIL_strs, noIL_app] at hrow1 ⊢
        exact ⟨hmT.1, hrow1⟩
end
end Go.Proofs.Ytgegcfhifojjiaa.Vm
