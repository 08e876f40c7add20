/- An abstract machine over values: plain data, calls. -/
import Derived.Test.YtpopccnnjpdmlaaVmY
namespace Go.Proofs.Ytpopccnnjpdmlaa.Vm
open Go Go.RowKit
set_option linter.unusedVariables false
set_option linter.unusedSimpArgs false
/-- data without marks -/
def Pl (a : AV) : Prop := mkF false a = a
def PlL (l : List AV) : Prop := mkF.mkL false l = l
theorem PlL_nil : PlL [] := rfl
theorem PlL_cons {a : AV} {l : List AV} : PlL (a :: l) ↔ Pl a ∧ PlL l := by simp [PlL, Pl, mkF.mkL]
theorem Pl_agg {l : List AV} : Pl (.agg l) ↔ PlL l := by simp [PlL, Pl, mkF]
theorem Pl_lit (v : Value) : Pl (.lit v) := rfl
theorem Pl_sl (sz : Nat) (xs : List AV) : Pl (.sl ro sz xs) := rfl
theorem PlL_iff {l : List AV} : PlL l ↔ ∀ a ∈ l, Pl a := by
  induction l with
  | nil => simp [PlL_nil]
  | cons a l ih => simp [PlL_cons, ih]
theorem Pl.cells {a : AV} (h : Pl a) : PlL a.cells := by
  cases a with
  | agg cs => exact Pl_agg.1 h
  | _ => exact PlL_cons.2 ⟨h, PlL_nil⟩
/-- induction over plain data -/
theorem Pl.ind {p : AV → Prop} (hun : p .un) (hlit : ∀ v, p (.lit v)) (hsl : ∀ sz xs, p (.sl ro sz xs)) (hagg : ∀ l, (∀ a ∈ l, p a) → p (.agg l)) : ∀ a, Pl a → p a := by
  intro a
  refine AV.rec (motive_1 := fun a => Pl a → p a) (motive_2 := fun l => PlL l → ∀ a ∈ l, p a) ?_ ?_ ?_ ?_ ?_ ?_ ?_ ?_ ?_ ?_ ?_ ?_ ?_ a
  · exact fun _ => hun
  · exact fun v _ => hlit v
  · intro m sz xs _ h
    have : m = ro := by
      simp only [Pl, mkF, AV.sl.injEq, and_true] at h
      exact h.symm
    rw [this]; exact hsl sz xs
  · exact fun cs ih h => hagg cs (ih (Pl_agg.1 h))
  · intro cs _ h; simp [Pl, mkF] at h
  · intro n i o h; simp [Pl, mkF] at h
  · intro fr cs _ h; simp [Pl, mkF] at h
  · intro f cs _ h; simp [Pl, mkF] at h
  · intro n sz l h; simp [Pl, mkF] at h
  · intro sz cs _ h; simp [Pl, mkF] at h
  · intro cs _ h; simp [Pl, mkF] at h
  · intro _ a h; simp at h
  · intro b l h1 h2 h a ha
    obtain ⟨p1, p2⟩ := PlL_cons.1 h
    rcases List.mem_cons.1 ha with rfl | ha
    · exact h1 p1
    · exact h2 p2 a ha
theorem stripL_map : ∀ (l : List AV), strip.stripL l = l.map strip
  | [] => rfl
  | a :: l => by simp [strip.stripL, stripL_map l]
theorem datL_iff {l : List AV} : dat.datL l = true ↔ ∀ a ∈ l, dat a = true := by
  induction l with
  | nil => simp [dat.datL]
  | cons a l ih => simp [dat.datL, ih]
theorem argL_iff {l : List AV} : argOk.argL l = true ↔ ∀ a ∈ l, argOk a = true := by
  induction l with
  | nil => simp [argOk.argL]
  | cons a l ih => simp [argOk.argL, ih]
theorem noCL_iff {d : Nat} {l : List AV} : noC.noL d l = true ↔ ∀ a ∈ l, noC d a = true := by
  induction l with
  | nil => simp [noC.noL]
  | cons a l ih => simp [noC.noL, ih]
theorem noBL_iff {d : Nat} {l : List AV} : noB.noL d l = true ↔ ∀ a ∈ l, noB d a = true := by
  induction l with
  | nil => simp [noB.noL]
  | cons a l ih => simp [noB.noL, ih]
theorem ptrsL_nil {l : List AV} : ptrs.ptrsL l = [] ↔ ∀ a ∈ l, ptrs a = [] := by
  induction l with
  | nil => simp [ptrs.ptrsL]
  | cons a l ih => simp [ptrs.ptrsL, ih]
theorem Pl.strip {a : AV} (h : Pl a) : Vm.strip a = a := Pl.ind (p := fun a => Vm.strip a = a) rfl (fun _ => rfl) (fun _ _ => rfl) (fun l ih => by
  simp only [Vm.strip, stripL_map, AV.agg.injEq]
  exact (List.map_congr_left ih).trans (List.map_id l)) a h
theorem Pl.dat {a : AV} (h : Pl a) : Vm.dat a = true := Pl.ind (p := fun a => Vm.dat a = true) rfl (fun _ => rfl) (fun _ _ => rfl) (fun l ih => by simp only [Vm.dat]; exact datL_iff.2 ih) a h
theorem Pl.argOk {a : AV} (h : Pl a) : Vm.argOk a = true := dat_argOk a h.dat
theorem Pl.noC {a : AV} (h : Pl a) (d : Nat) : Vm.noC d a = true := Pl.ind (p := fun a => Vm.noC d a = true) rfl (fun _ => rfl) (fun _ _ => rfl) (fun l ih => by simp only [Vm.noC]; exact noCL_iff.2 ih) a h
theorem Pl.noB {a : AV} (h : Pl a) (d : Nat) : Vm.noB d a = true := Pl.ind (p := fun a => Vm.noB d a = true) rfl (fun _ => rfl) (fun _ _ => rfl) (fun l ih => by simp only [Vm.noB]; exact noBL_iff.2 ih) a h
theorem Pl.ptrs {a : AV} (h : Pl a) : Vm.ptrs a = [] := Pl.ind (p := fun a => Vm.ptrs a = []) rfl (fun _ => rfl) (fun _ _ => rfl) (fun l ih => by simp only [Vm.ptrs]; exact ptrsL_nil.2 ih) a h
theorem PlL.strip {l : List AV} (h : PlL l) : strip.stripL l = l := by
  rw [stripL_map]
  exact (List.map_congr_left fun a ha => (PlL_iff.1 h a ha).strip).trans (List.map_id l)
/-- what a load out of a row gives, unmarked again -/
theorem strip_mkF (b : Bool) : ∀ (a : AV), Vm.strip (mkF b a) = mkF false a := by
  intro a
  refine AV.rec (motive_1 := fun a => Vm.strip (mkF b a) = mkF false a) (motive_2 := fun l => strip.stripL (mkF.mkL b l) = mkF.mkL false l) ?_ ?_ ?_ ?_ ?_ ?_ ?_ ?_ ?_ ?_ ?_ ?_ ?_ a
  all_goals (intros; try rfl)
  · rename_i cs ih; simp only [mkF, Vm.strip, ih]
  · rename_i a l h1 h2; simp only [mkF.mkL, strip.stripL, h1, h2]
theorem noC_mkF (d : Nat) (b : Bool) (a : AV) : Vm.noC d (mkF b a) = true := by rw [ok1_noC]; exact ok1_mkF b a
theorem noB_mkF (d : Nat) (b : Bool) (a : AV) : Vm.noB d (mkF b a) = true := by rw [ok1_noB]; exact ok1_mkF b a
theorem ren_nil : ∀ (a : AV), Vm.ptrs a = [] → ren [] a = a := by
  intro a
  refine AV.rec (motive_1 := fun a => Vm.ptrs a = [] → ren [] a = a) (motive_2 := fun l => ptrs.ptrsL l = [] → ren.renL [] l = l) ?_ ?_ ?_ ?_ ?_ ?_ ?_ ?_ ?_ ?_ ?_ ?_ ?_ a
  all_goals (intros; try rfl)
  · rename_i cs ih h; simp only [ren, ih (by simpa only [Vm.ptrs] using h)]
  · rename_i n i o h; simp [Vm.ptrs] at h
  · rename_i f cs ih h; simp only [ren, ih (by simpa only [Vm.ptrs] using h)]
  · rename_i n sz l h; simp [Vm.ptrs] at h
  · rename_i a l h1 h2 h
    simp only [ptrs.ptrsL, List.append_eq_nil_iff] at h
    simp only [ren.renL, h1 h.1, h2 h.2]
theorem renL_nil {l : List AV} (h : ptrs.ptrsL l = []) : ren.renL [] l = l := by
  induction l with
  | nil => rfl
  | cons a l ih =>
    simp only [ptrs.ptrsL, List.append_eq_nil_iff] at h
    simp only [ren.renL, ren_nil a h.1, ih h.2]
theorem strip_ptrs : ∀ (a : AV), Vm.ptrs (Vm.strip a) = Vm.ptrs a := by
  intro a
  refine AV.rec (motive_1 := fun a => Vm.ptrs (Vm.strip a) = Vm.ptrs a) (motive_2 := fun l => ptrs.ptrsL (strip.stripL l) = ptrs.ptrsL l) ?_ ?_ ?_ ?_ ?_ ?_ ?_ ?_ ?_ ?_ ?_ ?_ ?_ a
  all_goals (intros; try rfl)
  · rename_i cs ih; simp only [Vm.strip, Vm.ptrs, ih]
  · rename_i f cs ih; simp only [Vm.strip, Vm.ptrs, ih]
  · rename_i a l h1 h2; simp only [strip.stripL, ptrs.ptrsL, h1, h2]
theorem strip_ptrsL (l : List AV) : ptrs.ptrsL (strip.stripL l) = ptrs.ptrsL l := by
  induction l with
  | nil => rfl
  | cons a l ih => simp only [strip.stripL, ptrs.ptrsL, strip_ptrs, ih]
/-- a loop, kept shut -/
theorem X_loop {E : Env} {c : VC} {Q : Ex → AS → Prop} {l : Lk Q} {τ : Type} (st : τ → AS) (I : τ → Prop) (m : τ → Nat) {s : AS} (i : τ) (hi : I i) (hw : Wk (st i) s) (step : ∀ i, I i → Xe E c (st i) (fun e s' => match e with | .normal => ∃ j, I j ∧ m j < m i ∧ Wk (st j) s' | e => Q e s') .mk) : Xe E (.loop c) s Q l := vx_loop st I m step i hi hw
/-- A call with data alone. -/
theorem vcall_go {E : Env} {q : Bool} {s : AS} {t f : Nat} {vs ws : List AV} {Q : AS → Prop} {r : AV} (hF : Fx E f [] ws [] r) (hw : strip.stripL vs = ws) (h1 : argOk.argL vs = true) (h2 : ptrs.ptrsL vs = []) (h3 : (s.putO (some t) .un).noC t = true) {l : Lk Q} (h4 : Q (s.put t (relab t (frA.frL vs) r))) : Xc E q s (some t) f vs Q l := by
  refine .inl ⟨h1, fun _ => by rw [h2]; rfl, t, rfl, h3, [], by rw [h2]; rfl, rfl, [], r, ?_, rfl, by rw [h2]; exact h4⟩
  rw [h2]
  show Fx E f [] (ren.renL [] (strip.stripL vs)) [] r
  rw [renL_nil (by rw [strip_ptrsL, h2]), hw]
  exact hF
theorem dat_mkF (b : Bool) : ∀ (a : AV), Vm.dat (mkF b a) = true := by
  intro a
  refine AV.rec (motive_1 := fun a => Vm.dat (mkF b a) = true) (motive_2 := fun l => dat.datL (mkF.mkL b l) = true) ?_ ?_ ?_ ?_ ?_ ?_ ?_ ?_ ?_ ?_ ?_ ?_ ?_ a
  all_goals (intros; try rfl)
  · rename_i cs ih; simp only [mkF, Vm.dat, ih]
  · rename_i a l h1 h2; simp only [mkF.mkL, dat.datL, h1, h2, Bool.and_self]
theorem mkL_map (b : Bool) : ∀ (l : List AV), mkF.mkL b l = l.map (mkF b)
  | [] => rfl
  | a :: l => by simp [mkF.mkL, mkL_map b l]
theorem datL_mkL (b : Bool) (l : List AV) : dat.datL (mkF.mkL b l) = true := by rw [mkL_map, datL_iff]; intro a ha; obtain ⟨c, _, rfl⟩ := List.mem_map.1 ha; exact dat_mkF b c
theorem noL_mkL (d : Nat) (b : Bool) (l : List AV) : noC.noL d (mkF.mkL b l) = true := by rw [mkL_map, noCL_iff]; intro a ha; obtain ⟨c, _, rfl⟩ := List.mem_map.1 ha; exact noC_mkF d b c
theorem noLB_mkL (d : Nat) (b : Bool) (l : List AV) : noB.noL d (mkF.mkL b l) = true := by rw [mkL_map, noBL_iff]; intro a ha; obtain ⟨c, _, rfl⟩ := List.mem_map.1 ha; exact noB_mkF d b c
theorem ptrs_dat : ∀ (a : AV), Vm.dat a = true → Vm.ptrs a = [] := by
  intro a
  refine AV.rec (motive_1 := fun a => Vm.dat a = true → Vm.ptrs a = []) (motive_2 := fun l => dat.datL l = true → ptrs.ptrsL l = []) ?_ ?_ ?_ ?_ ?_ ?_ ?_ ?_ ?_ ?_ ?_ ?_ ?_ a
  all_goals (intros; try rfl)
  · rename_i cs ih h; simp only [Vm.ptrs]; exact ih (by simpa only [Vm.dat] using h)
  · rename_i h; cases h
  · rename_i h; cases h
  · rename_i h; cases h
  · rename_i a l h1 h2 h
    simp only [dat.datL, Bool.and_eq_true] at h
    simp only [ptrs.ptrsL, h1 h.1, h2 h.2, List.append_nil]
theorem ptrs_mkF (b : Bool) (a : AV) : Vm.ptrs (mkF b a) = [] := ptrs_dat _ (dat_mkF b a)
theorem ptrsL_mkL (b : Bool) (l : List AV) : ptrs.ptrsL (mkF.mkL b l) = [] := by rw [ptrsL_nil]; intro a ha; rw [mkL_map] at ha; obtain ⟨c, _, rfl⟩ := List.mem_map.1 ha; exact ptrs_mkF b c
theorem stripL_mkL (b : Bool) (l : List AV) : strip.stripL (mkF.mkL b l) = mkF.mkL false l := by rw [stripL_map, mkL_map, mkL_map, List.map_map]; exact List.map_congr_left fun a _ => strip_mkF b a
theorem PlL.mkL {l : List AV} (h : PlL l) : mkF.mkL false l = l := h
theorem argOk_mkF (b : Bool) (a : AV) : Vm.argOk (mkF b a) = true := dat_argOk _ (dat_mkF b a)
theorem noC_slno (d : Nat) (fr : Bool) (sz : Nat) (xs : List AV) : noC d (.sl ⟨.no, fr⟩ sz xs) = true := rfl
theorem noC_slnl (d : Nat) (fr : Bool) (sz : Nat) (xs : List AV) : noC d (.sl ⟨.nl, fr⟩ sz xs) = true := rfl
theorem noC_slcl (d c : Nat) (fr : Bool) (sz : Nat) (xs : List AV) : noC d (.sl ⟨.cl c, fr⟩ sz xs) = (c / 64 != d) := rfl
theorem noC_slro (d : Nat) (sz : Nat) (xs : List AV) : noC d (.sl ro sz xs) = true := rfl
theorem noC_un (d : Nat) : noC d .un = true := rfl
theorem noC_lit (d : Nat) (v : Value) : noC d (.lit v) = true := rfl
theorem noC_ptr (d n i o : Nat) : noC d (.ptr n i o) = true := rfl
theorem noC_bs (d n i o : Nat) : noC d (.bs n i o) = true := rfl
theorem noC_ep (d : Nat) (fr : Bool) (cs : List AV) : noC d (.ep fr cs) = true := rfl
theorem noC_agg (d : Nat) (cs : List AV) : noC d (.agg cs) = noC.noL d cs := by rw [noC]
theorem noC_tup (d : Nat) (cs : List AV) : noC d (.tup cs) = noC.noL d cs := by rw [noC]
theorem noC_fn (d f : Nat) (cs : List AV) : noC d (.fn f cs) = noC.noL d cs := by rw [noC]
theorem noB_sl (d : Nat) (m : Mk) (sz : Nat) (xs : List AV) : noB d (.sl m sz xs) = true := rfl
theorem noB_un (d : Nat) : noB d .un = true := rfl
theorem noB_lit (d : Nat) (v : Value) : noB d (.lit v) = true := rfl
theorem noB_ptr (d n i o : Nat) : noB d (.ptr n i o) = (n != d) := rfl
theorem noB_bs (d n i o : Nat) : noB d (.bs n i o) = (n != d) := rfl
theorem noB_ep (d : Nat) (fr : Bool) (cs : List AV) : noB d (.ep fr cs) = true := rfl
theorem noB_agg (d : Nat) (cs : List AV) : noB d (.agg cs) = noB.noL d cs := by rw [noB]
theorem noB_tup (d : Nat) (cs : List AV) : noB d (.tup cs) = noB.noL d cs := by rw [noB]
theorem noB_fn (d f : Nat) (cs : List AV) : noB d (.fn f cs) = noB.noL d cs := by rw [noB]
theorem strip_sl (m : Mk) (sz : Nat) (xs : List AV) : Vm.strip (.sl m sz xs) = .sl ro sz xs := rfl
theorem strip_agg (cs : List AV) : Vm.strip (.agg cs) = .agg (strip.stripL cs) := by rw [Vm.strip]
theorem strip_lit (v : Value) : Vm.strip (.lit v) = .lit v := rfl
theorem argOk_sl (m : Mk) (sz : Nat) (xs : List AV) : Vm.argOk (.sl m sz xs) = true := rfl
theorem argOk_lit (v : Value) : Vm.argOk (.lit v) = true := rfl
theorem argOk_agg (cs : List AV) : Vm.argOk (.agg cs) = (dat.datL cs || argOk.argL cs) := by simp [Vm.argOk]
theorem ptrs_agg (cs : List AV) : Vm.ptrs (.agg cs) = ptrs.ptrsL cs := by rw [Vm.ptrs]
theorem dat_agg (cs : List AV) : Vm.dat (.agg cs) = dat.datL cs := by rw [Vm.dat]
theorem dat_lit (v : Value) : Vm.dat (.lit v) = true := rfl
theorem dat_sl (m : Mk) (sz : Nat) (xs : List AV) : Vm.dat (.sl m sz xs) = true := rfl
theorem ptrs_lit (v : Value) : Vm.ptrs (.lit v) = [] := rfl
theorem ptrs_sl (m : Mk) (sz : Nat) (xs : List AV) : Vm.ptrs (.sl m sz xs) = [] := rfl
theorem relab_lit (d : Nat) (b : Bool) (v : Value) : relab d b (.lit v) = .lit v := rfl
theorem relab_un (d : Nat) (b : Bool) : relab d b .un = .un := rfl
theorem relab_agg (d : Nat) (b : Bool) (cs : List AV) : relab d b (.agg cs) = .agg (relab.relabL d b cs) := by rw [relab]
theorem relab_tup (d : Nat) (b : Bool) (cs : List AV) : relab d b (.tup cs) = .tup (relab.relabL d b cs) := by rw [relab]
theorem relab_slcl (d c : Nat) (b fr : Bool) (sz : Nat) (xs : List AV) : relab d b (.sl ⟨.cl c, fr⟩ sz xs) = .sl ⟨.cl (64 * d + c), fr || b⟩ sz xs := rfl
theorem relab_slno (d : Nat) (b fr : Bool) (sz : Nat) (xs : List AV) : relab d b (.sl ⟨.no, fr⟩ sz xs) = .sl ⟨.no, fr || b⟩ sz xs := rfl
theorem relab_slnl (d : Nat) (b fr : Bool) (sz : Nat) (xs : List AV) : relab d b (.sl ⟨.nl, fr⟩ sz xs) = .sl ⟨.nl, fr || b⟩ sz xs := rfl
theorem wrap_i64 {i : Int} (h0 : -9223372036854775808 ≤ i) (h1 : i ≤ 9223372036854775807) : IntKind.i64.wrap i = i := by
  unfold IntKind.wrap
  have h : IntKind.i64.signed = true := rfl
  simp [IntKind.bits, h]
  split <;> omega
attribute [simp] Pl_lit Pl_sl PlL_nil PlL_cons Pl_agg Pl.strip Pl.dat Pl.argOk Pl.noC Pl.noB Pl.ptrs noC_mkF noB_mkF strip_mkF dat_mkF datL_mkL noL_mkL noLB_mkL ptrs_mkF ptrsL_mkL stripL_mkL PlL.mkL argOk_mkF AS.noC AS.noB allV noC.noL noB.noL ptrs.ptrsL dat.datL argOk.argL strip.stripL relab.relabL
attribute [simp] noC_slno noC_slnl noC_slcl noC_slro noC_un noC_lit noC_ptr noC_bs noC_ep noC_agg noC_tup noC_fn noB_sl noB_un noB_lit noB_ptr noB_bs noB_ep noB_agg noB_tup noB_fn strip_sl strip_agg strip_lit argOk_sl argOk_lit argOk_agg ptrs_agg dat_agg dat_lit dat_sl ptrs_lit ptrs_sl relab_lit relab_un relab_agg relab_tup relab_slcl relab_slno relab_slnl
end Go.Proofs.Ytpopccnnjpdmlaa.Vm
