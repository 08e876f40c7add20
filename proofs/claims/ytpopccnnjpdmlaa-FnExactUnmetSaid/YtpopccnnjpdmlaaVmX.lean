/- An abstract machine over values: how a proof goes through a function. -/
import Derived.Test.YtpopccnnjpdmlaaVmW
namespace Go.Proofs.Ytpopccnnjpdmlaa.Vm
open Go Go.RowKit
set_option linter.unusedVariables false
set_option linter.unusedSimpArgs false
/-- From a function's code to its contract: the way all functions go. -/
theorem Fx.of {E : Env} {f : Nat} {fn : Func} {c : Code} {vc : VC} {rs : List VR} {dr : Nat → List Nat} (hf : E.P.funcs[f]? = some fn) (hb : fn.body = some c) (hc : cCode E.P fn.ntmps chkR dr c = some vc) (hr : cRes E.P fn.results.toList = some rs)
    (ks : List Nat) {bx bx' : List (List AV)} {args : List AV} {r : AV} (hlen : args.length ≤ fn.ntmps) (hpb : bx.length ≤ 1000) (hks : dd ks = ks) (hres : resOk r = true ∧ bx'.all resOk.resL = true ∧ bx'.length = bx.length)
    (hv : vx E vc ⟨enum 0 args, enum 0 bx⟩ fun e s => (e = .normal ∨ e = .ret) ∧ ∃ s1, Wk s1 s ∧ ∃ l, resVs s1 rs = some l ∧ r = reC ks (oneOr l) ∧ ∃ bs, bxsOf s1 (List.range bx.length) = some bs ∧ bx' = bs.map (reC.reL ks)) : Fx E f bx args bx' r :=
  Fx_of hf hb hc hr (fun _ _ _ hK id ops os Q x a w s => draw_sound hK id ops os Q x a w s) ks (fun x a w _ _ h => ⟨x, h⟩) hlen hpb hks hres hv
/-- A function without boxes. -/
theorem Fx.of0 {E : Env} {f : Nat} {fn : Func} {c : Code} {vc : VC} {rs : List VR} {dr : Nat → List Nat} (hf : E.P.funcs[f]? = some fn) (hb : fn.body = some c) (hc : cCode E.P fn.ntmps chkR dr c = some vc) (hr : cRes E.P fn.results.toList = some rs)
    {args : List AV} {r : AV} (hlen : args.length ≤ fn.ntmps) (ks : List Nat) (hks : dd ks = ks) (hres : resOk r = true)
    (hv : vx E vc ⟨enum 0 args, []⟩ fun e s => (e = .normal ∨ e = .ret) ∧ ∃ s1, Wk s1 s ∧ ∃ l, resVs s1 rs = some l ∧ r = reC ks (oneOr l)) : Fx E f [] args [] r := by
  refine Fx.of hf hb hc hr ks hlen (by simp) hks ⟨hres, rfl, rfl⟩ ?_
  have mono : ∀ (vc : VC) (s : AS) (Q Q' : Ex → AS → Prop), vx E vc s Q → (∀ e s, Q e s → Q' e s) → vx E vc s Q' := by
    intro vc
    induction vc with
    | skip => exact fun s Q Q' h hm => hm _ _ h
    | ret => exact fun s Q Q' h hm => hm _ _ h
    | exit n => exact fun s Q Q' h hm => hm _ _ h
    | seq a b iha ihb =>
      refine fun s Q Q' h hm => iha s _ _ h fun e s' h' => ?_
      cases e with
      | normal => exact ihb _ _ _ h' hm
      | ret => exact hm _ _ h'
      | exit n => exact hm _ _ h'
    | cond c a b iha ihb =>
      rintro s Q Q' ⟨t, h1, h2⟩ hm
      refine ⟨t, h1, ?_⟩
      cases t with
      | true => exact iha _ _ _ h2 hm
      | false => exact ihb _ _ _ h2 hm
    | block n c ih =>
      refine fun s Q Q' h hm => ih s _ _ h fun e s' h' => ?_
      split at h'
      · rename_i e'; rw [if_pos e']; exact hm _ _ h'
      · rename_i e'; rw [if_neg e']; exact hm _ _ h'
    | loop c ih =>
      rintro s Q Q' ⟨n, h⟩ hm
      refine ⟨n, ?_⟩
      induction n generalizing s with
      | zero => exact h
      | succ n ihn =>
        obtain ⟨s1, h1, h2⟩ := h
        refine ⟨s1, h1, ih _ _ _ h2 fun e s' h' => ?_⟩
        cases e with
        | normal => exact ihn s' h'
        | ret => exact hm _ _ h'
        | exit n => exact hm _ _ h'
    | reg drw os dr =>
      rintro s Q Q' ⟨h1, h2⟩ hm
      refine ⟨h1, ?_⟩
      have : ∀ (os : List VO) (s : AS) (R R' : AS → Prop), vops E os s R → (∀ s, R s → R' s) → vops E os s R' := by
        intro os
        induction os with
        | nil => exact fun s R R' h hm => hm _ h
        | cons o os ih => exact fun s R R' h hm => vop_mono h fun s' h' _ => ih _ _ _ h' hm
      exact this _ _ _ _ h2 fun s h => hm _ _ h
  refine mono vc _ _ _ hv ?_
  rintro e s ⟨he, s1, hw, l, h1, h2⟩
  exact ⟨he, s1, hw, l, h1, h2, [], rfl, rfl⟩
theorem vx_mono {E : Env} : ∀ (vc : VC) (s : AS) (Q Q' : Ex → AS → Prop), vx E vc s Q → (∀ e s, Q e s → Q' e s) → vx E vc s Q' := by
  intro vc
  induction vc with
  | skip => exact fun s Q Q' h hm => hm _ _ h
  | ret => exact fun s Q Q' h hm => hm _ _ h
  | exit n => exact fun s Q Q' h hm => hm _ _ h
  | seq a b iha ihb =>
    refine fun s Q Q' h hm => iha s _ _ h fun e s' h' => ?_
    cases e with
    | normal => exact ihb _ _ _ h' hm
    | ret => exact hm _ _ h'
    | exit n => exact hm _ _ h'
  | cond c a b iha ihb =>
    rintro s Q Q' ⟨t, h1, h2⟩ hm
    refine ⟨t, h1, ?_⟩
    cases t with
    | true => exact iha _ _ _ h2 hm
    | false => exact ihb _ _ _ h2 hm
  | block n c ih =>
    refine fun s Q Q' h hm => ih s _ _ h fun e s' h' => ?_
    split at h'
    · rename_i e'; rw [if_pos e']; exact hm _ _ h'
    · rename_i e'; rw [if_neg e']; exact hm _ _ h'
  | loop c ih =>
    rintro s Q Q' ⟨n, h⟩ hm
    refine ⟨n, ?_⟩
    induction n generalizing s with
    | zero => exact h
    | succ n ihn =>
      obtain ⟨s1, h1, h2⟩ := h
      refine ⟨s1, h1, ih _ _ _ h2 fun e s' h' => ?_⟩
      cases e with
      | normal => exact ihn s' h'
      | ret => exact hm _ _ h'
      | exit n => exact hm _ _ h'
  | reg drw os dr =>
    rintro s Q Q' ⟨h1, h2⟩ hm
    refine ⟨h1, ?_⟩
    have : ∀ (os : List VO) (s : AS) (R R' : AS → Prop), vops E os s R → (∀ s, R s → R' s) → vops E os s R' := by
      intro os
      induction os with
      | nil => exact fun s R R' h hm => hm _ h
      | cons o os ih => exact fun s R R' h hm => vop_mono h fun s' h' _ => ih _ _ _ h' hm
    exact this _ _ _ _ h2 fun s h => hm _ _ h
/-- A loop by its states: 'st' tells the state of a round, 'm' shrinks. -/
theorem vx_loop {E : Env} {c : VC} {Q : Ex → AS → Prop} {τ : Type} (st : τ → AS) (I : τ → Prop) (m : τ → Nat) (step : ∀ i, I i → vx E c (st i) fun e s' => match e with | .normal => ∃ j, I j ∧ m j < m i ∧ Wk (st j) s' | e => Q e s') {s : AS} (i : τ) (hi : I i) (hw : Wk (st i) s) : vx E (.loop c) s Q := by
  have all : ∀ n i s, I i → m i < n → Wk (st i) s → iter (vx E c) Q n s := by
    intro n
    induction n with
    | zero => intro i s _ h; omega
    | succ n ih =>
      intro i s hi hn hw
      refine ⟨st i, hw, vx_mono c _ _ _ (step i hi) fun e s' h => ?_⟩
      cases e with
      | normal =>
        obtain ⟨j, hj, hm, hw⟩ := h
        exact ih j s' hj (by omega) hw
      | ret => exact h
      | exit n => exact h
  exact ⟨m i + 1, all _ i s hi (by omega) hw⟩
/-- A state told anew, place for place. -/
def wkL (s : AS) : List (Nat × AV) → Prop
  | [] => True
  | (t, v) :: l => wkV v (s.get t) ∧ wkL s l
theorem Wk.envL {s : AS} {l : List (Nat × AV)} (h : wkL s l) : Wk ⟨l, s.bxs⟩ s := by
  refine .env s l ?_
  induction l with
  | nil => intro t v hl; cases hl
  | cons p l ih =>
    obtain ⟨u, y⟩ := p
    intro t v hl
    simp only [look] at hl
    split at hl
    · rename_i e
      subst e
      obtain rfl := Option.some.inj hl
      exact h.1
    · exact ih h.2 t v hl
def wkB (s : AS) : List (Nat × List AV) → Prop
  | [] => True
  | (t, v) :: l => look s.bxs t = some v ∧ wkB s l
theorem Wk.bxsL {s : AS} {l : List (Nat × List AV)} (h : wkB s l) : Wk ⟨s.env, l⟩ s := by
  refine .bxs s l ?_
  induction l with
  | nil => intro t v hl; cases hl
  | cons p l ih =>
    obtain ⟨u, y⟩ := p
    intro t v hl
    simp only [look] at hl
    split at hl
    · rename_i e
      subst e
      obtain rfl := Option.some.inj hl
      exact h.1
    · exact ih h.2 t v hl
theorem Wk.both {s : AS} {l : List (Nat × AV)} {b : List (Nat × List AV)} (h : wkL s l) (hb : wkB s b) : Wk ⟨l, b⟩ s := .trans (b := ⟨l, s.bxs⟩) (.bxsL (s := ⟨l, s.bxs⟩) (l := b) (by
  induction b with
  | nil => trivial
  | cons p b ih => exact ⟨hb.1, ih hb.2⟩)) (.envL h)
theorem wkV.same (v : AV) : wkV v v := .inl rfl
theorem wkV.un (v : AV) : wkV .un v := .inr (.inl rfl)
end Go.Proofs.Ytpopccnnjpdmlaa.Vm
