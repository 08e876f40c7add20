/- An abstract machine over values: every operation does what it is said to do. -/
import Derived.Test.YtpopccnnjpdmlaaVmL
namespace Go.Proofs.Ytpopccnnjpdmlaa.Vm
open Go Go.RowKit
set_option linter.unusedVariables false
set_option linter.unusedSimpArgs false
theorem run_callFunc {P : Program} {f : Nat} (h : fnOk P f = true) (args : Array Value) (w : World) : (callFunc f args).run P w = .ok (.enter f args) w := by
  unfold fnOk at h
  cases hf : P.funcs[f]? with
  | none => rw [hf] at h; cases h
  | some fn =>
    rw [hf] at h
    simp only [Option.map_some, Option.getD_some, Bool.and_eq_true, bne_iff_ne] at h
    have h1 : fn.body.isNone = false := by cases hb : fn.body <;> simp_all
    have h2 : (fn.name == "runtime.NumGoroutine") = false := by simpa using h.2
    have h3 : fn.body ≠ none := by intro e; rw [e] at h; simp at h
    simp [callFunc, hf, h.2, h3]
theorem vals_map (s : AS) (xs : List Od) : s.vals xs = xs.map s.val := by
  induction xs with
  | nil => rfl
  | cons x xs ih => simp [AS.vals, ih]
section
variable {E : Env} {x0 x : X} {w0 w : World} {pb nt : Nat} {a : Act} {s : AS}
theorem cut_spec (h : ∀ t, Rel x w0.heap.size (a.tmps.getD t undef) (s.get t)) {n : Nat} {lo hi : Option Operand} {lo' hi' : Option Od} (hlo : oo lo = some lo') (hhi : oo hi = some hi') {l hh : Nat} (hc : cutB s n lo' hi' = some (l, hh)) (isS : Bool) (cap : Nat) (hcap : n ≤ cap) (w1 : World) :
    l ≤ hh ∧ hh ≤ n ∧ (Instr.sliceBounds isS n cap (lo.map a.eval) (hi.map a.eval) none).run E.P w1 = .ok (l, hh, cap) w1 := by
  have one : ∀ {y : Operand} {y' : Od} {k : IntKind} {i : Int}, od y = some y' → s.val y' = .lit (.int k i) → a.eval y = .int k i := by
    intro y y' k i hy hv
    have r := od_rel (w0 := w0) h hy
    rw [hv] at r
    exact r.lit_inv
  unfold cutB at hc
  cases hi with
  | none =>
    obtain rfl := Option.some.inj hhi
    simp only at hc
    cases lo with
    | none =>
      obtain rfl := Option.some.inj hlo
      simp only [Option.some.injEq, Prod.mk.injEq] at hc
      obtain ⟨rfl, rfl⟩ := hc
      exact ⟨Nat.zero_le _, Nat.le_refl _, by simp [Instr.sliceBounds]⟩
    | some y =>
      obtain ⟨y', hy, e⟩ := Option.bind_eq_some_iff.1 hlo
      obtain rfl := Option.some.inj e
      simp only at hc
      split at hc
      · rename_i k i hv
        split at hc
        · rename_i hb
          simp only [Option.some.injEq, Prod.mk.injEq] at hc
          obtain ⟨rfl, rfl⟩ := hc
          have e1 := one hy hv
          exact ⟨by omega, Nat.le_refl _, by simp [Instr.sliceBounds, e1, Instr.sliceBound, asIntOf, hb]⟩
        · cases hc
      · cases hc
  | some z =>
    obtain ⟨z', hz, e⟩ := Option.bind_eq_some_iff.1 hhi
    obtain rfl := Option.some.inj e
    simp only at hc
    split at hc
    · cases hc
    · rename_i h0 hv0
      split at hv0
      · rename_i k i hv
        split at hv0
        · rename_i hb
          obtain rfl := Option.some.inj hv0
          have e1 := one hz hv
          have hb2 : 0 ≤ i ∧ i ≤ cap := ⟨hb.1, by omega⟩
          cases lo with
          | none =>
            obtain rfl := Option.some.inj hlo
            simp only [Option.some.injEq, Prod.mk.injEq] at hc
            obtain ⟨rfl, rfl⟩ := hc
            exact ⟨Nat.zero_le _, by omega, by simp [Instr.sliceBounds, e1, Instr.sliceBound, asIntOf, hb2]⟩
          | some y =>
            obtain ⟨y', hy, e⟩ := Option.bind_eq_some_iff.1 hlo
            obtain rfl := Option.some.inj e
            simp only at hc
            split at hc
            · rename_i k' i' hv'
              split at hc
              · rename_i hb'
                simp only [Option.some.injEq, Prod.mk.injEq] at hc
                obtain ⟨rfl, rfl⟩ := hc
                have e2 := one hy hv'
                have hb3 : 0 ≤ i' ∧ i' ≤ ((i.toNat : Nat) : Int) := hb'
                exact ⟨by omega, by omega, by
                  have hb4 : ¬ (max i 0 < i') := by omega
                  simp [Instr.sliceBounds, e1, e2, Instr.sliceBound, asIntOf, hb2, hb3, hb4]⟩
              · cases hc
            · cases hc
        · cases hv0
      · cases hv0
theorem bparts_spec (h : ∀ t, Rel x w0.heap.size (a.tmps.getD t undef) (s.get t)) (pl : List (Nat × Nat)) : ∀ {ps : List (Nat × Operand)} {xs : List (Nat × Nat × Od)} {vs : Array Value} {z cs : List AV}, bparts pl ps = some xs → Vm.fill z (pvals s xs) = some cs → vs.size = z.length → (∀ (j : Nat) (v : Value) (c : AV), vs[j]? = some v → z[j]? = some c → Rel x w0.heap.size v c) → (∀ p ∈ pvals s xs, p.2.2.cells.all okC = true) →
    ∃ vs', Instr.fill (fun i => pl[i]?) vs (ps.map fun p => (p.1, a.eval p.2)) = some vs' ∧ vs'.size = cs.length ∧ ∀ (j : Nat) (v : Value) (c : AV), vs'[j]? = some v → cs[j]? = some c → Rel x w0.heap.size v c
  | [], xs, vs, z, cs, hp, hf, hs, hr, _ => by
    obtain rfl := Option.some.inj hp
    obtain rfl := Option.some.inj hf
    exact ⟨vs, rfl, hs, hr⟩
  | (i, y) :: ps, xs, vs, z, cs, hp, hf, hs, hr, hok => by
    simp only [bparts] at hp
    obtain ⟨p, hpl, hp⟩ := Option.bind_eq_some_iff.1 hp
    obtain ⟨y', hy, hp⟩ := Option.bind_eq_some_iff.1 hp
    obtain ⟨r, hrr, hp⟩ := Option.bind_eq_some_iff.1 hp
    obtain rfl := Option.some.inj hp
    simp only [pvals, Vm.fill] at hf
    split at hf
    · rename_i hc
      obtain ⟨q1, q2, q3⟩ := rel_cells (od_rel h hy) (hok (p.1, p.2, s.val y') (by simp [pvals]))
      obtain ⟨off, sz⟩ := p
      simp only at hc
      obtain ⟨c1, f1, f2, f3⟩ := fill_cons (place := fun i => pl[i]?) (cells := vs) (i := i) (v := a.eval y) (rest := ps.map fun p => (p.1, a.eval p.2)) hpl (by rw [q1]; exact hc.1) (by rw [q1, hs]; omega)
      have hfit : off + (s.val y').cells.length ≤ z.length := by omega
      have hr' : ∀ (j : Nat) (v : Value) (c : AV), c1[j]? = some v → (upd z off (s.val y').cells)[j]? = some c → Rel x w0.heap.size v c := by
        intro j v c hv hcc
        rw [f3] at hv
        rw [upd_get _ _ _ hfit] at hcc
        rw [q1] at hv
        by_cases hj : off ≤ j ∧ j < off + (s.val y').cells.length
        · rw [if_pos hj] at hv hcc
          obtain ⟨u, hu, hru, _⟩ := q2 _ c hcc
          rw [hv] at hu
          obtain rfl := Option.some.inj hu
          exact hru
        · rw [if_neg hj] at hv hcc
          exact hr j v c hv hcc
      obtain ⟨vs', g1, g2, g3⟩ := bparts_spec h pl (vs := c1) hrr hf (by rw [f2, hs, upd_len _ _ _ hfit]) hr' (fun p hp => hok p (by simp [pvals, hp]))
      exact ⟨vs', by rw [List.map_cons, f1]; exact g1, g2, g3⟩
    · cases hf
theorem run_places {P : Program} : ∀ {fs : List Field} {pl : List (Nat × Nat)} (w : World), places P fs = some pl → (fs.mapM fun (f : Field) => (do pure (f.offset, ← sizeOf f.type) : Sem (Nat × Nat))).run P w = .ok pl w
  | [], pl, w, h => by obtain rfl := Option.some.inj h; rfl
  | f :: fs, pl, w, h => by
    simp only [places] at h
    obtain ⟨z, hz, h⟩ := Option.bind_eq_some_iff.1 h
    obtain ⟨r, hr, h⟩ := Option.bind_eq_some_iff.1 h
    obtain rfl := Option.some.inj h
    simp only [List.mapM_cons, Sem.run_bind, run_szOf hz, Result.andThen_ok, Sem.run_pure, run_places w hr]
theorem run_build {P : Program} {t : Nat} {fs : Array Field} {pl : List (Nat × Nat)} {z : Value} {ps : Array (Nat × Operand)} (ρ : Operand → Value) {vs' : Array Value} (hu : P.underlying t = some (.struct fs)) (hz : zeroOf P t = some z) (hp : places P fs.toList = some pl) (hf : Instr.fill (fun i => pl[i]?) z.cells (ps.toList.map fun p => (p.1, ρ p.2)) = some vs') (w : World) :
    (Instr.build t (ps.map fun p => (p.1, ρ p.2))).run P w = .ok (.agg vs') w := by
  unfold zeroOf at hz
  obtain ⟨i, hi, hiz⟩ := Option.bind_eq_some_iff.1 hz
  have hzv : (zeroValue t).run P w = .ok z w := by simp [zeroValue, typeInfo, hi, hiz]
  have hm : (fs.mapM fun (f : Field) => (do pure (f.offset, ← sizeOf f.type) : Sem (Nat × Nat))).run P w = .ok pl.toArray w := by
    rw [Array.mapM_eq_mapM_toList, Sem.run_map, run_places w hp]
    rfl
  unfold Instr.build
  simp only [Sem.run_bind, hzv, Result.andThen_ok, run_underlying hu, hm, Array.toList_map, List.getElem?_toArray]
  rw [hf]
  rfl
end
end Go.Proofs.Ytpopccnnjpdmlaa.Vm
