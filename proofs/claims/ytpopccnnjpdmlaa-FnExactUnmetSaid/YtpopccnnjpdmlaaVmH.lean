/- An abstract machine over values: values that are put together. -/
import Derived.Test.YtpopccnnjpdmlaaVmG
namespace Go.Proofs.Ytpopccnnjpdmlaa.Vm
open Go Go.RowKit
set_option linter.unusedVariables false
set_option linter.unusedSimpArgs false
theorem zipfold (off : Nat) : ∀ (l : List Value) (k : Nat) (cells : Array Value), off + k + l.length ≤ cells.size →
    ((l.zipIdx k).foldl (fun cs p => cs.setIfInBounds (off + p.2) p.1) cells).size = cells.size ∧ ∀ p, ((l.zipIdx k).foldl (fun cs p => cs.setIfInBounds (off + p.2) p.1) cells)[p]? = if off + k ≤ p ∧ p < off + k + l.length then l[p - off - k]? else cells[p]?
  | [], k, cells, _ => ⟨rfl, fun p => by rw [if_neg (fun h => by have := h.2; simp at this; omega)]; rfl⟩
  | v :: l, k, cells, h => by
    simp only [List.length_cons] at h
    obtain ⟨h1, h2⟩ := zipfold off l (k + 1) (cells.setIfInBounds (off + k) v) (by simp; omega)
    simp only [List.zipIdx_cons, List.foldl_cons]
    refine ⟨by rw [h1]; simp, fun p => ?_⟩
    rw [h2]
    simp only [List.length_cons]
    by_cases hp : p = off + k
    · subst hp
      rw [if_neg (by omega), if_pos (by omega), Array.getElem?_setIfInBounds_self_of_lt (by omega), show off + k - off - k = 0 by omega]
      rfl
    · by_cases h3 : off + (k + 1) ≤ p ∧ p < off + (k + 1) + l.length
      · rw [if_pos h3, if_pos (by omega), show p - off - k = (p - off - (k + 1)) + 1 by omega, List.getElem?_cons_succ]
      · rw [if_neg h3, if_neg (by omega), Array.getElem?_setIfInBounds_ne (by omega)]
theorem fill_cons {place : Nat → Option (Nat × Nat)} {cells : Array Value} {i off size : Nat} {v : Value} {rest : List (Nat × Value)} (hp : place i = some (off, size)) (h1 : v.cells.size = size) (h2 : off + v.cells.size ≤ cells.size) :
    ∃ cells', Instr.fill place cells ((i, v) :: rest) = Instr.fill place cells' rest ∧ cells'.size = cells.size ∧ ∀ p, cells'[p]? = if off ≤ p ∧ p < off + v.cells.size then v.cells[p - off]? else cells[p]? := by
  obtain ⟨e1, e2⟩ := zipfold off v.cells.toList 0 cells (by simpa using h2)
  refine ⟨v.cells.zipIdx.foldl (fun cs p => cs.setIfInBounds (off + p.2) p.1) cells, ?_, ?_, ?_⟩
  · conv => lhs; unfold Instr.fill
    simp only [hp]
    rw [if_neg (by simp; omega)]
  · rw [← Array.foldl_toList, Array.toList_zipIdx]
    exact e1
  · intro p
    rw [← Array.foldl_toList, Array.toList_zipIdx, e2 p]
    simp
section
variable {E : Env} {x0 x : X} {w0 w : World} {pb nt : Nat} {a : Act} {s : AS}
theorem fill_sparts (ρ : Operand → Value) (sz : Nat) : ∀ (ps : List (Nat × Operand)) (xs : List Od) (i : Nat) (cells : Array Value), sparts i ps = some xs → (∀ p ∈ ps, (ρ p.2).cells.size = sz) → (i + ps.length) * sz ≤ cells.size →
    ∃ cells', Instr.fill (fun i => some (i * sz, sz)) cells (ps.map fun p => (p.1, ρ p.2)) = some cells' ∧ cells'.size = cells.size ∧ (∀ p, p < i * sz → cells'[p]? = cells[p]?) ∧
      ∀ k v, (ps.map fun p => ρ p.2)[k]? = some v → ∀ j, j < sz → cells'[(i + k) * sz + j]? = v.cells[j]?
  | [], xs, i, cells, h, _, _ => ⟨cells, rfl, rfl, fun _ _ => rfl, fun k v hv => by simp at hv⟩
  | (m, o) :: ps, xs, i, cells, h, hs, hl => by
    simp only [sparts] at h
    split at h
    · rename_i hm
      subst hm
      obtain ⟨y, hy, h⟩ := Option.bind_eq_some_iff.1 h
      obtain ⟨r, hr, h⟩ := Option.bind_eq_some_iff.1 h
      simp only [List.length_cons] at hl
      have hc : (ρ o).cells.size = sz := hs (m, o) (by simp)
      have e1 : (m + (ps.length + 1)) * sz = m * sz + ps.length * sz + sz := by rw [Nat.add_mul, Nat.add_mul]; omega
      obtain ⟨c1, f1, f2, f3⟩ := fill_cons (place := fun i => some (i * sz, sz)) (cells := cells) (i := m) (v := ρ o) (rest := ps.map fun p => (p.1, ρ p.2)) rfl hc (by omega)
      obtain ⟨c2, g1, g2, g3, g4⟩ := fill_sparts ρ sz ps r (m + 1) c1 hr (fun p hp => hs p (by simp [hp])) (by rw [f2, show m + 1 + ps.length = m + (ps.length + 1) by omega]; exact hl)
      have e2 : (m + 1) * sz = m * sz + sz := by rw [Nat.add_mul]; omega
      refine ⟨c2, by rw [List.map_cons, f1]; exact g1, g2.trans f2, fun p hp => ?_, fun k v hv j hj => ?_⟩
      · rw [g3 p (by omega), f3, if_neg (by omega)]
      · cases k with
        | zero =>
          obtain rfl : ρ o = v := by simpa using hv
          rw [Nat.add_zero, g3 _ (by omega), f3, if_pos (by omega), show m * sz + j - m * sz = j by omega]
        | succ k =>
          have := g4 k v (by simpa using hv) j hj
          rwa [show m + 1 + k = m + (k + 1) by omega] at this
    · cases h
theorem run_buildSlice {P : Program} {t e sz n : Nat} {ps : Array (Nat × Operand)} {xs : List Od} {z : Value} (h : P.underlying t = some (.slice e)) (hz : szOf P e = some sz) (hzero : zeroOf P e = some z) (hp : sparts 0 ps.toList = some xs) (hn : ps.size = n) (ρ : Operand → Value) (hs : ∀ p ∈ ps.toList, (ρ p.2).cells.size = sz) (h24 : n * sz ≤ 16777216) (w : World) :
    ∃ cells, (Instr.buildSlice t n (ps.map fun p => (p.1, ρ p.2))).run P w = .ok (.slice (some ⟨w.heap.size, 0, none⟩) n n) (w.alloc (.cells cells e)) ∧ cells.size = n * sz ∧ ∀ k v, (ps.toList.map fun p => ρ p.2)[k]? = some v → ∀ j, j < sz → cells[k * sz + j]? = v.cells[j]? := by
  unfold zeroOf at hzero
  obtain ⟨i, hi, hiz⟩ := Option.bind_eq_some_iff.1 hzero
  by_cases h0 : n * sz = 0
  · obtain ⟨cells, f1, f2, f3, f4⟩ := fill_sparts ρ sz ps.toList xs 0 ((Array.range (n * sz)).map ((#[] : Array Value)[· % (#[] : Array Value).size]!)) hp hs (by simp [hn])
    refine ⟨cells, ?_, by rw [f2]; simp, fun k v hv j hj => by have := f4 k v hv j hj; rwa [Nat.zero_add] at this⟩
    unfold Instr.buildSlice
    simp only [Sem.run_bind, run_underlying h, Result.andThen_ok, run_szOf hz, if_neg (show ¬ n * sz > 2 ^ 24 by omega), Sem.run_pure, h0, if_true, Array.toList_map]
    rw [h0] at f1
    rw [if_neg (by decide)]
    simp only [Sem.run_bind, Sem.run_pure, Result.andThen_ok, f1, newRow, run_newObj]
    rfl
  · obtain ⟨cells, f1, f2, f3, f4⟩ := fill_sparts ρ sz ps.toList xs 0 ((Array.range (n * sz)).map (z.cells[· % z.cells.size]!)) hp hs (by simp [hn])
    refine ⟨cells, ?_, by rw [f2]; simp, fun k v hv j hj => by have := f4 k v hv j hj; rwa [Nat.zero_add] at this⟩
    have hzv : (zeroValue e).run P w = .ok z w := by simp [zeroValue, typeInfo, hi, hiz]
    unfold Instr.buildSlice
    simp only [Sem.run_bind, run_underlying h, Result.andThen_ok, run_szOf hz, if_neg (show ¬ n * sz > 2 ^ 24 by omega), Sem.run_pure, h0, if_false, hzv, Array.toList_map]
    simp only [f1, newRow, Sem.run_bind, run_newObj, Result.andThen_ok, Sem.run_pure]
    rfl
theorem sparts_spec (h : ∀ t, Rel x w0.heap.size (a.tmps.getD t undef) (s.get t)) : ∀ {ps : List (Nat × Operand)} {xs : List Od} {i : Nat}, sparts i ps = some xs → xs.length = ps.length ∧ ∀ (k : Nat) (v : Value) (c : AV), (ps.map fun p => a.eval p.2)[k]? = some v → (s.vals xs)[k]? = some c → Rel x w0.heap.size v c
  | [], xs, i, hp => by obtain rfl := Option.some.inj hp; simp [AS.vals]
  | (m, o) :: ps, xs, i, hp => by
    simp only [sparts] at hp
    split at hp
    · obtain ⟨y, hy, hp⟩ := Option.bind_eq_some_iff.1 hp
      obtain ⟨r, hr, hp⟩ := Option.bind_eq_some_iff.1 hp
      obtain rfl := Option.some.inj hp
      obtain ⟨i1, i2⟩ := sparts_spec h hr
      refine ⟨by simp [i1], fun k v c hv hc => ?_⟩
      cases k with
      | zero =>
        simp [AS.vals] at hv hc
        subst hv hc
        exact od_rel h hy
      | succ k => exact i2 k v c (by simpa using hv) (by simpa [AS.vals] using hc)
    · cases hp
theorem vals_len (s : AS) : ∀ (xs : List Od), (s.vals xs).length = xs.length
  | [] => rfl
  | x :: xs => by simp [AS.vals, vals_len s xs]
theorem strip_cells (c : AV) : (strip c).cells = strip.stripL c.cells := by
  cases c <;> simp [strip, AV.cells, strip.stripL]
/-- Elements that are data, laid side by side. -/
theorem rep_cells {base : Nat} {v : Value} {c : AV} (r : Rel x base v c) (hd : dat c = true) (hok : c.cells.all okC = true) : ∀ (j : Nat) (d : AV), (strip c).cells[j]? = some d → ∃ u, v.cells[j]? = some u ∧ RepD x.G u d ∧ (frA c = true → RepD (x.G.from base) u d) ∧ u.oneCell' = true := by
  intro j d hj
  obtain ⟨h1, h2, h3⟩ := rel_cells r hok
  rw [strip_cells, stripL_get] at hj
  obtain ⟨e, he, rfl⟩ := Option.map_eq_some_iff.1 hj
  obtain ⟨u, hu, hr, ho⟩ := h2 j e he
  have hoe : okC e = true := List.all_eq_true.1 hok e (List.mem_of_getElem? he)
  have hde : dat e = true ∧ (frA c = true → frA e = true) := by
    cases c with
    | agg cs => exact ⟨datL_get hd he, fun hf => frL_get hf he⟩
    | _ =>
      cases j with
      | zero => have := Option.some.inj he; rw [← this]; exact ⟨hd, id⟩
      | succ j => simp [AV.cells] at he
  obtain ⟨d1, d2, d3⟩ := rel_data hr hoe hde.1
  exact ⟨u, hu, d1, fun hf => d2 (hde.2 hf), ho⟩
end
end Go.Proofs.Ytpopccnnjpdmlaa.Vm
