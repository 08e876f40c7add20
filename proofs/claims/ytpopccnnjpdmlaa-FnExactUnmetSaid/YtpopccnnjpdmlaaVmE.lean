/- An abstract machine over values: operations that read and write memory. -/
import Derived.Test.YtpopccnnjpdmlaaVmD
namespace Go.Proofs.Ytpopccnnjpdmlaa.Vm
open Go Go.RowKit
set_option linter.unusedVariables false
set_option linter.unusedSimpArgs false
theorem mkL_get (b : Bool) : ∀ (cs : List AV) (j : Nat), (mkF.mkL b cs)[j]? = (cs[j]?).map (mkF b)
  | [], j => by simp [mkF.mkL]
  | c :: cs, 0 => by simp [mkF.mkL]
  | c :: cs, j + 1 => by simp [mkF.mkL, mkL_get b cs j]
theorem mkL_len (b : Bool) : ∀ (cs : List AV), (mkF.mkL b cs).length = cs.length
  | [] => rfl
  | c :: cs => by simp [mkF.mkL, mkL_len b cs]
theorem stripL_get : ∀ (cs : List AV) (j : Nat), (strip.stripL cs)[j]? = (cs[j]?).map strip
  | [], j => by simp [strip.stripL]
  | c :: cs, 0 => by simp [strip.stripL]
  | c :: cs, j + 1 => by simp [strip.stripL, stripL_get cs j]
theorem stripL_len : ∀ (cs : List AV), (strip.stripL cs).length = cs.length
  | [] => rfl
  | c :: cs => by simp [strip.stripL, stripL_len cs]
theorem datL_get : ∀ {cs : List AV} {j : Nat} {c : AV}, dat.datL cs = true → cs[j]? = some c → dat c = true
  | [], _, _, _, h => by simp at h
  | y :: cs, 0, c, h, hc => by
    obtain rfl : y = c := by simpa using hc
    simp [dat.datL] at h; exact h.1
  | y :: cs, j + 1, c, h, hc => by
    simp [dat.datL] at h
    exact datL_get h.2 (by simpa using hc)
theorem frL_get : ∀ {cs : List AV} {j : Nat} {c : AV}, frA.frL cs = true → cs[j]? = some c → frA c = true
  | [], _, _, _, h => by simp at h
  | y :: cs, 0, c, h, hc => by
    obtain rfl : y = c := by simpa using hc
    simp [frA.frL] at h; exact h.1
  | y :: cs, j + 1, c, h, hc => by
    simp [frA.frL] at h
    exact frL_get h.2 (by simpa using hc)
theorem noBL_all {n : Nat} : ∀ {cs : List AV} {j : Nat} {c : AV}, noB.noL n cs = true → cs[j]? = some c → noB n c = true
  | [], _, _, _, h => by simp at h
  | y :: cs, 0, c, h, hc => by
    obtain rfl : y = c := by simpa using hc
    simp [noB.noL] at h; exact h.1
  | y :: cs, j + 1, c, h, hc => by
    simp [noB.noL] at h
    exact noBL_all h.2 (by simpa using hc)
theorem noCL_all {n : Nat} : ∀ {cs : List AV} {j : Nat} {c : AV}, noC.noL n cs = true → cs[j]? = some c → noC n c = true
  | [], _, _, _, h => by simp at h
  | y :: cs, 0, c, h, hc => by
    obtain rfl : y = c := by simpa using hc
    simp [noC.noL] at h; exact h.1
  | y :: cs, j + 1, c, h, hc => by
    simp [noC.noL] at h
    exact noCL_all h.2 (by simpa using hc)
theorem allV_get {α : Type} {p : α → Bool} {t : Nat} {v : α} : ∀ {l : List (Nat × α)}, allV p l = true → look l t = some v → p v = true
  | [], _, h => by cases h
  | (u, y) :: l, h, hl => by
    simp [allV] at h
    simp only [look] at hl
    split at hl
    · obtain rfl := Option.some.inj hl; exact h.1
    · exact allV_get h.2 hl
theorem from_le (base : Nat) (G : Gh) : (G.from base).le G := by
  intro b o v h
  unfold Gh.from at h
  split at h
  · exact h
  · cases h
theorem from_mono {base : Nat} {G G' : Gh} (h : G.le G') : (G.from base).le (G'.from base) := by
  intro b o v
  unfold Gh.from
  split
  · exact h b o v
  · intro h; cases h
theorem rel_mkF {x : X} {base : Nat} {v : Value} {c : AV} {fr : Bool} (h : RepD x.G v c) (h2 : fr = true → RepD (x.G.from base) v c) : Rel x base v (mkF fr c) := by
  cases h with
  | un v => exact .un v
  | lit v h => exact .lit v h
  | sl A n cap m sz xs b o f h1 h3 h4 h5 h6 h7 =>
    exact .sl _ _ _ _ (.sl A n cap _ sz xs b o f h1 h3 h4 h5 h6 h7) (fun hf => (h2 hf).mark) trivial
/-- Of a value that is data: what it says without marks. -/
theorem rel_data {x : X} {base : Nat} {v : Value} {c : AV} (r : Rel x base v c) (hc : okC c = true) (hd : dat c = true) : RepD x.G v (strip c) ∧ (frA c = true → RepD (x.G.from base) v (strip c)) ∧ v.oneCell' = true := by
  cases r with
  | un v => cases hc
  | lit v h => exact ⟨.lit v h, fun _ => .lit v h, h⟩
  | sl v m sz xs h1 h2 h3 => exact ⟨h1.mark, fun hf => (h2 hf).mark, by cases h1; rfl⟩
  | agg => cases hc
  | tup => cases hc
  | ptr => cases hd
  | ep => cases hd
  | fn => cases hd
  | bs => cases hd
  | hs => cases hd
  | hp => cases hd
theorem rel_one {x : X} {base : Nat} {v : Value} {c : AV} (r : Rel x base v c) (hc : okC c = true) : v.oneCell' = true := by
  cases r with
  | un v => cases hc
  | lit v h => exact h
  | sl v m sz xs h1 h2 h3 => cases h1; rfl
  | agg => cases hc
  | tup => cases hc
  | ptr => rfl
  | ep => rfl
  | fn => rfl
  | bs => rfl
  | hs v sz xs h => cases h; rfl
  | hp => rfl
theorem one_cells {v : Value} (h : v.oneCell' = true) : v.cells = #[v] := by
  cases v <;> first | rfl | cases h
theorem rel_cells {x : X} {base : Nat} {v : Value} {a : AV} (r : Rel x base v a) (h : a.cells.all okC = true) : v.cells.size = a.cells.length ∧ (∀ (j : Nat) (c : AV), a.cells[j]? = some c → ∃ u, v.cells[j]? = some u ∧ Rel x base u c ∧ u.oneCell' = true) ∧ ∀ u ∈ v.cells.toList, u.oneCell' = true := by
  have single : ∀ (hc : okC a = true), a.cells = [a] → v.cells.size = a.cells.length ∧ (∀ (j : Nat) (c : AV), a.cells[j]? = some c → ∃ u, v.cells[j]? = some u ∧ Rel x base u c ∧ u.oneCell' = true) ∧ ∀ u ∈ v.cells.toList, u.oneCell' = true := by
    intro hc e
    have h1 := rel_one r hc
    rw [one_cells h1, e]
    refine ⟨rfl, fun j c hj => ?_, fun u hu => by simp at hu; rw [hu]; exact h1⟩
    cases j with
    | zero =>
      obtain rfl : a = c := by simpa using hj
      exact ⟨v, rfl, r, h1⟩
    | succ j => simp at hj
  cases r with
  | agg vs cs hs hr =>
    refine ⟨hs, fun j c hj => ?_, fun u hu => ?_⟩
    · have hlt : j < vs.size := by rw [hs]; exact (List.getElem?_eq_some_iff.1 hj).1
      have hok : okC c = true := by
        have := List.all_eq_true.1 h c (List.mem_of_getElem? hj)
        exact this
      have hr' := hr j _ c (Array.getElem?_eq_getElem hlt) hj
      exact ⟨vs[j], by simp [Value.cells, hlt], hr', rel_one hr' hok⟩
    · obtain ⟨j, hj, rfl⟩ := List.getElem_of_mem hu
      have hlt : j < cs.length := by rw [← hs]; simpa [Value.cells] using hj
      have hok : okC cs[j] = true := List.all_eq_true.1 h _ (List.getElem_mem hlt)
      have hv : vs[j]? = some (vs[j]'(by rw [hs]; exact hlt)) := Array.getElem?_eq_getElem _
      exact rel_one (hr j _ cs[j] hv (List.getElem?_eq_getElem hlt)) hok
  | un v => simp [AV.cells, okC] at h
  | tup => simp [AV.cells, okC] at h
  | lit v hv => exact single rfl rfl
  | sl => exact single rfl rfl
  | ptr => exact single rfl rfl
  | ep => exact single rfl rfl
  | fn => exact single rfl rfl
  | bs => exact single rfl rfl
  | hs => exact single rfl rfl
  | hp => exact single rfl rfl
/-! the world -/
theorem agree_cell {G : Gh} {w : World} (h : Agree G w) {b o : Nat} {v : Value} (hg : G b o = some v) : w.cell? ⟨b, o, none⟩ = some v := by
  obtain ⟨c, ty, fz, h1, h2⟩ := h b o v hg
  simp [World.cell?, h1, h2]
theorem agree_lt {G : Gh} {w : World} (h : Agree G w) {b o : Nat} {v : Value} (hg : G b o = some v) : b < w.heap.size := by
  obtain ⟨c, ty, fz, h1, _⟩ := h b o v hg
  exact (Array.getElem?_eq_some_iff.1 h1).1
theorem alloc_old {w : World} {o : Obj} {k : Nat} (h : k < w.heap.size) : (w.alloc o).heap[k]? = w.heap[k]? := Below.heap_alloc w o k h
theorem alloc_new {w : World} {o : Obj} : (w.alloc o).heap[w.heap.size]? = some o := by show (w.heap.push o)[w.heap.size]? = _; simp
section
variable {P : Program}
theorem run_load_ag {t n : Nat} (ha : agOf P t = some true) (hz : szOf P t = some n) (b o : Nat) (f : Nat → Value) (w : World) (h : ∀ j, j < n → w.cell? ⟨b, o + j, none⟩ = some (f j)) : (Instr.loadAt t (.pointer (some ⟨b, o, none⟩))).run P w = .ok (.agg ((List.range n).map f).toArray) w := by
  have hl := run_loadCells (P := P) w ⟨b, o, none⟩ n f (fun j hj => by rw [add0]; exact h j hj)
  simp [Instr.loadAt, Instr.sureAddr, loadVar, run_agOf ha, run_szOf hz, hl]
theorem run_load_one {t : Nat} (ha : agOf P t = some false) (b o : Nat) (v : Value) (w : World) (h : w.cell? ⟨b, o, none⟩ = some v) : (Instr.loadAt t (.pointer (some ⟨b, o, none⟩))).run P w = .ok v w := by
  simp [Instr.loadAt, Instr.sureAddr, loadVar, run_agOf ha, h]
/-- a stretch of a block written -/
theorem setCells_spec (b : Nat) : ∀ (vs : List Value) (o : Nat) (w : World) (vals : Array Value) (ty : Nat) (fz : Nat × Nat), w.heap[b]? = some (.cells vals ty fz) → o + vs.length ≤ vals.size →
    ∃ vals', (w.setCells b o vs).heap[b]? = some (.cells vals' ty fz) ∧ vals'.size = vals.size ∧ (∀ j, vals'[j]? = if o ≤ j ∧ j < o + vs.length then vs[j - o]? else vals[j]?) ∧
      (∀ k, k ≠ b → (w.setCells b o vs).heap[k]? = w.heap[k]?) ∧ (w.setCells b o vs).heap.size = w.heap.size ∧ (w.setCells b o vs).os = w.os ∧ (w.setCells b o vs).tape = w.tape ∧ (w.setCells b o vs).output = w.output
  | [], o, w, vals, ty, fz, h, _ => ⟨vals, h, rfl, fun j => by rw [if_neg (fun hh => by have := hh.2; simp at this; omega)], fun _ _ => rfl, rfl, rfl, rfl, rfl⟩
  | v :: r, o, w, vals, ty, fz, h, hl => by
    simp only [List.length_cons] at hl
    have h1 : (w.setCell ⟨b, o, none⟩ v).heap[b]? = some (.cells (vals.setIfInBounds o v) ty fz) := by simp [World.setCell, Array.getElem?_modify, h]
    obtain ⟨vals', e1, e2, e3, e4, e5, e6, e7, e8⟩ := setCells_spec b r (o + 1) (w.setCell ⟨b, o, none⟩ v) _ ty fz h1 (by simp; omega)
    refine ⟨vals', e1, by rw [e2]; simp, fun j => ?_, fun k hk => ?_, by rw [World.setCells, e5]; simp, by rw [World.setCells, e6]; rfl, by rw [World.setCells, e7]; rfl, by rw [World.setCells, e8]; rfl⟩
    · rw [e3]
      simp only [List.length_cons]
      by_cases hj : j = o
      · subst hj
        rw [if_neg (by omega), if_pos (by omega), Nat.sub_self, Array.getElem?_setIfInBounds_self_of_lt (by omega)]
        rfl
      · by_cases h2 : o + 1 ≤ j ∧ j < o + 1 + r.length
        · rw [if_pos h2, if_pos (by omega), show j - o = (j - (o + 1)) + 1 by omega, List.getElem?_cons_succ]
        · rw [if_neg h2, if_neg (by omega), Array.getElem?_setIfInBounds_ne (by omega)]
    · rw [World.setCells, e4 k hk]
      simp only [World.setCell, Array.getElem?_modify]
      rw [if_neg (fun e => hk e.symm)]
theorem cell_block {w : World} {b o : Nat} {vals : Array Value} {ty : Nat} {fz : Nat × Nat} (h : w.heap[b]? = some (.cells vals ty fz)) : w.cell? ⟨b, o, none⟩ = vals[o]? := by simp [World.cell?, h]
theorem frozen_block {w : World} {b o : Nat} {vals : Array Value} {ty : Nat} (h : w.heap[b]? = some (.cells vals ty (0, 0))) : w.frozen? ⟨b, o, none⟩ = false := by simp [World.frozen?, h]
theorem run_storeAt {t n : Nat} (hz : szOf P t = some n) (b o : Nat) (v : Value) (w : World) (vals : Array Value) (ty : Nat) (h : w.heap[b]? = some (.cells vals ty (0, 0))) (hn : v.cells.size = n) (hl : o + n ≤ vals.size) (h1 : ∀ u ∈ v.cells.toList, u.oneCell' = true) :
    (Instr.storeAt t (.pointer (some ⟨b, o, none⟩)) v).run P w = .ok () (w.setCells b o v.cells.toList) := by
  have hst := run_storeCells_cells (P := P) b o v.cells.toList 0 w (fun j hj => by rw [cell_block h]; simp at hj ⊢; omega) (fun j hj => frozen_block h) h1
  simp only [Nat.add_zero] at hst
  simp [Instr.storeAt, Instr.sureAddr, storeVar, run_szOf hz, hn, hst]
end
end Go.Proofs.Ytpopccnnjpdmlaa.Vm
