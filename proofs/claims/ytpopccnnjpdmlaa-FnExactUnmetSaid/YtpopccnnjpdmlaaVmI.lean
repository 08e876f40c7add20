/- An abstract machine over values: append. -/
import Derived.Test.YtpopccnnjpdmlaaVmH
namespace Go.Proofs.Ytpopccnnjpdmlaa.Vm
open Go Go.RowKit
set_option linter.unusedVariables false
set_option linter.unusedSimpArgs false
section
variable {P : Program}
theorem run_app_room {t t2 ty e e2 : Nat} {i : TypeInfo} (h : P.underlying t = some (.slice e)) (h2 : P.underlying t2 = some (.slice e2)) (hi : P.info? e = some i) (b o n n2 cap c2 : Nat) (A2 : Option Addr) (news : List Value) (w : World) (hf : (Builtin.firstCells i.size n2 (.slice A2 n2 c2)).run P w = .ok news.toArray w) (hroom : n + n2 ≤ cap)
    (hc : ∀ j, j < news.length → (w.cell? ⟨b, o + n * i.size + j, none⟩).isSome = true) (hfz : ∀ j, j < news.length → w.frozen? ⟨b, o + n * i.size + j, none⟩ = false) (h1 : ∀ v ∈ news, v.oneCell' = true) :
    (Builtin.append_ #[t, t2] ty #[.slice (some ⟨b, o, none⟩) n cap, .slice A2 n2 c2]).run P w = .ok (.slice (some ⟨b, o, none⟩) (n + n2) cap) (w.setCells b (o + n * i.size) news) := by
  have hst := run_storeCells_cells (P := P) b (o + n * i.size) news 0 w (by simpa using hc) (by simpa using hfz) h1
  simp only [Nat.add_zero] at hst
  simp [Builtin.append_, run_underlying h, run_underlying h2, sizeOf, typeInfo, hi, Builtin.lenOf, hroom, hf, add0, hst]
theorem run_app_none {t t2 ty e e2 : Nat} {i : TypeInfo} (h : P.underlying t = some (.slice e)) (h2 : P.underlying t2 = some (.slice e2)) (hi : P.info? e = some i) (A A2 : Option Addr) (c2 : Nat) (w : World) :
    (Builtin.append_ #[t, t2] ty #[.slice A 0 0, .slice A2 0 c2]).run P w = .ok (.slice A 0 0) w := by
  cases A <;> cases A2 <;> simp [Builtin.append_, run_underlying h, run_underlying h2, sizeOf, typeInfo, hi, Builtin.lenOf, Builtin.firstCells, loadCells, loadCellsFrom, storeCells]
theorem run_app_grow {t t2 ty e e2 : Nat} {i : TypeInfo} {z : Value} (h : P.underlying t = some (.slice e)) (h2 : P.underlying t2 = some (.slice e2)) (hi : P.info? e = some i) (hz : i.zero = some z) (hzs : z.cells.size = i.size) (hb0 : 0 < i.bytes) (A A2 : Option Addr) (n n2 cap c2 : Nat) (olds news : List Value) (w : World)
    (hfo : (Builtin.firstCells i.size n (.slice A n cap)).run P w.drew = .ok olds.toArray w.drew) (hf : (Builtin.firstCells i.size n2 (.slice A2 n2 c2)).run P w.drew = .ok news.toArray w.drew) (hg : cap < n + n2) (hlim : (n + n2) * i.bytes ≤ 70368744177664) :
    ∃ cap' rest, (Builtin.append_ #[t, t2] ty #[.slice A n cap, .slice A2 n2 c2]).run P w = .ok (.slice (some ⟨w.heap.size, 0, none⟩) (n + n2) cap') (w.drew.alloc (.cells (olds.toArray ++ news.toArray ++ rest) e)) ∧ n + n2 ≤ cap' ∧ rest.size = (cap' - (n + n2)) * i.size := by
  have hle : n + n2 ≤ (n + n2) * i.bytes := Nat.le_mul_of_pos_right _ hb0
  have hfit := growslice_fits hg (show (n + n2) * i.bytes ≤ 140737488355328 by omega)
  have hn : ¬ (n + n2 ≤ cap) := by omega
  have h63' : ¬ (9223372036854775807 < ((n : Int) + (n2 : Int))) := by omega
  have h48' : ¬ (281474976710656 < Builtin.nextslicecap (n + n2) cap * i.bytes) := by omega
  refine ⟨grownCap w (n + n2) cap e, Builtin.zeroCells z.cells (grownCap w (n + n2) cap e - (n + n2)), ?_, grownCap_ge w _ _ e, by rw [size_zeroCells, hzs]⟩
  have hw : ({ w with drawn := w.drawn + 1 } : World) = w.drew := rfl
  have hb : i.bytes ≠ 0 := by omega
  simp [Builtin.append_, run_underlying h, run_underlying h2, sizeOf, typeInfo, zeroValue, hi, hz, Builtin.lenOf, hn, h63', h48', hb, Question.forced, hw, hf, hfo, newRow, grownCap]
  congr 2
  rw [← Array.append_assoc]
  simp
end
/-- A slice's cells, one by one. -/
theorem sl_cells {G : Gh} {v : Value} {m : Mk} {z sz : Nat} {xs : List AV} (r : RepD G v (.sl m z xs)) (hz : z = sz ∨ xs = []) (h0 : 0 < sz) :
    ∃ (A : Option Addr) (cap b o : Nat) (news : List Value), v = .slice A xs.length cap ∧ xs.length ≤ cap ∧ news.length = xs.length * sz ∧ (∀ u ∈ news, u.oneCell' = true) ∧ (xs ≠ [] → A = some ⟨b, o, none⟩) ∧ (∀ (k : Nat) (u : Value), news[k]? = some u → G b (o + k) = some u) ∧
      (∀ (i : Nat) (x : AV), xs[i]? = some x → x.cells.length = sz) ∧ ∀ (i : Nat) (x : AV) (j : Nat) (c : AV), xs[i]? = some x → x.cells[j]? = some c → ∃ u, news[i * sz + j]? = some u ∧ RepD G u c := by
  cases r with
  | sl A n cap _ _ _ b o f h1 h2 h3 h4 h5 h6 =>
    subst h1
    rcases hz with rfl | rfl
    · have key : ∀ k, k < xs.length * z → ∃ x c, xs[k / z]? = some x ∧ x.cells[k % z]? = some c := by
        intro k hk
        have hd : k / z < xs.length := by rw [Nat.div_lt_iff_lt_mul h0]; exact hk
        have hx := List.getElem?_eq_getElem hd
        have hm : k % z < (xs[k / z]).cells.length := by rw [h4 _ _ hx]; exact Nat.mod_lt _ h0
        exact ⟨_, _, hx, List.getElem?_eq_getElem hm⟩
      refine ⟨A, cap, b, o, (List.range (xs.length * z)).map fun k => f (k / z) (k % z), rfl, h2, by simp, ?_, h3, ?_, h4, ?_⟩
      · intro u hu
        obtain ⟨k, hk, rfl⟩ := List.mem_map.1 hu
        obtain ⟨x, c, hx, hc⟩ := key k (List.mem_range.1 hk)
        exact (h5 _ _ _ _ hx hc).2
      · intro k u hu
        rw [List.getElem?_map] at hu
        obtain ⟨k', hk', rfl⟩ := Option.map_eq_some_iff.1 hu
        obtain ⟨hlt, rfl⟩ : k < xs.length * z ∧ k = k' := by
          rw [List.getElem?_eq_some_iff] at hk'
          obtain ⟨h, e⟩ := hk'
          simp at h e
          exact ⟨h, e⟩
        obtain ⟨x, c, hx, hc⟩ := key k hlt
        have := (h5 _ _ _ _ hx hc).1
        rwa [Nat.add_assoc, show k / z * z + k % z = k from by rw [Nat.mul_comm]; exact Nat.div_add_mod k z] at this
      · intro i x j c hx hc
        have hi : i < xs.length := (List.getElem?_eq_some_iff.1 hx).1
        have hj : j < z := by rw [← h4 i x hx]; exact (List.getElem?_eq_some_iff.1 hc).1
        have hlt : i * z + j < xs.length * z := by
          have : (i + 1) * z ≤ xs.length * z := Nat.mul_le_mul_right _ hi
          rw [Nat.add_mul] at this
          omega
        have e1 : (i * z + j) / z = i := by rw [Nat.mul_comm, Nat.mul_add_div h0, Nat.div_eq_of_lt hj, Nat.add_zero]
        have e2 : (i * z + j) % z = j := by rw [Nat.mul_comm, Nat.mul_add_mod, Nat.mod_eq_of_lt hj]
        refine ⟨f i j, ?_, h6 i x j c hx hc⟩
        rw [List.getElem?_map, List.getElem?_range hlt, Option.map_some, e1, e2]
    · exact ⟨A, cap, b, o, [], rfl, h2, by simp, by simp, by simp, by simp, by simp, by simp⟩
theorem firstCells_run {P : Program} {A : Option Addr} {n cap b o sz : Nat} {news : List Value} (hn : news.length = n * sz) (hA : 0 < n * sz → A = some ⟨b, o, none⟩) (w : World) (hc : ∀ (k : Nat) (u : Value), news[k]? = some u → w.cell? ⟨b, o + k, none⟩ = some u) :
    (Builtin.firstCells sz n (.slice A n cap)).run P w = .ok news.toArray w := by
  by_cases h : 0 < n * sz
  · rw [hA h]
    exact run_firstCells_some w sz n ⟨b, o, none⟩ n cap news hn (fun j v hv => by rw [add0]; exact hc j v hv)
  · have h0 : n * sz = 0 := by omega
    have : news = [] := List.eq_nil_of_length_eq_zero (by omega)
    subst this
    cases A with
    | none => rfl
    | some a => simp [Builtin.firstCells, h0, loadCells, loadCellsFrom]
theorem demL_get (c : Nat) : ∀ (cs : List AV) (j : Nat), (dem.demL c cs)[j]? = (cs[j]?).map (dem c)
  | [], j => by simp [dem.demL]
  | x :: cs, 0 => by simp [dem.demL]
  | x :: cs, j + 1 => by simp [dem.demL, demL_get c cs j]
theorem demL_len (c : Nat) : ∀ (cs : List AV), (dem.demL c cs).length = cs.length
  | [] => rfl
  | x :: cs => by simp [dem.demL, demL_len c cs]
theorem dem_cells (c : Nat) (x : AV) : (dem c x).cells = dem.demL c x.cells := by
  cases x with
  | sl m sz xs =>
    simp only [dem]
    cases hm : m.ap with
    | no => simp [AV.cells, dem.demL, dem, hm]
    | nl => simp [AV.cells, dem.demL, dem, hm]
    | ow t => simp [AV.cells, dem.demL, dem, hm]
    | cl k => by_cases hk : k = c <;> simp [AV.cells, dem.demL, dem, hm, hk]
  | _ => simp [dem, AV.cells, dem.demL]
theorem dem_okC (c : Nat) (x : AV) : okC (dem c x) = okC x := by
  cases x with
  | sl m sz xs =>
    simp only [dem]
    cases hm : m.ap with
    | no => rfl
    | nl => rfl
    | ow t => rfl
    | cl k => by_cases hk : k = c <;> simp [hk, okC]
  | _ => rfl
theorem Rel.dem {x x' : X} {base : Nat} {v : Value} {a : AV} {c : Nat} (r : Rel x base v a) (hG : x.G.le x'.G) (hR : x.up x') (hb : ∀ n, x'.bx n = x.bx n ∧ x'.bz n = x.bz n) (ht : ∀ k, k ≠ c → x'.tl k = x.tl k) : Rel x' base v (dem c a) := by
  induction r with
  | un v => exact .un v
  | lit v h => exact .lit v h
  | sl v m sz xs h1 h2 h3 =>
    have d1 : RepD x'.G v (.sl m sz xs) := h1.mono hG
    have d2 : m.fr = true → RepD (x'.G.from base) v (.sl m sz xs) := fun hf => (h2 hf).mono (from_mono hG)
    obtain ⟨ap, fr⟩ := m
    cases ap with
    | no => exact .sl _ _ _ _ d1 d2 trivial
    | nl => exact .sl _ _ _ _ d1 d2 h3
    | ow t => exact .sl _ _ _ _ d1 d2 ⟨h3.1.mono (rng_mono hG (hR.rg t)), fun hu => by rw [hR.rv t]; exact h3.2 hu⟩
    | cl k =>
      simp only [Vm.dem]
      by_cases hk : k = c
      · rw [if_pos hk]
        exact .sl _ _ _ _ d1.mark (fun hf => (d2 hf).mark) trivial
      · rw [if_neg hk]
        refine .sl _ _ _ _ d1 d2 ?_
        simp only [Room] at h3 ⊢
        rw [ht k hk]
        exact h3
  | agg vs cs hs _ ih =>
    refine .agg _ _ (by rw [demL_len]; exact hs) fun j v d hv hd => ?_
    rw [demL_get] at hd
    obtain ⟨e, he, rfl⟩ := Option.map_eq_some_iff.1 hd
    exact ih j v e hv he
  | tup vs cs hs _ ih =>
    refine .tup _ _ (by rw [demL_len]; exact hs) fun j v d hv hd => ?_
    rw [demL_get] at hd
    obtain ⟨e, he, rfl⟩ := Option.map_eq_some_iff.1 hd
    exact ih j v e hv he
  | ptr n i off =>
    obtain ⟨h1, h2⟩ := hb n
    simp only [Vm.dem]
    rw [← h1, ← h2]
    exact .ptr n i off
  | ep b o fr cs f h1 h2 h3 => exact .ep b o fr cs f (fun j c h => hG _ _ _ (h1 j c h)) (fun j c h => (h2 j c h).mono hG) fun hf j c h => (h3 hf j c h).mono (from_mono hG)
  | fn f vs cs hs _ ih =>
    refine .fn f _ _ (by rw [demL_len]; exact hs) fun j v d hv hd => ?_
    rw [demL_get] at hd
    obtain ⟨e, he, rfl⟩ := Option.map_eq_some_iff.1 hd
    exact ih j v e hv he
  | bs n sz len cap h hl =>
    obtain ⟨h1, h2⟩ := hb n
    simp only [Vm.dem]
    rw [← h1, ← h2]
    exact .bs n sz len cap (by rw [h2]; exact h) hl
  | hs v sz xs h => exact .hs v sz xs (h.mono hG hR.J)
  | hp b o cs f h1 h2 => exact .hp b o cs f (fun j c hc e => hR.J _ _ (h1 j c hc e)) (fun j c hc e => ⟨hG _ _ _ (h2 j c hc e).1, (h2 j c hc e).2.mono hG hR.J⟩)
theorem look_mapV {α β : Type} (f : α → β) : ∀ (l : List (Nat × α)) (u : Nat), look (mapV f l) u = (look l u).map f
  | [], u => rfl
  | (k, y) :: l, u => by
    simp only [mapV, look]
    split
    · rfl
    · exact look_mapV f l u
theorem get_dem (s : AS) (c u : Nat) : (s.dem c).get u = dem c (s.get u) := by
  unfold AS.get AS.dem
  simp only [look_mapV]
  cases look s.env u <;> rfl
theorem BoxAt.dem {x x' : X} {base : Nat} {w : World} {n : Nat} {l : List AV} {c : Nat} (h : BoxAt x base w n l) (hG : x.G.le x'.G) (hR : x.up x') (hb : ∀ n, x'.bx n = x.bx n ∧ x'.bz n = x.bz n) (ht : ∀ k, k ≠ c → x'.tl k = x.tl k) : BoxAt x' base w n (dem.demL c l) := by
  obtain ⟨vals, ty, e1, e2, e3, e4⟩ := h
  obtain ⟨h1, h2⟩ := hb n
  refine ⟨vals, ty, by rw [h1]; exact e1, by rw [h2, demL_len]; exact e2, by rw [h2]; exact e3, fun i e he => ?_⟩
  rw [demL_get] at he
  obtain ⟨e', he', rfl⟩ := Option.map_eq_some_iff.1 he
  obtain ⟨e5, e6⟩ := e4 i e' he'
  refine ⟨by rw [h2, dem_cells, demL_len]; exact e5, fun j d hd => ?_⟩
  rw [dem_cells, demL_get] at hd
  obtain ⟨d', hd', rfl⟩ := Option.map_eq_some_iff.1 hd
  obtain ⟨e7, v, e8, e9, e10⟩ := e6 j d' hd'
  exact ⟨by rw [dem_okC]; exact e7, v, by rw [h2]; exact e8, e9, e10.dem hG hR hb ht⟩
end Go.Proofs.Ytpopccnnjpdmlaa.Vm
