/- An abstract machine over values: literals of slices and append, on the state. -/
import Derived.Test.YtpopccnnjpdmlaaVmI
namespace Go.Proofs.Ytpopccnnjpdmlaa.Vm
open Go Go.RowKit
set_option linter.unusedVariables false
set_option linter.unusedSimpArgs false
theorem setL_same {α : Type} (t : Nat) (u v : α) : ∀ (l : List (Nat × α)), setL t v (setL t u l) = setL t v l
  | [] => by simp [setL]
  | (k, y) :: l => by
    simp only [setL]
    by_cases h1 : t < k
    · rw [if_pos h1, if_pos h1]
      simp [setL]
    · rw [if_neg h1, if_neg h1]
      by_cases h2 : t = k
      · rw [if_pos h2, if_pos h2]
        simp [setL]
      · rw [if_neg h2, if_neg h2]
        simp only [setL]
        rw [if_neg h1, if_neg h2, setL_same t u v l]
theorem put_put (s : AS) (t : Nat) (u v : AV) : (s.put t u).put t v = s.put t v := by
  unfold AS.put; simp [setL_same]
/-- Two slices' cells, one behind the other, read as the two lists together. -/
theorem RepD.cat {G : Gh} {sz b o cap : Nat} {m : Mk} {xs ys : List AV} {olds news : List Value} (hc : xs.length + ys.length ≤ cap) (ho : olds.length = xs.length * sz) (hold : ∀ (k : Nat) (u : Value), olds[k]? = some u → G b (o + k) = some u) (hnew : ∀ (k : Nat) (u : Value), news[k]? = some u → G b (o + xs.length * sz + k) = some u)
    (h1 : ∀ u ∈ olds, u.oneCell' = true) (h2 : ∀ u ∈ news, u.oneCell' = true) (lx : ∀ (i : Nat) (x : AV), xs[i]? = some x → x.cells.length = sz) (ly : ∀ (i : Nat) (x : AV), ys[i]? = some x → x.cells.length = sz)
    (rx : ∀ (i : Nat) (x : AV) (j : Nat) (c : AV), xs[i]? = some x → x.cells[j]? = some c → ∃ u, olds[i * sz + j]? = some u ∧ RepD G u c) (ry : ∀ (i : Nat) (x : AV) (j : Nat) (c : AV), ys[i]? = some x → x.cells[j]? = some c → ∃ u, news[i * sz + j]? = some u ∧ RepD G u c) :
    RepD G (.slice (some ⟨b, o, none⟩) (xs.length + ys.length) cap) (.sl m sz (xs ++ ys)) := by
  have key : ∀ (i : Nat) (x : AV) (j : Nat) (c : AV), (xs ++ ys)[i]? = some x → x.cells[j]? = some c → ∃ u, (if i < xs.length then olds.getD (i * sz + j) undef else news.getD ((i - xs.length) * sz + j) undef) = u ∧ G b (o + i * sz + j) = some u ∧ u.oneCell' = true ∧ RepD G u c := by
    intro i x j c hx hcx
    by_cases hi : i < xs.length
    · rw [List.getElem?_append_left hi] at hx
      obtain ⟨u, hu, hr⟩ := rx i x j c hx hcx
      refine ⟨u, by rw [if_pos hi]; simp [List.getD, hu], ?_, h1 u (List.mem_of_getElem? hu), hr⟩
      have := hold _ _ hu
      rwa [← Nat.add_assoc] at this
    · rw [List.getElem?_append_right (by omega)] at hx
      obtain ⟨u, hu, hr⟩ := ry _ x j c hx hcx
      refine ⟨u, by rw [if_neg hi]; simp [List.getD, hu], ?_, h2 u (List.mem_of_getElem? hu), hr⟩
      have := hnew _ _ hu
      have e : xs.length * sz + (i - xs.length) * sz = i * sz := by rw [← Nat.add_mul]; congr 1; omega
      rwa [show o + xs.length * sz + ((i - xs.length) * sz + j) = o + i * sz + j by omega] at this
  refine .sl _ _ cap m sz _ b o (fun i j => if i < xs.length then olds.getD (i * sz + j) undef else news.getD ((i - xs.length) * sz + j) undef) (by simp) hc (fun _ => rfl) (fun i x hx => ?_) (fun i x j c hx hcx => ?_) (fun i x j c hx hcx => ?_)
  · by_cases hi : i < xs.length
    · rw [List.getElem?_append_left hi] at hx; exact lx i x hx
    · rw [List.getElem?_append_right (by omega)] at hx; exact ly _ x hx
  · obtain ⟨u, e1, e2, e3, e4⟩ := key i x j c hx hcx
    simp only [e1]
    exact ⟨e2, e3⟩
  · obtain ⟨u, e1, e2, e3, e4⟩ := key i x j c hx hcx
    simp only [e1]
    exact e4
theorem row_le {G : Gh} {b o n : Nat} {f : Nat → Value} (h : ∀ o', o ≤ o' → o' < o + n → G b o' = none) : G.le (G.row b o f n) := by
  intro b' o' v hv
  unfold Gh.row
  split
  · rename_i hc
    obtain ⟨rfl, h1, h2⟩ := hc
    rw [h o' h1 h2] at hv; cases hv
  · exact hv
theorem row_at {G : Gh} {b o n : Nat} {f : Nat → Value} {k : Nat} (h : k < n) : G.row b o f n b (o + k) = some (f k) := by
  unfold Gh.row
  rw [if_pos ⟨rfl, by omega, by omega⟩, show o + k - o = k by omega]
section
variable {E : Env} {x0 x : X} {w0 w : World} {pb nt : Nat} {a : Act} {s : AS}
theorem get_putO_un (s : AS) (d : Option Nat) (u : Nat) : (s.putO d .un).get u = s.get u ∨ (s.putO d .un).get u = .un := by
  cases d with
  | none => exact .inl rfl
  | some t =>
    simp only [AS.putO, get_put]
    split
    · exact .inr rfl
    · exact .inl rfl
theorem St.forget (h : St E x0 w0 pb nt x a w s) (d : Option Nat) : St E x0 w0 pb nt x a w (s.putO d .un) :=
  { h with env := fun u => (by rcases get_putO_un s d u with e | e <;> rw [e]; exact h.env u; exact .un _), bxs := by rw [bxs_putO]; exact h.bxs, inj := by rw [bxs_putO]; exact h.inj, tlb := by rw [bxs_putO]; exact h.tlb }
/-- What a state with a class of its own asks of another account of the memory. -/
def Adapts (x : X) (base : Nat) (a : Act) (w : World) (s s' : AS) (c0 : Nat) : Prop :=
  ∀ x' : X, x.G.le x'.G → x.up x' → (∀ n, x'.bx n = x.bx n ∧ x'.bz n = x.bz n) → (∀ k, k ≠ c0 → x'.tl k = x.tl k) →
    (∀ u, Rel x' base (a.tmps.getD u undef) (s'.get u)) ∧ ∀ n l', look s'.bxs n = some l' → (∃ l, look s.bxs n = some l) ∧ BoxAt x' base w n l'
theorem adapts_dem (h : St E x0 w0 pb nt x a w s) (c : Nat) : Adapts x w0.heap.size a w s (s.dem c) c := by
  intro x' hG hR hb ht
  refine ⟨fun u => by rw [get_dem]; exact (h.env u).dem hG hR hb ht, fun n l' hl => ?_⟩
  have hl' : (look s.bxs n).map (dem.demL c) = some l' := by rw [← look_mapV]; exact hl
  obtain ⟨l, hl2, rfl⟩ := Option.map_eq_some_iff.1 hl'
  exact ⟨⟨l, hl2⟩, (h.bxs n l hl2).1.dem hG hR hb ht⟩
theorem adapts_new (h : St E x0 w0 pb nt x a w s) {c t : Nat} (hc : c / 64 = t) (hn : (s.putO (some t) .un).noC t = true) : Adapts x w0.heap.size a w s (s.putO (some t) .un) c := by
  intro x' hG hR hb ht
  have htl : ∀ d, d ≠ t → ∀ k, k / 64 = d → x'.tl k = x.tl k := fun d hd k hk => ht k (by rintro rfl; exact hd (hk.symm.trans hc))
  refine ⟨fun u => ?_, fun n l' hl => ?_⟩
  · by_cases hu : u = t
    · rw [AS.putO, get_put, if_pos hu]; exact .un _
    · rw [AS.putO, get_put, if_neg hu]
      refine Rel.up hG hR (h.env u) (fun n _ => hb n) (fun d hd => htl d ?_)
      rintro rfl
      rw [noC_of hn u hu] at hd; cases hd
  · rw [bxs_putO] at hl
    refine ⟨⟨l', hl⟩, BoxAt.up (h.bxs n l' hl).1 hG hR (hb n).1 (hb n).2 (fun m _ => hb m) (fun d hd => htl d ?_)⟩
    rintro rfl
    rw [noC_box hn hl] at hd; cases hd
/-- A slice's cells, with what they read as (and what of that was made by this call). -/
theorem sl_cells2 {G : Gh} {base : Nat} {v : Value} {m : Mk} {z sz : Nat} {fr : Bool} {xs : List AV} (r : RepD G v (.sl m z xs)) (r2 : fr = true → RepD (G.from base) v (.sl m z xs)) (hz : z = sz ∨ xs = []) (h0 : 0 < sz) :
    ∃ (A : Option Addr) (cap b o : Nat) (news : List Value), v = .slice A xs.length cap ∧ xs.length ≤ cap ∧ news.length = xs.length * sz ∧ (∀ u ∈ news, u.oneCell' = true) ∧ (xs ≠ [] → A = some ⟨b, o, none⟩) ∧ (∀ (k : Nat) (u : Value), news[k]? = some u → G b (o + k) = some u) ∧
      (∀ (i : Nat) (x : AV), xs[i]? = some x → x.cells.length = sz) ∧ ∀ (i : Nat) (x : AV) (j : Nat) (c : AV), xs[i]? = some x → x.cells[j]? = some c → ∃ u, news[i * sz + j]? = some u ∧ RepD G u c ∧ (fr = true → RepD (G.from base) u c) := by
  obtain ⟨A, cap, b, o, news, h1, h2, h3, h4, h5, h6, h7, h8⟩ := sl_cells r hz h0
  refine ⟨A, cap, b, o, news, h1, h2, h3, h4, h5, h6, h7, fun i x j c hx hc => ?_⟩
  obtain ⟨u, hu, hr⟩ := h8 i x j c hx hc
  refine ⟨u, hu, hr, fun hf => ?_⟩
  obtain ⟨A', cap', b', o', news', g1, g2, g3, g4, g5, g6, g7, g8⟩ := sl_cells (r2 hf) hz h0
  obtain ⟨u', hu', hr'⟩ := g8 i x j c hx hc
  have hne : xs ≠ [] := by rintro rfl; simp at hx
  have e1 := h5 hne
  have e2 := g5 hne
  rw [h1] at g1
  injection g1 with e3 _ _
  rw [e1, e2] at e3
  injection e3 with e3
  injection e3 with e3 e4 _
  subst e3 e4
  have q1 := h6 _ _ hu
  have q2 := from_le base G _ _ _ (g6 _ _ hu')
  rw [q1] at q2
  obtain rfl := Option.some.inj q2
  exact hr'
theorem Rel.cat {x x' : X} {base : Nat} {sz b o cap c0 : Nat} {fx fy : Bool} {xs ys : List AV} {olds news : List Value} (hG : x.G.le x'.G) (hb : base ≤ b) (hc : xs.length + ys.length ≤ cap) (ho : olds.length = xs.length * sz) (hold : ∀ (k : Nat) (u : Value), olds[k]? = some u → x'.G b (o + k) = some u) (hnew : ∀ (k : Nat) (u : Value), news[k]? = some u → x'.G b (o + xs.length * sz + k) = some u)
    (h1 : ∀ u ∈ olds, u.oneCell' = true) (h2 : ∀ u ∈ news, u.oneCell' = true) (lx : ∀ (i : Nat) (x : AV), xs[i]? = some x → x.cells.length = sz) (ly : ∀ (i : Nat) (x : AV), ys[i]? = some x → x.cells.length = sz)
    (rx : ∀ (i : Nat) (y : AV) (j : Nat) (c : AV), xs[i]? = some y → y.cells[j]? = some c → ∃ u, olds[i * sz + j]? = some u ∧ RepD x.G u c ∧ (fx = true → RepD (x.G.from base) u c)) (ry : ∀ (i : Nat) (y : AV) (j : Nat) (c : AV), ys[i]? = some y → y.cells[j]? = some c → ∃ u, news[i * sz + j]? = some u ∧ RepD x.G u c ∧ (fy = true → RepD (x.G.from base) u c))
    (htl : x'.tl c0 = some (b, o + (xs.length + ys.length) * sz, o + cap * sz)) : Rel x' base (.slice (some ⟨b, o, none⟩) (xs.length + ys.length) cap) (.sl ⟨.cl c0, fx && fy⟩ sz (xs ++ ys)) := by
  have up : ∀ {k : Nat} {u : Value}, x'.G b k = some u → (x'.G.from base) b k = some u := fun h => by unfold Gh.from; rw [if_pos hb]; exact h
  refine .sl _ _ _ _ ?_ (fun hf => ?_) (.inr ⟨b, o, _, cap, rfl, htl⟩)
  · exact RepD.cat hc ho hold hnew h1 h2 lx ly (fun i y j c hx hcx => by obtain ⟨u, e1, e2, _⟩ := rx i y j c hx hcx; exact ⟨u, e1, e2.mono hG⟩) (fun i y j c hx hcx => by obtain ⟨u, e1, e2, _⟩ := ry i y j c hx hcx; exact ⟨u, e1, e2.mono hG⟩)
  · simp only [Bool.and_eq_true] at hf
    exact RepD.cat hc ho (fun k u h => up (hold k u h)) (fun k u h => up (hnew k u h)) h1 h2 lx ly (fun i y j c hx hcx => by obtain ⟨u, e1, _, e2⟩ := rx i y j c hx hcx; exact ⟨u, e1, (e2 hf.1).mono (from_mono hG)⟩) (fun i y j c hx hcx => by obtain ⟨u, e1, _, e2⟩ := ry i y j c hx hcx; exact ⟨u, e1, (e2 hf.2).mono (from_mono hG)⟩)
/-- A slice is appended to. -/
theorem St.app (h : St E x0 w0 pb nt x a w s) {s' : AS} {c0 : Nat} (had : Adapts x w0.heap.size a w s s' c0) {t t2 ty e e2 z2 : Nat} {i : TypeInfo} {z : Value} (hu : E.P.underlying t = some (.slice e)) (hu2 : E.P.underlying t2 = some (.slice e2)) (hi : E.P.info? e = some i) (hz : i.zero = some z) (hzs : z.cells.size = i.size) (h0 : 0 < i.size) (hb0 : 0 < i.bytes)
    {v u : Value} {fx fy : Bool} {zx : Nat} {m1 m2 : Mk} {xs ys : List AV} (rv : RepD x.G v (.sl m1 zx xs)) (rv2 : fx = true → RepD (x.G.from w0.heap.size) v (.sl m1 zx xs)) (hzx : zx = i.size ∨ xs = []) (ru : RepD x.G u (.sl m2 z2 ys)) (ru2 : fy = true → RepD (x.G.from w0.heap.size) u (.sl m2 z2 ys)) (hzy : z2 = i.size ∨ ys = [])
    (hroom : (∃ A, v = .slice A 0 0) ∨ ∃ b o n cap, v = .slice (some ⟨b, o, none⟩) n cap ∧ x.tl c0 = some (b, o + n * i.size, o + cap * i.size)) (hlim : (xs.length + ys.length) * i.bytes ≤ 70368744177664) :
    ∃ v' w' x', (Builtin.append_ #[t, t2] ty #[v, u]).run E.P w = .ok v' w' ∧ St E x0 w0 pb nt x' a w' s' ∧ Rel x' w0.heap.size v' (.sl ⟨.cl c0, fx && fy⟩ i.size (xs ++ ys)) := by
  obtain ⟨A2, cap2, b2, o2, news, rfl, n1, n2, n3, n4, n5, n6, n7⟩ := sl_cells2 ru ru2 hzy h0
  have hfirst2 : ∀ w1 : World, w1.heap = w.heap → (Builtin.firstCells i.size ys.length (.slice A2 ys.length cap2)).run E.P w1 = .ok news.toArray w1 := by
    intro w1 hw1
    refine firstCells_run (b := b2) (o := o2) n2 (fun hp => n4 (fun e => by rw [e] at hp; simp at hp)) w1 fun k q hq => ?_
    have := agree_cell h.ag (n5 k q hq)
    unfold World.cell? at this ⊢
    rw [hw1]; exact this
  obtain ⟨A, cap, bx, ox, olds, rfl, p1, p2, p3, p4, p5, p6, p7⟩ := sl_cells2 rv rv2 hzx h0
  have hfirst1 : ∀ w1 : World, w1.heap = w.heap → (Builtin.firstCells i.size xs.length (.slice A xs.length cap)).run E.P w1 = .ok olds.toArray w1 := by
    intro w1 hw1
    refine firstCells_run (b := bx) (o := ox) p2 (fun hp => p4 (fun e => by rw [e] at hp; simp at hp)) w1 fun k q hq => ?_
    have := agree_cell h.ag (p5 k q hq)
    unfold World.cell? at this ⊢
    rw [hw1]; exact this
  have hbase := h.fr.2.2.2.1
  by_cases hg : cap < xs.length + ys.length
  · -- a new block
    obtain ⟨cap', rest, hrun, hcap', hrest⟩ := run_app_grow (ty := ty) hu hu2 hi hz hzs hb0 A A2 xs.length ys.length cap cap2 olds news w (hfirst1 w.drew rfl) (hfirst2 w.drew rfl) hg hlim
    have hnone : ∀ o', x.G w.heap.size o' = none := fun o' => agree_new h.ag o'
    have hle := row_le (G := x.G) (b := w.heap.size) (o := 0) (n := (xs.length + ys.length) * i.size) (f := fun k => (olds ++ news).getD k undef) (fun o' _ _ => hnone o')
    have hlen : (olds ++ news).length = (xs.length + ys.length) * i.size := by rw [List.length_append, p2, n2, Nat.add_mul]
    have hmul : (xs.length + ys.length) * i.size ≤ cap' * i.size := Nat.mul_le_mul_right _ hcap'
    have hcell : ∀ k u, (olds ++ news)[k]? = some u → (x.G.row w.heap.size 0 (fun k => (olds ++ news).getD k undef) ((xs.length + ys.length) * i.size)) w.heap.size (0 + k) = some u := by
      intro k u hk
      rw [row_at (by rw [← hlen]; exact (List.getElem?_eq_some_iff.1 hk).1)]
      simp only [List.getD, hk, Option.getD_some]
    obtain ⟨ad1, ad2⟩ := had { x with G := x.G.row w.heap.size 0 (fun k => (olds ++ news).getD k undef) ((xs.length + ys.length) * i.size), tl := fun c => if c = c0 then some (w.heap.size, (xs.length + ys.length) * i.size, cap' * i.size) else x.tl c } hle ⟨fun _ _ h => h, fun _ _ h => h, fun _ => rfl⟩ (fun n => ⟨rfl, rfl⟩) (fun k hk => if_neg hk)
    have hrow := h.row (w' := w.drew.alloc (.cells (olds.toArray ++ news.toArray ++ rest) e)) (b := w.heap.size) (o := 0) (n := (xs.length + ys.length) * i.size) (c0 := c0) (e1 := (xs.length + ys.length) * i.size) (t1 := cap' * i.size) (f := fun k => (olds ++ news).getD k undef) (s' := s')
      hbase (fun o' _ _ => hnone o') ⟨_, e, alloc_new (w := w.drew), by
        simp only [Array.size_append, List.size_toArray, p2, n2, hrest, ← Nat.add_mul]
        exact Nat.mul_le_mul_right _ (by omega), fun k hk => by
        rw [Nat.zero_add, Array.getElem?_append_left (by simp; rw [List.length_append] at hlen; omega), List.append_toArray, List.getElem?_toArray, List.getElem?_eq_getElem (by omega)]
        simp only [List.getD, List.getElem?_eq_getElem (show k < (olds ++ news).length by omega), Option.getD_some], fun o' v hv => by rw [hnone o'] at hv; cases hv⟩ (fun k _ hk => alloc_old (w := w.drew) hk) (by simp) ⟨rfl, rfl, rfl⟩ ad1 ad2 (fun m l hl => by have := box_lt h hl; omega) (fun o' ho' => by
        unfold Gh.row
        rw [if_neg (by omega)]
        exact hnone o') (fun c e' t' ht' => by
        obtain ⟨_, ⟨vals2, ty2, q2, _⟩, _⟩ := h.tl.1 c _ _ _ ht'
        have := (Array.getElem?_eq_some_iff.1 q2).1
        omega) (fun k hk hl => Array.getElem?_eq_none (by simp; omega))
    refine ⟨_, _, _, hrun, hrow, Rel.cat hle hbase hcap' p2 (fun k u hk => ?_) (fun k u hk => ?_) p3 n3 p6 n6 p7 n7 (by simp)⟩
    · exact hcell k u (by rw [List.getElem?_append_left (List.getElem?_eq_some_iff.1 hk).1]; exact hk)
    · rw [Nat.add_assoc]
      exact hcell _ u (by rw [List.getElem?_append_right (by omega), ← p2, Nat.add_sub_cancel_left]; exact hk)
  · -- in place
    by_cases hy : ys.length = 0 ∧ cap = 0
    · obtain ⟨hy1, rfl⟩ := hy
      have hx1 : xs = [] := List.eq_nil_of_length_eq_zero (by omega)
      have hy2 : ys = [] := List.eq_nil_of_length_eq_zero hy1
      subst hx1 hy2
      obtain ⟨ad1, ad2⟩ := had x (fun _ _ _ h => h) ⟨fun _ _ h => h, fun _ _ h => h, fun _ => rfl⟩ (fun n => ⟨rfl, rfl⟩) (fun k _ => rfl)
      refine ⟨.slice A 0 0, w, x, run_app_none hu hu2 hi A A2 cap2 w, { h with env := ad1, bxs := fun n l' hl => ?_, inj := fun n m l1 l2 h1 h2 e => ?_, tlb := fun c b e t ht n l' hl => ?_ }, ?_⟩
      · obtain ⟨⟨l, hl1⟩, hb⟩ := ad2 n l' hl
        exact ⟨hb, (h.bxs n l hl1).2⟩
      · obtain ⟨⟨l, hl1⟩, _⟩ := ad2 n l1 h1
        obtain ⟨⟨l', hl2⟩, _⟩ := ad2 m l2 h2
        exact h.inj n m l l' hl1 hl2 e
      · obtain ⟨⟨l, hl1⟩, _⟩ := ad2 n l' hl
        exact h.tlb c b e t ht n l hl1
      · exact .sl _ _ _ _ (.sl A 0 0 _ _ [] 0 0 (fun _ _ => default) rfl (Nat.le_refl _) (fun h => absurd rfl h) (by simp) (by simp) (by simp)) (fun _ => .sl A 0 0 _ _ [] 0 0 (fun _ _ => default) rfl (Nat.le_refl _) (fun h => absurd rfl h) (by simp) (by simp) (by simp)) (.inl ⟨A, rfl⟩)
    · have hr2 : ∃ b o, A = some ⟨b, o, none⟩ ∧ x.tl c0 = some (b, o + xs.length * i.size, o + cap * i.size) := by
        rcases hroom with ⟨A', e1⟩ | ⟨b, o, n, cap1, e1, e2⟩
        · injection e1 with _ e2 e3
          omega
        · injection e1 with e3 e4 e5
          subst e4 e5
          exact ⟨b, o, e3, e2⟩
      obtain ⟨b, o, rfl, htl⟩ := hr2
      have hbo : xs ≠ [] → bx = b ∧ ox = o := by
        intro hne
        have := p4 hne
        injection this with this
        injection this with e1 e2 _
        exact ⟨e1.symm, e2.symm⟩
      obtain ⟨t1, ⟨vals, tyb, t2', t3⟩, t4⟩ := h.tl.1 c0 _ _ _ htl
      have hmul : (xs.length + ys.length) * i.size ≤ cap * i.size := Nat.mul_le_mul_right _ (by omega)
      rw [Nat.add_mul] at hmul
      have hrun := run_app_room (ty := ty) hu hu2 hi b o xs.length ys.length cap cap2 A2 news w (hfirst2 w rfl) (by omega) (fun j hj => by rw [cell_block t2']; simp; omega) (fun j hj => frozen_block t2') n3
      obtain ⟨vals', s1, s2, s3, s4, s5, s6, s7, s8⟩ := setCells_spec b news (o + xs.length * i.size) w vals tyb (0, 0) t2' (by omega)
      have hle := row_le (G := x.G) (b := b) (o := o + xs.length * i.size) (n := ys.length * i.size) (f := fun k => news.getD k undef) (fun o' h1 _ => t4 o' h1)
      have hcell : ∀ k u, news[k]? = some u → (x.G.row b (o + xs.length * i.size) (fun k => news.getD k undef) (ys.length * i.size)) b (o + xs.length * i.size + k) = some u := by
        intro k u hk
        rw [row_at (by rw [← n2]; exact (List.getElem?_eq_some_iff.1 hk).1)]
        simp only [List.getD, hk, Option.getD_some]
      obtain ⟨ad1, ad2⟩ := had { x with G := x.G.row b (o + xs.length * i.size) (fun k => news.getD k undef) (ys.length * i.size), tl := fun c => if c = c0 then some (b, o + (xs.length + ys.length) * i.size, o + cap * i.size) else x.tl c } hle ⟨fun _ _ h => h, fun _ _ h => h, fun _ => rfl⟩ (fun n => ⟨rfl, rfl⟩) (fun k hk => if_neg hk)
      have hrow := h.row (w' := w.setCells b (o + xs.length * i.size) news) (b := b) (o := o + xs.length * i.size) (n := ys.length * i.size) (c0 := c0) (e1 := o + (xs.length + ys.length) * i.size) (t1 := o + cap * i.size) (f := fun k => news.getD k undef) (s' := s')
        t1 (fun o' h1 _ => t4 o' h1) ⟨vals', tyb, s1, by omega, fun k hk => by
          rw [s3, if_pos (by omega), show o + xs.length * i.size + k - (o + xs.length * i.size) = k by omega, List.getElem?_eq_getElem (by omega)]
          simp only [List.getD, List.getElem?_eq_getElem (show k < news.length by omega), Option.getD_some], fun o' v hv => by
          have hlt : o' < o + xs.length * i.size := by
            rcases Nat.lt_or_ge o' (o + xs.length * i.size) with h1 | h1
            · exact h1
            · rw [t4 o' h1] at hv; cases hv
          rw [s3, if_neg (by omega)]
          obtain ⟨c, ty', fz, g1, g2⟩ := h.ag b o' v hv
          rw [t2'] at g1
          injection g1 with g1
          injection g1 with g1 _ _
          rw [g1]; exact g2⟩ (fun k hk _ => s4 k hk) (by omega) ⟨s6, s7, s8⟩ ad1 ad2 (fun m l hl => h.tlb c0 _ _ _ htl m l hl) (fun o' ho' => by
          unfold Gh.row
          rw [Nat.add_mul] at ho'
          rw [if_neg (by omega)]
          exact t4 o' (by omega)) (fun c e' t' ht' => h.tl.2 _ _ _ _ _ _ _ ht' htl) (fun k hk hl => Array.getElem?_eq_none (by omega))
      refine ⟨_, _, _, hrun, hrow, Rel.cat hle t1 (by omega) p2 (fun k u hk => ?_) hcell p3 n3 p6 n6 p7 n7 (by simp)⟩
      have hne : xs ≠ [] := by
        rintro rfl
        have := (List.getElem?_eq_some_iff.1 hk).1
        simp only [List.length_nil, Nat.zero_mul] at p2
        omega
      obtain ⟨rfl, rfl⟩ := hbo hne
      exact hle _ _ _ (p5 k u hk)
end
end Go.Proofs.Ytpopccnnjpdmlaa.Vm
