/- An abstract machine over values: new blocks. -/
import Derived.Test.YtpopccnnjpdmlaaVmF
import Derived.Laws.AppendOwn
namespace Go.Proofs.Ytpopccnnjpdmlaa.Vm
open Go Go.RowKit
set_option linter.unusedVariables false
set_option linter.unusedSimpArgs false
section
variable {E : Env} {x0 x : X} {w0 w : World} {pb nt : Nat} {a : Act} {s : AS}
theorem fr_alloc (h : St E x0 w0 pb nt x a w s) (o : Obj) : Fr w0.heap.size (SBx pb x0) w0 (w.alloc o) :=
  h.fr.step rfl rfl rfl (by simp) fun k hk _ => alloc_old (by have := h.fr.2.2.2.1; omega)
theorem agree_alloc {G : Gh} (h : Agree G w) (o : Obj) : Agree G (w.alloc o) := by
  intro b p v hv
  obtain ⟨c, ty, fz, h1, h2⟩ := h b p v hv
  exact ⟨c, ty, fz, (alloc_old (agree_lt h hv)).trans h1, h2⟩
theorem agree_new {G : Gh} (h : Agree G w) (o : Nat) : G w.heap.size o = none := by
  cases hg : G w.heap.size o with
  | none => rfl
  | some v => have := agree_lt h hg; omega
/-- A new box. -/
theorem St.newBox (h : St E x0 w0 pb nt x a w s) {t : Nat} (ht : t < nt) {l : List AV} {sz : Nat} {vals : Array Value} {ty : Nat} (hfree : (s.putO (some t) .un).noB (1000 + t) = true) (hl : noB.noL (1000 + t) l = true) (hsz : 0 < sz) (hsize : vals.size = l.length * sz)
    (hcells : ∀ (i : Nat) (e : AV), l[i]? = some e → e.cells.length = sz ∧ ∀ (j : Nat) (c : AV), e.cells[j]? = some c → okC c = true ∧ ∃ v, vals[i * sz + j]? = some v ∧ v.oneCell' = true ∧ Rel x w0.heap.size v c)
    {v : Value} {av : AV} (hv : ∀ x' : X, x'.bx (1000 + t) = w.heap.size → x'.bz (1000 + t) = (sz, 0) → Rel x' w0.heap.size v av) :
    ∃ x', St E x0 w0 pb nt x' (a.put (some t) v) (w.alloc (.cells vals ty)) ((s.setB (1000 + t) l).put t av) := by
  refine ⟨{ x with bx := fun m => if m = 1000 + t then w.heap.size else x.bx m, bz := fun m => if m = 1000 + t then (sz, 0) else x.bz m }, ?_⟩
  have up : ∀ {u : Value} {c : AV}, Rel x w0.heap.size u c → noB (1000 + t) c = true → Rel { x with bx := fun m => if m = 1000 + t then w.heap.size else x.bx m, bz := fun m => if m = 1000 + t then (sz, 0) else x.bz m } w0.heap.size u c := by
    intro u c r hn
    refine Rel.up (x := x) (x' := { x with bx := fun m => if m = 1000 + t then w.heap.size else x.bx m, bz := fun m => if m = 1000 + t then (sz, 0) else x.bz m }) (fun _ _ _ h => h) ⟨fun _ _ h => h, fun _ _ h => h, fun _ => rfl⟩ r (fun m hm => ?_) (fun _ _ _ _ => rfl)
    have : m ≠ 1000 + t := by rintro rfl; rw [hn] at hm; cases hm
    exact ⟨if_neg this, if_neg this⟩
  have hpb := h.pbl
  refine { df := by rw [defers_put]; exact h.df, nt := by rw [size_put]; exact h.nt, env := ?_, k := h.k, fr := fr_alloc h _, ag := agree_alloc h.ag _, g1 := h.g1, g2 := h.g2, pbx := fun n hn => ?_, pbl := h.pbl, bxs := ?_, inj := ?_, tl := ?_, tlb := ?_, jp := jok_alloc h.jp _, j0 := h.j0, jx := h.jx, uf := new_alloc h.uf _ _, rgb := fun t b hb => ⟨by have := (h.rgb t b hb).1; simp; omega, (h.rgb t b hb).2⟩, rgd := h.rgd, g0 := h.g0 }
  · intro u
    rw [getD_put]
    simp only [get_put, get_setB]
    by_cases hu : u = t
    · rw [if_pos ⟨hu, by rw [h.nt]; exact ht⟩, if_pos hu]
      exact hv _ (if_pos rfl) (if_pos rfl)
    · rw [if_neg (fun e => hu e.1), if_neg hu]
      exact up (h.env u) (noB_of hfree u hu)
  · have : n ≠ 1000 + t := by omega
    simp only [if_neg this]
    exact h.pbx n hn
  · intro n l' hn
    rw [bxs_put, look_setB] at hn
    by_cases hnn : n = 1000 + t
    · subst hnn
      rw [if_pos rfl] at hn
      obtain rfl := Option.some.inj hn
      refine ⟨⟨vals, ty, ?_, ?_, ?_, ?_⟩, ?_, ?_⟩
      · simp only [if_true]; exact alloc_new
      · simp only [if_true]; omega
      · simp only [if_true]; exact hsz
      · intro i e he
        simp only [if_true]
        obtain ⟨e1, e2⟩ := hcells i e he
        refine ⟨e1, fun j c hc => ?_⟩
        obtain ⟨e3, u, e4, e5, e6⟩ := e2 j c hc
        refine ⟨e3, u, by simpa using e4, e5, up e6 ?_⟩
        have h1 := noBL_all hl he
        cases e with
        | agg cs => exact noBL_all h1 hc
        | _ =>
          cases j with
          | zero => have := Option.some.inj hc; rw [← this]; exact h1
          | succ j => simp [AV.cells] at hc
      · right; simp only [if_true]; exact h.fr.2.2.2.1
      · intro o; simp only [if_true]; exact agree_new h.ag o
    · rw [if_neg hnn] at hn
      obtain ⟨g1, g2, g3⟩ := h.bxs n l' hn
      have hlt := box_lt h hn
      refine ⟨(BoxAt.up (x := x) (x' := { x with bx := fun m => if m = 1000 + t then w.heap.size else x.bx m, bz := fun m => if m = 1000 + t then (sz, 0) else x.bz m }) g1 (fun _ _ _ h => h) ⟨fun _ _ h => h, fun _ _ h => h, fun _ => rfl⟩ (if_neg hnn) (if_neg hnn) (fun m hm => ?_) (fun _ _ _ _ => rfl)).heap ?_, ?_, ?_⟩
      · have : m ≠ 1000 + t := by rintro rfl; rw [noB_box hfree hn] at hm; cases hm
        exact ⟨if_neg this, if_neg this⟩
      · simp only [if_neg hnn]; exact alloc_old hlt
      · simp only [if_neg hnn]; exact g2
      · simp only [if_neg hnn]; exact g3
  · intro n m ln lm hn hm e
    rw [bxs_put, look_setB] at hn hm
    by_cases h1 : n = 1000 + t
    · by_cases h2 : m = 1000 + t
      · rw [h1, h2]
      · rw [if_neg h2] at hm
        have hlt := box_lt h hm
        simp only [if_pos h1, if_neg h2] at e
        omega
    · rw [if_neg h1] at hn
      by_cases h2 : m = 1000 + t
      · have hlt := box_lt h hn
        simp only [if_pos h2, if_neg h1] at e
        omega
      · rw [if_neg h2] at hm
        simp only [if_neg h1, if_neg h2] at e
        exact h.inj n m ln lm hn hm e
  · refine ⟨fun c b e tt htt => ?_, h.tl.2⟩
    obtain ⟨t1, ⟨vals2, ty2, t2, t3⟩, t4⟩ := h.tl.1 c b e tt htt
    exact ⟨t1, ⟨vals2, ty2, (alloc_old (Array.getElem?_eq_some_iff.1 t2).1).trans t2, t3⟩, t4⟩
  · intro c b e tt htt n ln hn
    rw [bxs_put, look_setB] at hn
    obtain ⟨t1, ⟨vals2, ty2, t2, t3⟩, t4⟩ := h.tl.1 c b e tt htt
    have hlt := (Array.getElem?_eq_some_iff.1 t2).1
    by_cases h1 : n = 1000 + t
    · simp only [if_pos h1]; omega
    · rw [if_neg h1] at hn
      simp only [if_neg h1]
      exact h.tlb c b e tt htt n ln hn
/-- the known cells of a new row -/
def Gh.row (G : Gh) (b o : Nat) (f : Nat → Value) (n : Nat) : Gh := fun b' o' => if b' = b ∧ o ≤ o' ∧ o' < o + n then some (f (o' - o)) else G b' o'
/-- A row's new cells: in a new block, or behind what a class has. -/
theorem St.row (h : St E x0 w0 pb nt x a w s) {w' : World} {b o n c0 e1 t1 : Nat} {f : Nat → Value} {s' : AS} (hb : w0.heap.size ≤ b) (hnone : ∀ o', o ≤ o' → o' < o + n → x.G b o' = none)
    (hblk : ∃ vals ty, w'.heap[b]? = some (.cells vals ty (0, 0)) ∧ t1 ≤ vals.size ∧ (∀ k, k < n → vals[o + k]? = some (f k)) ∧ ∀ o' v, x.G b o' = some v → vals[o']? = some v)
    (hother : ∀ k, k ≠ b → k < w.heap.size → w'.heap[k]? = w.heap[k]?) (hsz : w.heap.size ≤ w'.heap.size) (ho : w'.os = w.os ∧ w'.tape = w.tape ∧ w'.output = w.output)
    (henv : ∀ u, Rel { x with G := x.G.row b o f n, tl := fun c => if c = c0 then some (b, e1, t1) else x.tl c } w0.heap.size (a.tmps.getD u undef) (s'.get u))
    (hbxs : ∀ m l', look s'.bxs m = some l' → (∃ l, look s.bxs m = some l) ∧ BoxAt { x with G := x.G.row b o f n, tl := fun c => if c = c0 then some (b, e1, t1) else x.tl c } w0.heap.size w m l')
    (hnob : ∀ m l, look s.bxs m = some l → x.bx m ≠ b) (he : ∀ o', e1 ≤ o' → (x.G.row b o f n) b o' = none) (huniq : ∀ c e t, x.tl c = some (b, e, t) → c = c0) (hnw : ∀ k, k ≠ b → w.heap.size ≤ k → w'.heap[k]? = none) :
    St E x0 w0 pb nt { x with G := x.G.row b o f n, tl := fun c => if c = c0 then some (b, e1, t1) else x.tl c } a w' s' := by
  have hG : ∀ b' o', b' ≠ b → (x.G.row b o f n) b' o' = x.G b' o' := by intro b' o' hne; unfold Gh.row; rw [if_neg (fun e => hne e.1)]
  have hGle : x.G.le (x.G.row b o f n) := by
    intro b' o' v hv
    unfold Gh.row
    split
    · rename_i hc
      obtain ⟨rfl, h1, h2⟩ := hc
      rw [hnone o' h1 h2] at hv; cases hv
    · exact hv
  obtain ⟨vals, ty, v1, v2, v3, v4⟩ := hblk
  refine { df := h.df, nt := h.nt, env := henv, k := h.k, fr := ?_, ag := ?_, g1 := fun b' o' v hv => hGle _ _ _ (h.g1 b' o' v hv), g2 := ?_, pbx := h.pbx, pbl := h.pbl, bxs := ?_, inj := ?_, tl := ?_, tlb := ?_, jp := ?_, j0 := h.j0, jx := h.jx, uf := ?_, rgb := fun t k hk => ⟨Nat.lt_of_lt_of_le (h.rgb t k hk).1 hsz, (h.rgb t k hk).2⟩, rgd := h.rgd, g0 := h.g0 }
  · exact h.fr.step ho.1 ho.2.1 ho.2.2 hsz fun k hk _ => hother k (by omega) (by have := h.fr.2.2.2.1; omega)
  · intro b' o' v hv
    by_cases hbb : b' = b
    · subst hbb
      refine ⟨vals, ty, (0, 0), v1, ?_⟩
      change (x.G.row b' o f n) b' o' = some v at hv
      unfold Gh.row at hv
      split at hv
      · rename_i hc
        obtain rfl := Option.some.inj hv
        have := v3 (o' - o) (by omega)
        rwa [show o + (o' - o) = o' by omega] at this
      · exact v4 o' v hv
    · have hv' : x.G b' o' = some v := by rw [← hG b' o' hbb]; exact hv
      obtain ⟨c, ty', fz, g1, g2⟩ := h.ag b' o' v hv'
      exact ⟨c, ty', fz, (hother b' hbb (agree_lt h.ag hv')).trans g1, g2⟩
  · intro b' o' v hv hlt
    have hbb : b' ≠ b := by omega
    exact h.g2 b' o' v (by rw [← hG b' o' hbb]; exact hv) hlt
  · intro m l' hm
    obtain ⟨⟨l, hl⟩, hbx⟩ := hbxs m l' hm
    obtain ⟨g1, g2, g3⟩ := h.bxs m l hl
    have hne := hnob m l hl
    refine ⟨hbx.heap (hother _ hne (box_lt h hl)), g2, fun o' => ?_⟩
    exact (hG _ _ hne).trans (g3 o')
  · intro m k lm lk hm hk e
    obtain ⟨⟨l1, h1⟩, _⟩ := hbxs m lm hm
    obtain ⟨⟨l2, h2⟩, _⟩ := hbxs k lk hk
    exact h.inj m k l1 l2 h1 h2 e
  · refine ⟨fun c b' e t ht => ?_, fun c c' b' e t e' t' ht ht' => ?_⟩
    · by_cases hc : c = c0
      · simp only [if_pos hc] at ht
        obtain ⟨rfl, rfl, rfl⟩ : b = b' ∧ e1 = e ∧ t1 = t := by simpa using ht
        exact ⟨hb, ⟨vals, ty, v1, v2⟩, he⟩
      · simp only [if_neg hc] at ht
        obtain ⟨t1', ⟨vals2, ty2, t2, t3⟩, t4⟩ := h.tl.1 c b' e t ht
        have hbb : b' ≠ b := by rintro rfl; exact hc (huniq c e t ht)
        exact ⟨t1', ⟨vals2, ty2, (hother b' hbb (Array.getElem?_eq_some_iff.1 t2).1).trans t2, t3⟩, fun o' ho' => (hG _ _ hbb).trans (t4 o' ho')⟩
    · by_cases hc : c = c0
      · by_cases hc' : c' = c0
        · rw [hc, hc']
        · simp only [if_pos hc, if_neg hc'] at ht ht'
          obtain ⟨rfl, _, _⟩ : b = b' ∧ e1 = e ∧ t1 = t := by simpa using ht
          exact (hc' (huniq c' e' t' ht')).elim
      · by_cases hc' : c' = c0
        · simp only [if_neg hc, if_pos hc'] at ht ht'
          obtain ⟨rfl, _, _⟩ : b = b' ∧ e1 = e' ∧ t1 = t' := by simpa using ht'
          exact (hc (huniq c e t ht)).elim
        · simp only [if_neg hc, if_neg hc'] at ht ht'
          exact h.tl.2 c c' b' e t e' t' ht ht'
  · intro c b' e t ht m l' hm
    obtain ⟨⟨l, hl⟩, _⟩ := hbxs m l' hm
    by_cases hc : c = c0
    · simp only [if_pos hc] at ht
      obtain ⟨rfl, _, _⟩ : b = b' ∧ e1 = e ∧ t1 = t := by simpa using ht
      exact hnob m l hl
    · simp only [if_neg hc] at ht
      exact h.tlb c b' e t ht m l hl
  · intro b' o' hj
    obtain ⟨vs, t, q1, q2⟩ := h.jp b' o' hj
    have := (h.j0 b' o' hj).1
    exact ⟨vs, t, (hother b' (by omega) (Array.getElem?_eq_some_iff.1 q1).1).trans q1, q2⟩
  · intro k vs t fz hk hh
    by_cases hkb : k = b
    · subst hkb
      rw [v1] at hh
      injection hh with hh; injection hh with _ _ e3; exact e3.symm
    · rcases Nat.lt_or_ge k w.heap.size with hl | hl
      · rw [hother k hkb hl] at hh; exact h.uf k vs t fz hk hh
      · rw [hnw k hkb hl] at hh; cases hh
end
end Go.Proofs.Ytpopccnnjpdmlaa.Vm
