/- An abstract machine over values: what a write, a new box, a new row leaves of the state. -/
import Derived.Test.YtpopccnnjpdmlaaVmE
namespace Go.Proofs.Ytpopccnnjpdmlaa.Vm
open Go Go.RowKit
set_option linter.unusedVariables false
set_option linter.unusedSimpArgs false
theorem upd_len {α : Type} (l : List α) (off : Nat) (v : List α) (h : off + v.length ≤ l.length) : (upd l off v).length = l.length := by
  unfold upd; simp; omega
theorem upd_get {α : Type} (l : List α) (off : Nat) (v : List α) (h : off + v.length ≤ l.length) (j : Nat) : (upd l off v)[j]? = if off ≤ j ∧ j < off + v.length then v[j - off]? else l[j]? := by
  unfold upd
  have h1 : (l.take off).length = off := by simp; omega
  by_cases hj : j < off
  · rw [if_neg (by omega), List.append_assoc, List.getElem?_append_left (by omega), List.getElem?_take_of_lt hj]
  · by_cases hj2 : j < off + v.length
    · rw [if_pos ⟨by omega, hj2⟩, List.append_assoc, List.getElem?_append_right (by omega), h1, List.getElem?_append_left (by omega)]
    · rw [if_neg (by omega), List.getElem?_append_right (by simp; omega), List.getElem?_drop]
      congr 1
      simp
      omega
theorem putElem_cells (e : AV) (off : Nat) (v : AV) (h : off + v.cells.length ≤ e.cells.length) (h0 : 0 < v.cells.length) : (putElem e off v).cells = upd e.cells off v.cells := by
  have leaf : e.cells = [e] → putElem e off v = v → (putElem e off v).cells = upd e.cells off v.cells := by
    intro h1 h2
    rw [h2, h1]
    rw [h1] at h
    simp at h
    have : off = 0 := by omega
    subst this
    unfold upd
    have : v.cells.length = 1 := by omega
    simp [this]
  cases e <;> first | rfl | exact leaf rfl rfl
theorem BoxAt.heap {x : X} {base : Nat} {w w' : World} {n : Nat} {l : List AV} (h : BoxAt x base w n l) (hw : w'.heap[x.bx n]? = w.heap[x.bx n]?) : BoxAt x base w' n l := by
  obtain ⟨vals, ty, h1, h2⟩ := h
  exact ⟨vals, ty, hw.trans h1, h2⟩
theorem BoxAt.up {x x' : X} {base : Nat} {w : World} {n : Nat} {l : List AV} (h : BoxAt x base w n l) (hG : x.G.le x'.G) (hR : x.up x') (h1 : x'.bx n = x.bx n) (h2 : x'.bz n = x.bz n)
    (hb : ∀ m, noB.noL m l = false → x'.bx m = x.bx m ∧ x'.bz m = x.bz m) (hc : ∀ d, noC.noL d l = false → ∀ c, c / 64 = d → x'.tl c = x.tl c) : BoxAt x' base w n l := by
  obtain ⟨vals, ty, e1, e2, e3, e4⟩ := h
  refine ⟨vals, ty, by rw [h1]; exact e1, by rw [h2]; exact e2, by rw [h2]; exact e3, fun i e he => ?_⟩
  obtain ⟨e5, e6⟩ := e4 i e he
  refine ⟨by rw [h2]; exact e5, fun j c hcj => ?_⟩
  obtain ⟨e7, v, e8, e9, e10⟩ := e6 j c hcj
  have sub : ∀ m, noB m c = false → noB m e = false := by
    intro m hm
    cases e with
    | agg cs => exact noBL_get hcj hm
    | _ =>
      cases j with
      | zero => have := Option.some.inj hcj; rw [this]; exact hm
      | succ j => simp [AV.cells] at hcj
  have sub2 : ∀ m, noC m c = false → noC m e = false := by
    intro m hm
    cases e with
    | agg cs => exact noCL_get hcj hm
    | _ =>
      cases j with
      | zero => have := Option.some.inj hcj; rw [this]; exact hm
      | succ j => simp [AV.cells] at hcj
  exact ⟨e7, v, by rw [h2]; exact e8, e9, e10.up hG hR (fun m hm => hb m (noBL_get he (sub m hm))) (fun d hd => hc d (noCL_get he (sub2 d hd)))⟩
theorem look_setB (s : AS) (n m : Nat) (l : List AV) : look (s.setB n l).bxs m = if m = n then some l else look s.bxs m := look_setL n m l s.bxs
section
variable {E : Env} {x0 x : X} {w0 w : World} {pb nt : Nat} {a : Act} {s : AS}
theorem Fr.step {base : Nat} {S : Nat → Prop} {w0 w w' : World} (h : Fr base S w0 w) (h1 : w'.os = w.os) (h2 : w'.tape = w.tape) (h3 : w'.output = w.output) (h4 : w.heap.size ≤ w'.heap.size) (h5 : ∀ k, k < base → ¬ S k → w'.heap[k]? = w.heap[k]?) : Fr base S w0 w' :=
  ⟨h1.trans h.1, h2.trans h.2.1, h3.trans h.2.2.1, Nat.le_trans h.2.2.2.1 h4, fun k hk hs => (h5 k hk hs).trans (h.2.2.2.2 k hk hs)⟩
theorem box_lt (h : St E x0 w0 pb nt x a w s) {n : Nat} {l : List AV} (hl : look s.bxs n = some l) : x.bx n < w.heap.size := by
  obtain ⟨vals, ty, h1, _⟩ := (h.bxs n l hl).1
  exact (Array.getElem?_eq_some_iff.1 h1).1
theorem jok_set {J : Nat → Nat → Prop} {w w' : World} {b : Nat} {vals vals' : Array Value} {ty : Nat} (h : JOk J w) (s1 : w'.heap[b]? = some (.cells vals' ty (0, 0))) (s2 : vals'.size = vals.size) (s4 : ∀ k, k ≠ b → w'.heap[k]? = w.heap[k]?) (b1 : w.heap[b]? = some (.cells vals ty (0, 0))) : JOk J w' := by
  intro c o hc
  obtain ⟨vs, t, h1, h2⟩ := h c o hc
  by_cases e : c = b
  · subst e
    rw [b1] at h1
    obtain ⟨rfl, rfl⟩ : vals = vs ∧ ty = t := by injection h1 with h1; injection h1 with e1 e2; exact ⟨e1, e2⟩
    exact ⟨vals', ty, s1, by omega⟩
  · exact ⟨vs, t, (s4 c e).trans h1, h2⟩
theorem new_set {base : Nat} {w w' : World} {b : Nat} {vals' : Array Value} {ty : Nat} (h : New00 base w) (s1 : w'.heap[b]? = some (.cells vals' ty (0, 0))) (s4 : ∀ k, k ≠ b → w'.heap[k]? = w.heap[k]?) : New00 base w' := by
  intro c vs t fz hc hh
  by_cases e : c = b
  · subst e
    rw [s1] at hh
    injection hh with hh; injection hh with _ _ e3; exact e3.symm
  · rw [s4 c e] at hh
    exact h c vs t fz hc hh
theorem jok_alloc {J : Nat → Nat → Prop} {w : World} (h : JOk J w) (o : Obj) : JOk J (w.alloc o) := by
  intro b c hc
  obtain ⟨vs, t, h1, h2⟩ := h b c hc
  exact ⟨vs, t, (alloc_old (Array.getElem?_eq_some_iff.1 h1).1).trans h1, h2⟩
theorem new_alloc {base : Nat} {w : World} (h : New00 base w) (vals : Array Value) (ty : Nat) : New00 base (w.alloc (.cells vals ty)) := by
  intro b vs t fz hb hh
  rcases Nat.lt_trichotomy b w.heap.size with e | e | e
  · rw [alloc_old e] at hh; exact h b vs t fz hb hh
  · subst e
    rw [alloc_new] at hh
    injection hh with hh; injection hh with _ _ e3; exact e3.symm
  · have := (Array.getElem?_eq_some_iff.1 hh).1
    simp at this; omega
/-- A store into a box. -/
theorem St.store (h : St E x0 w0 pb nt x a w s) {n i o : Nat} {l : List AV} {e av : AV} {v : Value} (hl : look s.bxs n = some l) (he : l[i]? = some e) (r : Rel x w0.heap.size v av) (hok : av.cells.all okC = true) (h0 : 0 < av.cells.length) (hfit : o + av.cells.length ≤ e.cells.length) :
    (∃ vals ty, w.heap[x.bx n]? = some (.cells vals ty (0, 0)) ∧ (x.bz n).2 + i * (x.bz n).1 + o + v.cells.size ≤ vals.size) ∧
    St E x0 w0 pb nt x a (w.setCells (x.bx n) ((x.bz n).2 + i * (x.bz n).1 + o) v.cells.toList) (s.setB n (l.set i (putElem e o av))) := by
  obtain ⟨⟨vals, ty, b1, b2, b3, b4⟩, hwhere, hG⟩ := h.bxs n l hl
  obtain ⟨c1, c2, c3⟩ := rel_cells r hok
  obtain ⟨b5, b6⟩ := b4 i e he
  have hi : i < l.length := (List.getElem?_eq_some_iff.1 he).1
  have hmul : (i + 1) * (x.bz n).1 ≤ l.length * (x.bz n).1 := Nat.mul_le_mul_right _ hi
  have hfit2 : (x.bz n).2 + i * (x.bz n).1 + o + v.cells.size ≤ vals.size := by
    rw [c1]
    rw [Nat.add_mul] at hmul
    omega
  refine ⟨⟨vals, ty, b1, hfit2⟩, ?_⟩
  obtain ⟨vals', s1, s2, s3, s4, s5, s6, s7, s8⟩ := setCells_spec (x.bx n) v.cells.toList ((x.bz n).2 + i * (x.bz n).1 + o) w vals ty (0, 0) b1 (by simpa using hfit2)
  have hlen : v.cells.toList.length = av.cells.length := by simpa using c1
  refine { h with env := h.env, fr := ?_, ag := ?_, bxs := ?_, inj := ?_, tl := ?_, tlb := ?_, jp := ?_, uf := ?_, rgb := ?_ }
  · refine h.fr.step s6 s7 s8 (by omega) fun k hk hs => s4 k ?_
    rintro rfl
    rcases hwhere with hp | hp
    · exact hs (.inl ⟨n, hp, (h.pbx n hp).1⟩)
    · omega
  · intro b o' u hu
    have hne : b ≠ x.bx n := by rintro rfl; rw [hG o'] at hu; cases hu
    obtain ⟨c, ty', fz, g1, g2⟩ := h.ag b o' u hu
    exact ⟨c, ty', fz, (s4 b hne).trans g1, g2⟩
  · intro m l' hm
    rw [look_setB] at hm
    by_cases hmn : m = n
    · subst hmn
      rw [if_pos rfl] at hm
      obtain rfl := Option.some.inj hm
      refine ⟨⟨vals', ty, s1, by rw [s2]; simpa using b2, b3, fun k e' he' => ?_⟩, hwhere, hG⟩
      by_cases hk : k = i
      · subst hk
        rw [List.getElem?_set_self hi] at he'
        obtain rfl := Option.some.inj he'
        rw [putElem_cells e o av hfit h0]
        refine ⟨by rw [upd_len _ _ _ hfit]; exact b5, fun j c hc => ?_⟩
        rw [upd_get _ _ _ hfit] at hc
        rw [s3, hlen]
        by_cases hj : o ≤ j ∧ j < o + av.cells.length
        · rw [if_pos hj] at hc
          rw [if_pos (by omega), show (x.bz m).2 + k * (x.bz m).1 + j - ((x.bz m).2 + k * (x.bz m).1 + o) = j - o by omega]
          obtain ⟨u, hu, hr, h1⟩ := c2 (j - o) c hc
          exact ⟨List.all_eq_true.1 hok c (List.mem_of_getElem? hc), u, by simpa using hu, h1, hr⟩
        · rw [if_neg hj] at hc
          rw [if_neg (by omega)]
          exact b6 j c hc
      · rw [List.getElem?_set_ne (fun e => hk e.symm)] at he'
        obtain ⟨b7, b8⟩ := b4 k e' he'
        refine ⟨b7, fun j c hc => ?_⟩
        obtain ⟨d1, u, d2, d3, d4⟩ := b8 j c hc
        have hjlt : j < e'.cells.length := (List.getElem?_eq_some_iff.1 hc).1
        refine ⟨d1, u, ?_, d3, d4⟩
        rw [s3, if_neg, d2]
        rw [hlen]
        rcases Nat.lt_or_gt_of_ne hk with hlt | hgt
        · have : (k + 1) * (x.bz m).1 ≤ i * (x.bz m).1 := Nat.mul_le_mul_right _ hlt
          rw [Nat.add_mul] at this
          omega
        · have : (i + 1) * (x.bz m).1 ≤ k * (x.bz m).1 := Nat.mul_le_mul_right _ hgt
          rw [Nat.add_mul] at this
          omega
    · rw [if_neg hmn] at hm
      obtain ⟨g1, g2, g3⟩ := h.bxs m l' hm
      exact ⟨g1.heap (s4 _ (fun e => hmn (h.inj m n l' l hm hl e))), g2, g3⟩
  · intro m k lm lk hm hk e
    rw [look_setB] at hm hk
    have h1 : ∃ l', look s.bxs m = some l' := by
      by_cases hmn : m = n
      · exact ⟨l, by rw [hmn]; exact hl⟩
      · rw [if_neg hmn] at hm; exact ⟨lm, hm⟩
    have h2 : ∃ l', look s.bxs k = some l' := by
      by_cases hmn : k = n
      · exact ⟨l, by rw [hmn]; exact hl⟩
      · rw [if_neg hmn] at hk; exact ⟨lk, hk⟩
    obtain ⟨l1, h1⟩ := h1
    obtain ⟨l2, h2⟩ := h2
    exact h.inj m k l1 l2 h1 h2 e
  · refine ⟨fun c b e' t ht => ?_, h.tl.2⟩
    obtain ⟨t1, ⟨vals2, ty2, t2, t3⟩, t4⟩ := h.tl.1 c b e' t ht
    exact ⟨t1, ⟨vals2, ty2, (s4 b (fun eq => h.tlb c b e' t ht n l hl eq.symm)).trans t2, t3⟩, t4⟩
  · intro c b e' t ht m lm hm
    rw [look_setB] at hm
    by_cases hmn : m = n
    · rw [hmn]; exact h.tlb c b e' t ht n l hl
    · rw [if_neg hmn] at hm; exact h.tlb c b e' t ht m lm hm
  · exact jok_set h.jp s1 s2 s4 b1
  · exact new_set h.uf s1 s4
  · intro t b hb
    obtain ⟨r1, r2⟩ := h.rgb t b hb
    exact ⟨by omega, r2⟩
/-- A store into junk. -/
theorem St.storeJ (h : St E x0 w0 pb nt x a w s) {b o : Nat} (hj : x.J b o) (v : Value) : ∃ vals ty, w.heap[b]? = some (.cells vals ty (0, 0)) ∧ o < vals.size ∧ St E x0 w0 pb nt x a (w.setCells b o [v]) s := by
  have hj' := hj
  rw [h.jx] at hj'
  obtain ⟨vals, ty, b1, b2⟩ := h.jp b o hj'
  obtain ⟨j1, j2, j3, j4⟩ := h.j0 b o hj'
  have hG : x.G b o = none := by
    cases hx : x.G b o with
    | none => rfl
    | some u => rw [h.g2 b o u hx j1] at j3; cases j3
  have hbox : ∀ n l, look s.bxs n = some l → x.bx n ≠ b := by
    intro n l hl
    rcases (h.bxs n l hl).2.1 with hp | hp
    · rw [(h.pbx n hp).1]; exact j4 n hp
    · omega
  obtain ⟨vals', s1, s2, s3, s4, s5, s6, s7, s8⟩ := setCells_spec b [v] o w vals ty (0, 0) b1 (by simp; omega)
  refine ⟨vals, ty, b1, b2, { h with env := h.env, fr := ?_, ag := ?_, bxs := ?_, tl := ?_, jp := jok_set h.jp s1 s2 s4 b1, uf := new_set h.uf s1 s4, rgb := fun t k hk => ⟨by have := (h.rgb t k hk).1; omega, (h.rgb t k hk).2⟩ }⟩
  · exact h.fr.step s6 s7 s8 (by omega) fun k hk hs => s4 k (by rintro rfl; exact hs (.inr ⟨o, hj'⟩))
  · intro b' o' u hu
    obtain ⟨c, ty', fz, g1, g2⟩ := h.ag b' o' u hu
    by_cases hb : b' = b
    · subst hb
      rw [b1] at g1
      injection g1 with g1; injection g1 with e1 e2 e3
      subst e1
      refine ⟨vals', ty, (0, 0), s1, ?_⟩
      rw [s3, if_neg, g2]
      rintro ⟨q1, q2⟩
      obtain rfl : o' = o := by simp at q2; omega
      rw [hG] at hu; cases hu
    · exact ⟨c, ty', fz, (s4 b' hb).trans g1, g2⟩
  · intro n l hl
    obtain ⟨g1, g2, g3⟩ := h.bxs n l hl
    exact ⟨g1.heap (s4 _ (hbox n l hl)), g2, g3⟩
  · refine ⟨fun c b' e t ht => ?_, h.tl.2⟩
    obtain ⟨t1, ⟨vals2, ty2, t2, t3⟩, t4⟩ := h.tl.1 c b' e t ht
    exact ⟨t1, ⟨vals2, ty2, (s4 b' (by omega)).trans t2, t3⟩, t4⟩
theorem noB_of {n m : Nat} (h : (s.putO (some n) .un).noB m = true) (u : Nat) (hu : u ≠ n) : noB m (s.get u) = true := by
  simp only [AS.noB, Bool.and_eq_true] at h
  unfold AS.get
  cases hl : look s.env u with
  | none => rfl
  | some v =>
    have : look (s.putO (some n) .un).env u = some v := by
      show look (setL n .un s.env) u = _
      rw [look_setL, if_neg hu, hl]
    exact allV_get h.1 this
theorem noB_box {n m : Nat} (h : (s.putO (some n) .un).noB m = true) {k : Nat} {l : List AV} (hl : look s.bxs k = some l) : noB.noL m l = true := by
  simp only [AS.noB, Bool.and_eq_true] at h
  exact allV_get h.2 hl
theorem noC_of {n m : Nat} (h : (s.putO (some n) .un).noC m = true) (u : Nat) (hu : u ≠ n) : noC m (s.get u) = true := by
  simp only [AS.noC, Bool.and_eq_true] at h
  unfold AS.get
  cases hl : look s.env u with
  | none => rfl
  | some v =>
    have : look (s.putO (some n) .un).env u = some v := by
      show look (setL n .un s.env) u = _
      rw [look_setL, if_neg hu, hl]
    exact allV_get h.1 this
theorem noC_box {n m : Nat} (h : (s.putO (some n) .un).noC m = true) {k : Nat} {l : List AV} (hl : look s.bxs k = some l) : noC.noL m l = true := by
  simp only [AS.noC, Bool.and_eq_true] at h
  exact allV_get h.2 hl
end
end Go.Proofs.Ytpopccnnjpdmlaa.Vm
