/- An abstract machine over values: the orders of a region, first part: handing on. -/
import Derived.Test.YtpopccnnjpdmlaaVmR
namespace Go.Proofs.Ytpopccnnjpdmlaa.Vm
open Go Go.RowKit
set_option linter.unusedVariables false
set_option linter.unusedSimpArgs false
theorem keep_putO (s : AS) (d : Option Nat) (v : AV) : Keep s (s.putO d v) d := by
  refine ⟨?_, fun t _ h => by rw [bxs_putO]; exact h⟩
  intro t ht h
  cases d with
  | none => exact h
  | some u =>
    simp only [AS.putO, get_put]
    rw [if_neg (fun e => ht (by rw [e]))]
    exact h
theorem keep_put (s : AS) (t : Nat) (v : AV) : Keep s (s.put t v) (some t) := keep_putO s (some t) v
theorem keep_setB {s s' : AS} {d : Option Nat} {n : Nat} {l : List AV} (h : Keep (s.setB n l) s' d) (hn : (∃ t, d = some t ∧ n = 1000 + t) ∨ look s.bxs n ≠ none) : Keep s s' d := by
  refine ⟨h.1, fun t ht h' => h.2 t ht ?_⟩
  rw [look_setB]
  split
  · rename_i e
    subst e
    rcases hn with ⟨u, rfl, hu⟩ | hn
    · exact absurd (by rw [show u = t by omega]) ht
    · exact absurd h' hn
  · exact h'
theorem setBs_absent {m : Nat} : ∀ (ns : List Nat) (ls : List (List AV)) (s : AS), (∀ n ∈ ns, n ≠ m) → look (setBs s ns ls).bxs m = look s.bxs m
  | [], ls, s, _ => rfl
  | n :: ns, [], s, _ => rfl
  | n :: ns, l :: ls, s, h => by
    simp only [setBs]
    rw [setBs_absent ns ls _ (fun k hk => h k (List.mem_cons_of_mem _ hk)), look_setB, if_neg (fun e => h n List.mem_cons_self e.symm)]
theorem keep_setBs {s s' : AS} {d : Option Nat} {ns : List Nat} {ls bs : List (List AV)} (h : Keep (setBs s ns ls) s' d) (hb : bxsOf s ns = some bs) : Keep s s' d := by
  refine ⟨fun t ht h' => h.1 t ht (by rw [setBs_get]; exact h'), fun t ht h' => h.2 t ht ?_⟩
  rw [setBs_absent]
  · exact h'
  · rintro n hn rfl
    obtain ⟨b1, b2⟩ := bxsOf_get hb
    obtain ⟨k, hk, hkn⟩ := List.getElem_of_mem hn
    obtain ⟨m, hm, hl⟩ := b2 k (bs[k]'(by omega)) (List.getElem?_eq_getElem (by omega))
    rw [List.getElem?_eq_getElem hk, hkn] at hm
    obtain rfl := Option.some.inj hm
    rw [h'] at hl; cases hl
theorem keep_dem {s s' : AS} {d : Option Nat} {c : Nat} (h : Keep (s.dem c) s' d) : Keep s s' d := by
  refine ⟨fun t ht h' => h.1 t ht (by rw [get_dem, h']; rfl), fun t ht h' => h.2 t ht ?_⟩
  show look (mapV _ _) _ = none
  rw [look_mapV, h']; rfl
section
variable {E : Env} {s : AS} {d : Option Nat}
theorem vcall_mono {q : Bool} {f : Nat} {vs : List AV} {Q Q' : AS → Prop} (h : vcall E q s d f vs Q) (hm : ∀ s', Q s' → Keep s s' d → Q' s') : vcall E q s d f vs Q' := by
  obtain ⟨h1, h2, t, rfl, h4, bs, h5, h6, bs', r, h7, h8, h9⟩ := h
  exact ⟨h1, h2, t, rfl, h4, bs, h5, h6, bs', r, h7, h8, hm _ h9 (keep_setBs (keep_put _ _ _) h5)⟩
theorem vcall2_mono {q : Bool} {f : Nat} {vs : List AV} {Q Q' : AS → Prop} (h : vcall2 E q s d f vs Q) (hm : ∀ s', Q s' → Keep s s' d → Q' s') : vcall2 E q s d f vs Q' := by
  rcases h with h | ⟨h1, h⟩
  · exact .inl (vcall_mono h hm)
  · refine .inr ⟨h1, fun x0 w0 pb nt x a w hs hK hd args hl hr => (h x0 w0 pb nt x a w hs hK hd args hl hr).mono ?_⟩
    rintro e w' ⟨v, x', s', rfl, hq, hk, hst⟩
    exact ⟨v, x', s', rfl, hm _ hq hk, hk, hst⟩
theorem vact_mono {k : VK} {Q Q' : AS → Prop} (h : vact E s d Q k) (hm : ∀ s', Q s' → Keep s s' d → Q' s') : vact E s d Q' k := by
  have p : ∀ v, Q (s.putO d v) → Q' (s.putO d v) := fun v h => hm _ h (keep_putO s d v)
  cases k with
  | mv x => exact p _ h
  | as x => exact p _ h
  | pick c a b => obtain ⟨t, h1, h2⟩ := h; exact ⟨t, h1, p _ h2⟩
  | bin op ty x y => obtain ⟨t, h1, h2⟩ := h; exact ⟨t, h1, p _ h2⟩
  | un op x => obtain ⟨t, h1, h2⟩ := h; exact ⟨t, h1, p _ h2⟩
  | len b x => obtain ⟨t, h1, h2⟩ := h; exact ⟨t, h1, p _ h2⟩
  | idx x i => obtain ⟨b, k, j, h1, h2, h3, h4, h5⟩ := h; exact ⟨b, k, j, h1, h2, h3, h4, p _ h5⟩
  | ia sz x i =>
    obtain ⟨k, j, h1, h2, h⟩ := h
    refine ⟨k, j, h1, h2, ?_⟩
    cases hx : s.val x <;> rw [hx] at h <;> simp only at h ⊢
    · obtain ⟨g1, e, g2, g3⟩ := h; exact ⟨g1, e, g2, p _ g3⟩
    · obtain ⟨g1, g2, g3⟩ := h; exact ⟨g1, g2, p _ g3⟩
    · obtain ⟨g1, e, g2, g3⟩ := h; exact ⟨g1, e, g2, p _ g3⟩
  | fa off x =>
    simp only [vact] at h ⊢
    cases hx : s.val x <;> rw [hx] at h <;> simp only at h ⊢
    · exact p _ h
    · exact ⟨h.1, p _ h.2⟩
    · exact ⟨h.1, p _ h.2⟩
  | ld ag sz x =>
    simp only [vact] at h ⊢
    cases hx : s.val x <;> rw [hx] at h <;> simp only at h ⊢
    · obtain ⟨l, e, h1, h2, h⟩ := h
      refine ⟨l, e, h1, h2, ?_⟩
      cases ag
      · simp only [Bool.false_eq_true, if_false] at h ⊢
        obtain ⟨c, h3, h4⟩ := h; exact ⟨c, h3, p _ h4⟩
      · simp only [if_true] at h ⊢
        exact ⟨h.1, p _ h.2⟩
    · cases ag
      · simp only [Bool.false_eq_true, if_false] at h ⊢
        obtain ⟨c, h3, h4⟩ := h; exact ⟨c, h3, p _ h4⟩
      · simp only [if_true] at h ⊢
        exact ⟨h.1, p _ h.2⟩
    · obtain ⟨g1, z, ys, g2, g3⟩ := h; exact ⟨g1, z, ys, g2, p _ g3⟩
  | st sz a x =>
    rcases h with ⟨n, i, o, h1, l, e, h2, h3, h4, h5, h6, h7, h8⟩ | ⟨c, cs, h1, h2, h3, h4, h5, h6⟩
    · exact .inl ⟨n, i, o, h1, l, e, h2, h3, h4, h5, h6, h7, hm _ h8 (keep_setB (keep_putO _ _ _) (.inr (by rw [h2]; simp)))⟩
    · exact .inr ⟨c, cs, h1, h2, h3, h4, h5, p _ h6⟩
  | box sz x =>
    obtain ⟨t, rfl, h2, h3, h4, h5, h6, h7⟩ := h
    exact ⟨t, rfl, h2, h3, h4, h5, h6, hm _ h7 (keep_setB (keep_put _ _ _) (.inl ⟨t, rfl, rfl⟩))⟩
  | alloc z =>
    obtain ⟨t, rfl, h2, h3, h4, h5, h6⟩ := h
    exact ⟨t, rfl, h2, h3, h4, h5, hm _ h6 (keep_setB (keep_put _ _ _) (.inl ⟨t, rfl, rfl⟩))⟩
  | bld z ps => obtain ⟨h1, cs, h2, h3⟩ := h; exact ⟨h1, cs, h2, p _ h3⟩
  | bsl sz xs =>
    obtain ⟨t, rfl, h2, h3, h4⟩ := h
    exact ⟨t, rfl, h2, h3, hm _ h4 (keep_put _ _ _)⟩
  | slS x lo hi => obtain ⟨b, h1, l, h', h2, h3⟩ := h; exact ⟨b, h1, l, h', h2, p _ h3⟩
  | slL sz x lo hi => obtain ⟨m, z, xs, h1, h2, l, h', h3, h4⟩ := h; exact ⟨m, z, xs, h1, h2, l, h', h3, p _ h4⟩
  | app sz byt x y =>
    obtain ⟨m, z, xs, h1, m2, z2, ys, h2, h3, h4, h5, h⟩ := h
    refine ⟨m, z, xs, h1, m2, z2, ys, h2, h3, h4, h5, ?_⟩
    cases hm' : m.ap <;> rw [hm'] at h <;> simp only at h ⊢
    · obtain ⟨t, rfl, g1, g2⟩ := h
      exact ⟨t, rfl, g1, hm _ g2 (keep_put _ _ _)⟩
    · exact ⟨h.1, hm _ h.2 (keep_dem (keep_putO _ _ _))⟩
  | mks sz byt z n =>
    obtain ⟨t, k, j, rfl, h2, h3, h4, h5, h6, h7, h8, h9, h10⟩ := h
    exact ⟨t, k, j, rfl, h2, h3, h4, h5, h6, h7, h8, h9, hm _ h10 (keep_setB (keep_put _ _ _) (.inl ⟨t, rfl, rfl⟩))⟩
  | ext x i => obtain ⟨cs, c, h1, h2, h3⟩ := h; exact ⟨cs, c, h1, h2, p _ h3⟩
  | call q f as =>
    exact vcall2_mono h hm
  | callv q x as => obtain ⟨f, cs, h1, h2, h3⟩ := h; exact ⟨f, cs, h1, h2, vcall2_mono h3 hm⟩
  | mkf f as => exact p _ h
  | cvI k x => obtain ⟨k', j, h1, h2⟩ := h; exact ⟨k', j, h1, p _ h2⟩
  | b2s x => obtain ⟨m, z, xs, l, h1, h2, h3, h4⟩ := h; exact ⟨m, z, xs, l, h1, h2, h3, p _ h4⟩
  | cvS x => obtain ⟨b, h1, h2⟩ := h; exact ⟨b, h1, p _ h2⟩
  | isn neg x => obtain ⟨m, z, xs, h1, h2⟩ := h; exact ⟨m, z, xs, h1, fun b hb => p _ (h2 b hb)⟩
  | slM sz x => obtain ⟨m, z, xs, h1, h2⟩ := h; exact ⟨m, z, xs, h1, p _ h2⟩
theorem vop_mono {o : VO} {Q Q' : AS → Prop} (h : vop E o s Q) (hm : ∀ s', Q s' → Keep s s' o.d → Q' s') : vop E o s Q' := by
  unfold vop at *
  split at h
  · exact vact_mono h hm
  · obtain ⟨b, hb, h⟩ := h
    refine ⟨b, hb, ?_⟩
    split at h
    · rename_i e; rw [if_pos e]; exact vact_mono h hm
    · rename_i e; rw [if_neg e]; exact hm _ h (keep_putO _ _ _)
end
end Go.Proofs.Ytpopccnnjpdmlaa.Vm
