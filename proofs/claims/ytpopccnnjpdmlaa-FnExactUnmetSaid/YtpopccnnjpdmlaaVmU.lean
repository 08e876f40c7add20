/- An abstract machine over values: the orders of a region, third part: two operations change places. -/
import Derived.Test.YtpopccnnjpdmlaaVmT
namespace Go.Proofs.Ytpopccnnjpdmlaa.Vm
open Go Go.RowKit
set_option linter.unusedVariables false
set_option linter.unusedSimpArgs false
/-- its classes and its boxes -/
def ok1 (pc pb : Nat → Bool) : AV → Bool
  | .sl m _ _ => match m.ap with
    | .cl c => pc c
    | _ => true
  | .ptr n _ _ => pb n
  | .bs n _ _ => pb n
  | .agg cs => okL pc pb cs
  | .tup cs => okL pc pb cs
  | .fn _ cs => okL pc pb cs
  | _ => true
where okL (pc pb : Nat → Bool) : List AV → Bool
  | [] => true
  | c :: cs => ok1 pc pb c && okL pc pb cs
theorem ok1_noC (d : Nat) : ∀ (c : AV), noC d c = ok1 (fun k => k / 64 != d) (fun _ => true) c := by
  intro c
  refine AV.rec (motive_1 := fun c => noC d c = ok1 (fun k => k / 64 != d) (fun _ => true) c) (motive_2 := fun cs => noC.noL d cs = ok1.okL (fun k => k / 64 != d) (fun _ => true) cs) ?_ ?_ ?_ ?_ ?_ ?_ ?_ ?_ ?_ ?_ ?_ ?_ ?_ c
  all_goals (intros; try rfl)
  all_goals (simp only [noC, ok1, noC.noL, ok1.okL]; try assumption)
  all_goals simp_all
theorem okL_noC (d : Nat) : ∀ (cs : List AV), noC.noL d cs = ok1.okL (fun k => k / 64 != d) (fun _ => true) cs
  | [] => rfl
  | c :: cs => by simp only [noC.noL, ok1.okL, ok1_noC, okL_noC d cs]
theorem ok1_noB (d : Nat) : ∀ (c : AV), noB d c = ok1 (fun _ => true) (fun k => k != d) c := by
  intro c
  refine AV.rec (motive_1 := fun c => noB d c = ok1 (fun _ => true) (fun k => k != d) c) (motive_2 := fun cs => noB.noL d cs = ok1.okL (fun _ => true) (fun k => k != d) cs) ?_ ?_ ?_ ?_ ?_ ?_ ?_ ?_ ?_ ?_ ?_ ?_ ?_ c
  all_goals (intros; try rfl)
  all_goals (simp only [noB, ok1, noB.noL, ok1.okL]; try assumption)
  all_goals (first | (split <;> rfl) | simp_all)
theorem okL_noB (d : Nat) : ∀ (cs : List AV), noB.noL d cs = ok1.okL (fun _ => true) (fun k => k != d) cs
  | [] => rfl
  | c :: cs => by simp only [noB.noL, ok1.okL, ok1_noB, okL_noB d cs]
section
variable {pc pb : Nat → Bool}
theorem okL_iff : ∀ {cs : List AV}, ok1.okL pc pb cs = true ↔ ∀ c ∈ cs, ok1 pc pb c = true
  | [] => by simp [ok1.okL]
  | c :: cs => by simp [ok1.okL, okL_iff (cs := cs)]
theorem okL_cells {c : AV} (h : ok1 pc pb c = true) : ok1.okL pc pb c.cells = true := by
  cases c with
  | agg cs => simpa only [ok1, AV.cells] using h
  | _ => simp only [AV.cells, ok1.okL, h, Bool.and_true]
theorem okL_sub {cs ds : List AV} (h : ok1.okL pc pb cs = true) (hs : ∀ c ∈ ds, c ∈ cs) : ok1.okL pc pb ds = true := okL_iff.2 fun c hc => okL_iff.1 h c (hs c hc)
theorem ok1_mkF (b : Bool) : ∀ (c : AV), ok1 pc pb (mkF b c) = true := by
  intro c
  refine AV.rec (motive_1 := fun c => ok1 pc pb (mkF b c) = true) (motive_2 := fun cs => ok1.okL pc pb (mkF.mkL b cs) = true) ?_ ?_ ?_ ?_ ?_ ?_ ?_ ?_ ?_ ?_ ?_ ?_ ?_ c
  all_goals (intros; try rfl)
  all_goals (simp only [mkF, ok1, mkF.mkL, ok1.okL]; try assumption)
  all_goals simp_all
theorem okL_mkL (b : Bool) (cs : List AV) : ok1.okL pc pb (mkF.mkL b cs) = true := okL_iff.2 fun c hc => by
  obtain ⟨j, hj, rfl⟩ := List.getElem_of_mem hc
  have := List.getElem?_eq_getElem hj
  rw [mkL_get] at this
  obtain ⟨e, _, he⟩ := Option.map_eq_some_iff.1 this
  rw [← he]
  exact ok1_mkF b e
theorem ok1_relab {t : Nat} {b : Bool} (ht : ∀ c, c < 64 → pc (64 * t + c) = true) : ∀ (c : AV), resOk c = true → ok1 pc pb (relab t b c) = true := by
  intro c
  refine AV.rec (motive_1 := fun c => resOk c = true → ok1 pc pb (relab t b c) = true) (motive_2 := fun cs => resOk.resL cs = true → ok1.okL pc pb (relab.relabL t b cs) = true) ?_ ?_ ?_ ?_ ?_ ?_ ?_ ?_ ?_ ?_ ?_ ?_ ?_ c
  all_goals (intros; try rfl)
  · rename_i m sz xs _ h
    obtain ⟨ap, fr⟩ := m
    cases ap <;> try rfl
    simp only [resOk, decide_eq_true_eq] at h
    simp only [relab, ok1]
    exact ht _ h
  · rename_i cs ih h
    simp only [relab, ok1]
    exact ih (by simpa only [resOk] using h)
  · rename_i cs ih h
    simp only [relab, ok1]
    exact ih (by simpa only [resOk] using h)
  · rename_i h; cases h
  · rename_i h; cases h
  · rename_i h; cases h
  · rename_i c cs h1 h2 h
    simp only [resOk.resL, Bool.and_eq_true] at h
    simp only [relab.relabL, ok1.okL, h1 h.1, h2 h.2, Bool.and_self]
/-- constants know no classes and no boxes -/
def plain (c : AV) : Bool := ok1 (fun _ => false) (fun _ => false) c
theorem plain_ok1 : ∀ (c : AV), plain c = true → ok1 pc pb c = true := by
  intro c
  unfold plain
  refine AV.rec (motive_1 := fun c => ok1 (fun _ => false) (fun _ => false) c = true → ok1 pc pb c = true) (motive_2 := fun cs => ok1.okL (fun _ => false) (fun _ => false) cs = true → ok1.okL pc pb cs = true) ?_ ?_ ?_ ?_ ?_ ?_ ?_ ?_ ?_ ?_ ?_ ?_ ?_ c
  all_goals (intros; try rfl)
  · rename_i m sz xs _ h
    obtain ⟨ap, fr⟩ := m
    cases ap <;> try rfl
    cases h
  · rename_i cs ih h; simp only [ok1] at h ⊢; exact ih h
  · rename_i cs ih h; simp only [ok1] at h ⊢; exact ih h
  · rename_i h; cases h
  · rename_i cs ih h; simp only [ok1] at h ⊢; exact ih h
  · rename_i h; cases h
  · rename_i c cs h1 h2 h
    simp only [ok1.okL, Bool.and_eq_true] at h ⊢
    exact ⟨h1 h.1, h2 h.2⟩
def odP : Od → Bool
  | .t _ => true
  | .c x => plain x
/-- its constants are plain; a load's place is a variable -/
def VK.pl : VK → Bool
  | .ld _ _ x => match x with
    | .t _ => true
    | .c _ => false
  | .mv x | .as x | .un _ x | .len _ x | .fa _ x | .box _ x | .mks _ _ _ x | .ext x _ | .cvI _ x | .b2s x | .cvS x | .isn _ x | .slM _ x => odP x
  | .pick c a b => odP c && odP a && odP b
  | .bin _ _ x y | .idx x y | .ia _ x y | .st _ x y | .app _ _ x y => odP x && odP y
  | .alloc z => plain z
  | .bld z ps => z.all plain && ps.all fun p => odP p.2.2
  | .bsl _ xs | .call _ _ xs | .mkf _ xs => xs.all odP
  | .callv _ x xs => odP x && xs.all odP
  | .slS x _ _ | .slL _ x _ _ => odP x
variable {E : Env} {s : AS} {d : Option Nat}
theorem ok1_val {x : Od} (hx : odP x = true) (hg : ∀ u ∈ odT x, ok1 pc pb (s.get u) = true) : ok1 pc pb (s.val x) = true := by
  cases x with
  | t n => exact hg n (by simp [odT])
  | c x => exact plain_ok1 x hx
theorem okL_vals : ∀ {xs : List Od}, xs.all odP = true → (∀ u ∈ xs.flatMap odT, ok1 pc pb (s.get u) = true) → ok1.okL pc pb (s.vals xs) = true
  | [], _, _ => rfl
  | x :: xs, hx, hg => by
    simp only [List.all_cons, Bool.and_eq_true] at hx
    simp only [AS.vals, ok1.okL]
    rw [ok1_val hx.1 fun u hu => hg u (by simp [hu]), okL_vals hx.2 fun u hu => hg u (by rw [List.flatMap_cons]; exact List.mem_append_right _ hu)]
    rfl
theorem okL_fill : ∀ {ps : List (Nat × Nat × Od)} {z cs : List AV}, fill z (pvals s ps) = some cs → ok1.okL pc pb z = true → (ps.all fun p => odP p.2.2) = true → (∀ u ∈ ps.flatMap (fun p => odT p.2.2), ok1 pc pb (s.get u) = true) → ok1.okL pc pb cs = true
  | [], z, cs, h, hz, _, _ => by obtain rfl := Option.some.inj h; exact hz
  | (o, n, x) :: ps, z, cs, h, hz, hp, hg => by
    simp only [List.all_cons, Bool.and_eq_true] at hp
    simp only [pvals, fill] at h
    split at h
    · refine okL_fill h ?_ hp.2 fun u hu => hg u (by rw [List.flatMap_cons]; exact List.mem_append_right _ hu)
      have hv := okL_cells (ok1_val (s := s) hp.1 fun u hu => hg u (by simp [hu]))
      refine okL_iff.2 fun c hc => ?_
      unfold upd at hc
      rcases List.mem_append.1 hc with hc | hc
      · rcases List.mem_append.1 hc with hc | hc
        · exact okL_iff.1 hz c (List.mem_of_mem_take hc)
        · exact okL_iff.1 hv c hc
      · exact okL_iff.1 hz c (List.mem_of_mem_drop hc)
    · cases h
theorem ccall_ok1 {f : Nat} {vs : List AV} {r : Out} (h : ccall E d f vs r) (ht : ∀ t, d = some t → ∀ c, c < 64 → pc (64 * t + c) = true) : ok1 pc pb r.v = true ∧ ∀ l, r.nb = some l → ok1.okL pc pb l = true := by
  obtain ⟨_, _, t, rfl, y, hF, rfl⟩ := h
  exact ⟨ok1_relab (ht t rfl) y hF.2.1, fun l hl => (by cases hl)⟩
theorem core_ok1 {k : VK} {r : Out} (h : core E s d k r) (hk : k.pl = true) (hg : ∀ u ∈ k.looks, ok1 pc pb (s.get u) = true) (hb : ∀ n l, look s.bxs n = some l → ok1.okL pc pb l = true) (ht : ∀ t, d = some t → ∀ c, c < 64 → pc (64 * t + c) = true) (hn : ∀ t, d = some t → pb (1000 + t) = true) : ok1 pc pb r.v = true ∧ ∀ l, r.nb = some l → ok1.okL pc pb l = true := by
  have non : ∀ l : List AV, (none : Option (List AV)) = some l → ok1.okL pc pb l = true := fun l hl => (by cases hl)
  have one : ∀ x : Od, odP x = true → (∀ u ∈ odT x, u ∈ k.looks) → ok1 pc pb (s.val x) = true := fun x hp hx => ok1_val hp fun u hu => hg u (hx u hu)
  cases k with
  | as x => obtain rfl := h; exact ⟨one x hk fun u hu => hu, non⟩
  | mv x => obtain rfl := h; exact ⟨one x hk fun u hu => hu, non⟩
  | st sz a x => cases h
  | app sz byt x y => cases h
  | mks sz byt z n => cases h
  | isn neg x => cases h
  | slM sz x => cases h
  | pick c a b =>
    simp only [VK.pl, Bool.and_eq_true] at hk
    obtain ⟨t, _, rfl⟩ := h
    refine ⟨?_, non⟩
    show ok1 pc pb (if t = true then s.val a else s.val b) = true
    split
    · exact one a hk.1.2 fun u hu => by simp [VK.looks, hu]
    · exact one b hk.2 fun u hu => by simp [VK.looks, hu]
  | bin op ty x y => obtain ⟨_, _, rfl⟩ := h; exact ⟨rfl, non⟩
  | un op x => obtain ⟨_, _, rfl⟩ := h; exact ⟨rfl, non⟩
  | len op x => obtain ⟨_, _, rfl⟩ := h; exact ⟨rfl, non⟩
  | idx x i => obtain ⟨_, _, _, _, _, _, _, rfl⟩ := h; exact ⟨rfl, non⟩
  | ia sz x i =>
    simp only [VK.pl, Bool.and_eq_true] at hk
    have hx := one x hk.1 fun u hu => by simp [VK.looks, hu]
    obtain ⟨k, j, h1, h2, h⟩ := h
    cases e : s.val x <;> rw [e] at h hx <;> simp only at h
    · obtain ⟨g1, e, g2, rfl⟩ := h; exact ⟨rfl, non⟩
    · obtain ⟨g1, g2, rfl⟩ := h; exact ⟨hx, non⟩
    · obtain ⟨g1, e, g2, rfl⟩ := h; exact ⟨rfl, non⟩
  | fa off x =>
    have hx := one x hk fun u hu => hu
    simp only [core] at h
    cases e : s.val x <;> rw [e] at h hx <;> simp only at h
    · obtain rfl := h; exact ⟨hx, non⟩
    · obtain ⟨_, rfl⟩ := h; exact ⟨rfl, non⟩
    · obtain ⟨_, rfl⟩ := h; exact ⟨rfl, non⟩
  | ld ag sz x =>
    simp only [core] at h
    cases e : s.val x <;> rw [e] at h <;> simp only at h
    · obtain ⟨l, el, h1, h2, h⟩ := h
      have hel := okL_cells (okL_iff.1 (hb _ l h1) el (List.mem_of_getElem? h2))
      cases ag
      · simp only [Bool.false_eq_true, if_false] at h
        obtain ⟨c, h3, rfl⟩ := h
        exact ⟨okL_iff.1 hel c (List.mem_of_getElem? h3), non⟩
      · simp only [if_true] at h
        obtain ⟨h3, rfl⟩ := h
        refine ⟨?_, non⟩
        simp only [ok1]
        exact okL_sub hel fun c hc => List.mem_of_mem_drop (List.mem_of_mem_take hc)
    · cases ag
      · simp only [Bool.false_eq_true, if_false] at h
        obtain ⟨c, h3, rfl⟩ := h; exact ⟨ok1_mkF _ _, non⟩
      · simp only [if_true] at h
        obtain ⟨h3, rfl⟩ := h
        refine ⟨?_, non⟩
        simp only [ok1]
        exact okL_mkL _ _
    · obtain ⟨_, z, ys, h3, rfl⟩ := h; exact ⟨rfl, non⟩
  | box sz x =>
    obtain ⟨t, rfl, _, _, _, _, rfl⟩ := h
    refine ⟨hn t rfl, fun l hl => ?_⟩
    obtain rfl := Option.some.inj hl
    simp only [ok1.okL, one x hk fun u hu => hu, Bool.and_true]
  | alloc z =>
    obtain ⟨t, rfl, _, _, _, rfl⟩ := h
    refine ⟨hn t rfl, fun l hl => ?_⟩
    obtain rfl := Option.some.inj hl
    simp only [ok1.okL, plain_ok1 z hk, Bool.and_true]
  | bld z ps =>
    simp only [VK.pl, Bool.and_eq_true] at hk
    obtain ⟨_, cs, h2, rfl⟩ := h
    refine ⟨?_, non⟩
    simp only [ok1]
    exact okL_fill h2 (okL_iff.2 fun c hc => plain_ok1 c (List.all_eq_true.1 hk.1 c hc)) hk.2 fun u hu => hg u hu
  | bsl sz xs =>
    obtain ⟨t, rfl, _, rfl⟩ := h
    exact ⟨ht t rfl 0 (by omega), non⟩
  | slS x lo hi => obtain ⟨_, _, _, _, _, rfl⟩ := h; exact ⟨rfl, non⟩
  | slL sz x lo hi =>
    obtain ⟨m, z, xs, h1, _, _, _, _, rfl⟩ := h
    have hx := one x hk fun u hu => by simp [VK.looks, hu]
    rw [h1] at hx
    refine ⟨?_, non⟩
    obtain ⟨ap, fr⟩ := m
    cases hi with
    | none => cases ap <;> first | rfl | (simpa only [isNone, if_true, ok1, noOw] using hx)
    | some _ => rfl
  | ext x i =>
    obtain ⟨cs, c, h1, h2, rfl⟩ := h
    have hx := one x hk fun u hu => hu
    rw [h1] at hx
    simp only [ok1] at hx
    exact ⟨okL_iff.1 hx c (List.mem_of_getElem? h2), non⟩
  | call q f as => exact ccall_ok1 h.2 ht
  | callv q x as => obtain ⟨_, f, cs, _, _, h⟩ := h; exact ccall_ok1 h ht
  | mkf f as => obtain rfl := h; refine ⟨?_, non⟩; simp only [ok1]; exact okL_vals hk fun u hu => hg u hu
  | cvI k x => obtain ⟨_, _, _, rfl⟩ := h; exact ⟨rfl, non⟩
  | b2s x => obtain ⟨_, _, _, _, _, _, _, rfl⟩ := h; exact ⟨rfl, non⟩
  | cvS x => obtain ⟨_, _, rfl⟩ := h; exact ⟨rfl, non⟩
/-- a new box goes with a new label -/
theorem core_nb {k : VK} {r : Out} (h : core E s d k r) : r.nb = none ∨ r.fk = 2 := by
  cases k with
  | mv x => obtain rfl := h; exact .inl rfl
  | as x => obtain rfl := h; exact .inl rfl
  | pick c a b => obtain ⟨_, _, rfl⟩ := h; exact .inl rfl
  | bin op ty x y => obtain ⟨_, _, rfl⟩ := h; exact .inl rfl
  | un op x => obtain ⟨_, _, rfl⟩ := h; exact .inl rfl
  | len op x => obtain ⟨_, _, rfl⟩ := h; exact .inl rfl
  | idx x i => obtain ⟨_, _, _, _, _, _, _, rfl⟩ := h; exact .inl rfl
  | ia sz x i =>
    obtain ⟨k, j, h1, h2, h⟩ := h
    cases e : s.val x <;> rw [e] at h <;> simp only at h
    · obtain ⟨g1, e, g2, rfl⟩ := h; exact .inl rfl
    · obtain ⟨g1, g2, rfl⟩ := h; exact .inl rfl
    · obtain ⟨g1, e, g2, rfl⟩ := h; exact .inl rfl
  | fa off x =>
    simp only [core] at h
    cases e : s.val x <;> rw [e] at h <;> simp only at h
    · obtain rfl := h; exact .inl rfl
    · obtain ⟨_, rfl⟩ := h; exact .inl rfl
    · obtain ⟨_, rfl⟩ := h; exact .inl rfl
  | ld ag sz x =>
    simp only [core] at h
    cases e : s.val x <;> rw [e] at h <;> simp only at h
    · obtain ⟨l, el, h1, h2, h⟩ := h
      cases ag
      · simp only [Bool.false_eq_true, if_false] at h
        obtain ⟨c, h3, rfl⟩ := h; exact .inl rfl
      · simp only [if_true] at h
        obtain ⟨h3, rfl⟩ := h; exact .inl rfl
    · cases ag
      · simp only [Bool.false_eq_true, if_false] at h
        obtain ⟨c, h3, rfl⟩ := h; exact .inl rfl
      · simp only [if_true] at h
        obtain ⟨h3, rfl⟩ := h; exact .inl rfl
    · obtain ⟨_, z, ys, h3, rfl⟩ := h; exact .inl rfl
  | st sz a x => cases h
  | app sz byt x y => cases h
  | mks sz byt z n => cases h
  | isn neg x => cases h
  | slM sz x => cases h
  | box sz x => obtain ⟨t, rfl, _, _, _, _, rfl⟩ := h; exact .inr rfl
  | alloc z => obtain ⟨t, rfl, _, _, _, rfl⟩ := h; exact .inr rfl
  | bld z ps => obtain ⟨_, cs, h2, rfl⟩ := h; exact .inl rfl
  | bsl sz xs => obtain ⟨t, rfl, _, rfl⟩ := h; exact .inl rfl
  | slS x lo hi => obtain ⟨_, _, _, _, _, rfl⟩ := h; exact .inl rfl
  | slL sz x lo hi => obtain ⟨m, z, xs, h1, _, _, _, _, rfl⟩ := h; exact .inl rfl
  | ext x i => obtain ⟨cs, c, h1, h2, rfl⟩ := h; exact .inl rfl
  | call q f as => obtain ⟨_, _, _, t, rfl, y, hF, rfl⟩ := h; exact .inl rfl
  | callv q x as => obtain ⟨_, f, cs, _, _, _, _, t, rfl, y, hF, rfl⟩ := h; exact .inl rfl
  | mkf f as => obtain rfl := h; exact .inl rfl
  | cvI k x => obtain ⟨_, _, _, rfl⟩ := h; exact .inl rfl
  | b2s x => obtain ⟨_, _, _, _, _, _, _, rfl⟩ := h; exact .inl rfl
  | cvS x => obtain ⟨_, _, rfl⟩ := h; exact .inl rfl
/-- may need a new label -/
def VK.mayFresh : VK → Bool
  | .call _ _ _ | .callv _ _ _ | .bsl _ _ | .box _ _ | .alloc _ => true
  | _ => false
theorem core_fk {k : VK} {r : Out} (h : core E s d k r) (hk : k.mayFresh = false) : r.fk = 0 := by
  cases k with
  | mv x => obtain rfl := h; rfl
  | as x => obtain rfl := h; rfl
  | pick c a b => obtain ⟨_, _, rfl⟩ := h; rfl
  | bin op ty x y => obtain ⟨_, _, rfl⟩ := h; rfl
  | un op x => obtain ⟨_, _, rfl⟩ := h; rfl
  | len op x => obtain ⟨_, _, rfl⟩ := h; rfl
  | idx x i => obtain ⟨_, _, _, _, _, _, _, rfl⟩ := h; rfl
  | ia sz x i =>
    obtain ⟨k, j, h1, h2, h⟩ := h
    cases e : s.val x <;> rw [e] at h <;> simp only at h
    · obtain ⟨g1, e, g2, rfl⟩ := h; rfl
    · obtain ⟨g1, g2, rfl⟩ := h; rfl
    · obtain ⟨g1, e, g2, rfl⟩ := h; rfl
  | fa off x =>
    simp only [core] at h
    cases e : s.val x <;> rw [e] at h <;> simp only at h
    · obtain rfl := h; rfl
    · obtain ⟨_, rfl⟩ := h; rfl
    · obtain ⟨_, rfl⟩ := h; rfl
  | ld ag sz x =>
    simp only [core] at h
    cases e : s.val x <;> rw [e] at h <;> simp only at h
    · obtain ⟨l, el, h1, h2, h⟩ := h
      cases ag
      · simp only [Bool.false_eq_true, if_false] at h
        obtain ⟨c, h3, rfl⟩ := h; rfl
      · simp only [if_true] at h
        obtain ⟨h3, rfl⟩ := h; rfl
    · cases ag
      · simp only [Bool.false_eq_true, if_false] at h
        obtain ⟨c, h3, rfl⟩ := h; rfl
      · simp only [if_true] at h
        obtain ⟨h3, rfl⟩ := h; rfl
    · obtain ⟨_, z, ys, h3, rfl⟩ := h; rfl
  | st sz a x => cases h
  | app sz byt x y => cases h
  | mks sz byt z n => cases h
  | isn neg x => cases h
  | slM sz x => cases h
  | box sz x => cases hk
  | alloc z => cases hk
  | bld z ps => obtain ⟨_, cs, h2, rfl⟩ := h; rfl
  | bsl sz xs => cases hk
  | slS x lo hi => obtain ⟨_, _, _, _, _, rfl⟩ := h; rfl
  | slL sz x lo hi => obtain ⟨m, z, xs, h1, _, _, _, _, rfl⟩ := h; rfl
  | ext x i => obtain ⟨cs, c, h1, h2, rfl⟩ := h; rfl
  | call q f as => cases hk
  | callv q x as => cases hk
  | mkf f as => obtain rfl := h; rfl
  | cvI k x => obtain ⟨_, _, _, rfl⟩ := h; rfl
  | b2s x => obtain ⟨_, _, _, _, _, _, _, rfl⟩ := h; rfl
  | cvS x => obtain ⟨_, _, rfl⟩ := h; rfl
end
end Go.Proofs.Ytpopccnnjpdmlaa.Vm
