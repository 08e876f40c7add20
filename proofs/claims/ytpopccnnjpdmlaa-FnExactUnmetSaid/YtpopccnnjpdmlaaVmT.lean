/- An abstract machine over values: the orders of a region, second part: what an operation does, apart from where. -/
import Derived.Test.YtpopccnnjpdmlaaVmS
namespace Go.Proofs.Ytpopccnnjpdmlaa.Vm
open Go Go.RowKit
set_option linter.unusedVariables false
set_option linter.unusedSimpArgs false
/-- what comes out: the value, the new box, and which label must be new (1: class, 2: box) -/
structure Out where
  v : AV
  nb : Option (List AV)
  fk : Nat
def ccall (E : Env) (d : Option Nat) (f : Nat) (vs : List AV) (r : Out) : Prop :=
  argOk.argL vs = true ∧ dd (ptrs.ptrsL vs) = [] ∧ ∃ t, d = some t ∧ ∃ y, Fx E f [] (ren.renL [] (strip.stripL vs)) [] y ∧ r = ⟨relab t (frA.frL vs) y, none, 1⟩
def core (E : Env) (s : AS) (d : Option Nat) : VK → Out → Prop
  | .mv x, r => r = ⟨s.val x, none, 0⟩
  | .as x, r => r = ⟨s.val x, none, 0⟩
  | .pick c a b, r => ∃ t, s.val c = .lit (.bool t) ∧ r = ⟨if t then s.val a else s.val b, none, 0⟩
  | .bin op ty x y, r => ∃ v, binV op ty (s.val x) (s.val y) = some v ∧ r = ⟨.lit v, none, 0⟩
  | .un op x, r => ∃ v, unV op (s.val x) = some v ∧ r = ⟨.lit v, none, 0⟩
  | .len b x, r => ∃ n, lenV b (s.val x) = some n ∧ r = ⟨.lit (.int .i64 n), none, 0⟩
  | .idx x i, r => ∃ b k j, s.val x = .lit (.string b) ∧ s.val i = .lit (.int k j) ∧ 0 ≤ j ∧ j < b.size ∧ r = ⟨.lit (.int .u8 (bt b j.toNat).toNat), none, 0⟩
  | .ia sz x i, r => ∃ k j, s.val i = .lit (.int k j) ∧ 0 ≤ j ∧ (match s.val x with
    | .sl m z xs => z = sz ∧ ∃ e, xs[j.toNat]? = some e ∧ r = ⟨.ep m.fr e.cells, none, 0⟩
    | .bs n z l => z = sz ∧ j < l ∧ r = ⟨.ptr n j.toNat 0, none, 0⟩
    | .hs z xs => z = sz ∧ ∃ e, xs[j.toNat]? = some e ∧ r = ⟨.hp e.cells, none, 0⟩
    | _ => False)
  | .fa off x, r => (match s.val x with
    | .ep fr cs => off ≤ cs.length ∧ r = ⟨.ep fr (cs.drop off), none, 0⟩
    | .ptr n i o => r = ⟨.ptr n i (o + off), none, 0⟩
    | .hp cs => off ≤ cs.length ∧ r = ⟨.hp (cs.drop off), none, 0⟩
    | _ => False)
  | .ld ag sz x, r => (match s.val x with
    | .ep fr cs => if ag then sz ≤ cs.length ∧ r = ⟨.agg (mkF.mkL fr (cs.take sz)), none, 0⟩ else ∃ c, cs[0]? = some c ∧ r = ⟨mkF fr c, none, 0⟩
    | .ptr n i o => ∃ l e, look s.bxs n = some l ∧ l[i]? = some e ∧ (if ag then o + sz ≤ e.cells.length ∧ r = ⟨.agg ((e.cells.drop o).take sz), none, 0⟩ else ∃ c, e.cells[o]? = some c ∧ r = ⟨c, none, 0⟩)
    | .hp cs => ag = false ∧ ∃ z ys, cs[0]? = some (.hs z ys) ∧ r = ⟨.hs z ys, none, 0⟩
    | _ => False)
  | .box sz x, r => ∃ t, d = some t ∧ (s.val x).cells.length = sz ∧ 0 < sz ∧ (s.val x).cells.all okC = true ∧ noB (1000 + t) (s.val x) = true ∧ r = ⟨.ptr (1000 + t) 0 0, some [s.val x], 2⟩
  | .alloc z, r => ∃ t, d = some t ∧ 0 < z.cells.length ∧ z.cells.all okC = true ∧ noB (1000 + t) z = true ∧ r = ⟨.ptr (1000 + t) 0 0, some [z], 2⟩
  | .bsl sz xs, r => ∃ t, d = some t ∧ (s.vals xs).all (fun x => decide (x.cells.length = sz) && dat x && x.cells.all okC) = true ∧ r = ⟨.sl ⟨.cl (64 * t), frA.frL (s.vals xs)⟩ sz (strip.stripL (s.vals xs)), none, 1⟩
  | .slS x lo hi, r => ∃ b, s.val x = .lit (.string b) ∧ ∃ l h, cutB s b.size lo hi = some (l, h) ∧ r = ⟨.lit (.string (b.extract l h)), none, 0⟩
  | .slL sz x lo hi, r => ∃ m z xs, s.val x = .sl m z xs ∧ (z = sz ∨ xs = []) ∧ ∃ l h, cutB s xs.length lo hi = some (l, h) ∧ r = ⟨.sl ⟨if isNone hi then noOw m.ap else .no, m.fr⟩ z ((xs.take h).drop l), none, 0⟩
  | .ext x i, r => ∃ cs c, s.val x = .tup cs ∧ cs[i]? = some c ∧ r = ⟨c, none, 0⟩
  | .call q f as, r => q = true ∧ ccall E d f (s.vals as) r
  | .callv q x as, r => q = true ∧ ∃ f cs, s.val x = .fn f cs ∧ fnOk E.P f = true ∧ ccall E d f (s.vals as ++ cs) r
  | .cvI k x, r => ∃ k' j, s.val x = .lit (.int k' j) ∧ r = ⟨.lit (.int k (k.wrap j)), none, 0⟩
  | .b2s x, r => ∃ (m : Mk) (z : Nat) (xs : List AV) (l : List UInt8), s.val x = .sl m z xs ∧ (z = 1 ∨ xs = []) ∧ xs = l.map (fun b : UInt8 => AV.lit (.int .u8 b.toNat)) ∧ r = ⟨.lit (.string ⟨l.toArray⟩), none, 0⟩
  | .cvS x, r => ∃ b, s.val x = .lit (.string b) ∧ r = ⟨.lit (.string b), none, 0⟩
  | .mkf f as, r => r = ⟨.fn f (s.vals as), none, 0⟩
  | .bld z ps, r => (pvals s ps).all (fun p => p.2.2.cells.all okC) = true ∧ ∃ cs, fill z (pvals s ps) = some cs ∧ r = ⟨.agg cs, none, 0⟩
  | _, _ => False
def AS.out (s : AS) (d : Option Nat) (r : Out) : AS :=
  match r.nb, d with
  | some l, some t => (s.setB (1000 + t) l).put t r.v
  | _, d => s.putO d r.v
def fresh (s : AS) (d : Option Nat) (fk : Nat) : Prop :=
  (fk = 1 → ∃ t, d = some t ∧ (s.putO d .un).noC t = true) ∧ (fk = 2 → ∃ t, d = some t ∧ (s.putO d .un).noB (1000 + t) = true)
/-- quiet: its outcome is told by 'core' -/
def VK.quiet : VK → Bool
  | .st _ _ _ | .app _ _ _ _ | .mks _ _ _ _ | .isn _ _ | .slM _ _ => false
  | .call q _ _ => q
  | .callv q _ _ => q
  | _ => true
section
variable {E : Env} {s : AS} {d : Option Nat}
theorem fresh0 : fresh s d 0 := ⟨fun h => (by cases h), fun h => (by cases h)⟩
theorem vcall_core {f : Nat} {vs : List AV} {Q : AS → Prop} (h : vcall E true s d f vs Q) : ∃ r, ccall E d f vs r ∧ fresh s d r.fk ∧ Q (s.out d r) := by
  obtain ⟨h1, h2, t, rfl, h4, bs, h5, h6, bs', r, h7, h8, h9⟩ := h
  have h2 := h2 rfl
  rw [h2] at h5 h7 h9
  obtain rfl := Option.some.inj h5
  obtain rfl : bs' = [] := List.eq_nil_of_length_eq_zero h7.1
  exact ⟨_, ⟨h1, h2, t, rfl, r, h7, rfl⟩, ⟨fun _ => ⟨t, rfl, h4⟩, fun h => (by cases h)⟩, h9⟩
theorem core_vcall {f : Nat} {vs : List AV} {Q : AS → Prop} {r : Out} (h : ccall E d f vs r) (hf : fresh s d r.fk) (hq : Q (s.out d r)) : vcall E true s d f vs Q := by
  obtain ⟨h1, h2, t, rfl, y, h3, rfl⟩ := h
  obtain ⟨t', e, h4⟩ := hf.1 rfl
  obtain rfl := Option.some.inj e
  exact ⟨h1, fun _ => h2, t, rfl, h4, [], by rw [h2]; rfl, rfl, [], y, by rw [h2]; exact h3, rfl, by rw [h2]; exact hq⟩
theorem vact_core {k : VK} {Q : AS → Prop} (hk : k.quiet = true) (h : vact E s d Q k) : ∃ r, core E s d k r ∧ fresh s d r.fk ∧ Q (s.out d r) := by
  cases k with
  | mv x => exact ⟨_, rfl, fresh0, h⟩
  | as x => exact ⟨_, rfl, fresh0, h⟩
  | pick c a b => obtain ⟨t, h1, h2⟩ := h; exact ⟨_, ⟨t, h1, rfl⟩, fresh0, h2⟩
  | bin op ty x y => obtain ⟨t, h1, h2⟩ := h; exact ⟨_, ⟨t, h1, rfl⟩, fresh0, h2⟩
  | un op x => obtain ⟨t, h1, h2⟩ := h; exact ⟨_, ⟨t, h1, rfl⟩, fresh0, h2⟩
  | len b x => obtain ⟨t, h1, h2⟩ := h; exact ⟨_, ⟨t, h1, rfl⟩, fresh0, h2⟩
  | idx x i => obtain ⟨b, k, j, h1, h2, h3, h4, h5⟩ := h; exact ⟨_, ⟨b, k, j, h1, h2, h3, h4, rfl⟩, fresh0, h5⟩
  | ia sz x i =>
    obtain ⟨k, j, h1, h2, h⟩ := h
    simp only [core]
    cases hx : s.val x <;> rw [hx] at h <;> simp only at h ⊢
    · obtain ⟨g1, e, g2, g3⟩ := h; exact ⟨_, ⟨k, j, h1, h2, g1, e, g2, rfl⟩, fresh0, g3⟩
    · obtain ⟨g1, g2, g3⟩ := h; exact ⟨_, ⟨k, j, h1, h2, g1, g2, rfl⟩, fresh0, g3⟩
    · obtain ⟨g1, e, g2, g3⟩ := h; exact ⟨_, ⟨k, j, h1, h2, g1, e, g2, rfl⟩, fresh0, g3⟩
  | fa off x =>
    simp only [vact, core] at h ⊢
    cases hx : s.val x <;> rw [hx] at h <;> simp only at h ⊢
    · exact ⟨_, rfl, fresh0, h⟩
    · exact ⟨_, ⟨h.1, rfl⟩, fresh0, h.2⟩
    · exact ⟨_, ⟨h.1, rfl⟩, fresh0, h.2⟩
  | ld ag sz x =>
    simp only [vact, core] at h ⊢
    cases hx : s.val x <;> rw [hx] at h <;> simp only at h ⊢
    · obtain ⟨l, e, h1, h2, h⟩ := h
      cases ag
      · simp only [Bool.false_eq_true, if_false] at h ⊢
        obtain ⟨c, h3, h4⟩ := h; exact ⟨_, ⟨l, e, h1, h2, c, h3, rfl⟩, fresh0, h4⟩
      · simp only [if_true] at h ⊢
        exact ⟨_, ⟨l, e, h1, h2, h.1, rfl⟩, fresh0, h.2⟩
    · cases ag
      · simp only [Bool.false_eq_true, if_false] at h ⊢
        obtain ⟨c, h3, h4⟩ := h; exact ⟨_, ⟨c, h3, rfl⟩, fresh0, h4⟩
      · simp only [if_true] at h ⊢
        exact ⟨_, ⟨h.1, rfl⟩, fresh0, h.2⟩
    · obtain ⟨g1, z, ys, g2, g3⟩ := h; exact ⟨_, ⟨g1, z, ys, g2, rfl⟩, fresh0, g3⟩
  | st sz a x => cases hk
  | box sz x =>
    obtain ⟨t, rfl, h2, h3, h4, h5, h6, h7⟩ := h
    exact ⟨_, ⟨t, rfl, h2, h3, h4, h6, rfl⟩, ⟨fun h => (by cases h), fun _ => ⟨t, rfl, h5⟩⟩, h7⟩
  | alloc z =>
    obtain ⟨t, rfl, h2, h3, h4, h5, h6⟩ := h
    exact ⟨_, ⟨t, rfl, h2, h3, h5, rfl⟩, ⟨fun h => (by cases h), fun _ => ⟨t, rfl, h4⟩⟩, h6⟩
  | bld z ps => obtain ⟨h1, cs, h2, h3⟩ := h; exact ⟨_, ⟨h1, cs, h2, rfl⟩, fresh0, h3⟩
  | bsl sz xs =>
    obtain ⟨t, rfl, h2, h3, h4⟩ := h
    exact ⟨_, ⟨t, rfl, h3, rfl⟩, ⟨fun _ => ⟨t, rfl, h2⟩, fun h => (by cases h)⟩, h4⟩
  | slS x lo hi => obtain ⟨b, h1, l, h', h2, h3⟩ := h; exact ⟨_, ⟨b, h1, l, h', h2, rfl⟩, fresh0, h3⟩
  | slL sz x lo hi => obtain ⟨m, z, xs, h1, h2, l, h', h3, h4⟩ := h; exact ⟨_, ⟨m, z, xs, h1, h2, l, h', h3, rfl⟩, fresh0, h4⟩
  | app sz byt x y => cases hk
  | mks sz byt z n => cases hk
  | ext x i => obtain ⟨cs, c, h1, h2, h3⟩ := h; exact ⟨_, ⟨cs, c, h1, h2, rfl⟩, fresh0, h3⟩
  | call q f as =>
    obtain rfl : q = true := hk
    rcases h with h | ⟨h, _⟩
    rotate_left
    · cases h
    obtain ⟨r, h1, h2⟩ := vcall_core h
    exact ⟨r, ⟨rfl, h1⟩, h2⟩
  | callv q x as =>
    obtain rfl : q = true := hk
    obtain ⟨f, cs, h1, h2, h3⟩ := h
    rcases h3 with h3 | ⟨h3, _⟩
    rotate_left
    · cases h3
    obtain ⟨r, h4, h5⟩ := vcall_core h3
    exact ⟨r, ⟨rfl, f, cs, h1, h2, h4⟩, h5⟩
  | mkf f as => exact ⟨_, rfl, fresh0, h⟩
  | cvI k x => obtain ⟨k', j, h1, h2⟩ := h; exact ⟨_, ⟨k', j, h1, rfl⟩, fresh0, h2⟩
  | b2s x => obtain ⟨m, z, xs, l, h1, h2, h3, h4⟩ := h; exact ⟨_, ⟨m, z, xs, l, h1, h2, h3, rfl⟩, fresh0, h4⟩
  | cvS x => obtain ⟨b, h1, h2⟩ := h; exact ⟨_, ⟨b, h1, rfl⟩, fresh0, h2⟩
  | isn neg x => cases hk
  | slM sz x => cases hk
theorem core_vact {k : VK} {Q : AS → Prop} {r : Out} (h : core E s d k r) (hf : fresh s d r.fk) (hq : Q (s.out d r)) : vact E s d Q k := by
  cases k with
  | mv x => obtain rfl := h; exact hq
  | as x => obtain rfl := h; exact hq
  | pick c a b => obtain ⟨t, h1, rfl⟩ := h; exact ⟨t, h1, hq⟩
  | bin op ty x y => obtain ⟨t, h1, rfl⟩ := h; exact ⟨t, h1, hq⟩
  | un op x => obtain ⟨t, h1, rfl⟩ := h; exact ⟨t, h1, hq⟩
  | len b x => obtain ⟨t, h1, rfl⟩ := h; exact ⟨t, h1, hq⟩
  | idx x i => obtain ⟨b, k, j, h1, h2, h3, h4, rfl⟩ := h; exact ⟨b, k, j, h1, h2, h3, h4, hq⟩
  | ia sz x i =>
    obtain ⟨k, j, h1, h2, h⟩ := h
    simp only [vact]
    refine ⟨k, j, h1, h2, ?_⟩
    cases hx : s.val x <;> rw [hx] at h <;> simp only at h ⊢
    · obtain ⟨g1, e, g2, rfl⟩ := h; exact ⟨g1, e, g2, hq⟩
    · obtain ⟨g1, g2, rfl⟩ := h; exact ⟨g1, g2, hq⟩
    · obtain ⟨g1, e, g2, rfl⟩ := h; exact ⟨g1, e, g2, hq⟩
  | fa off x =>
    simp only [vact, core] at h ⊢
    cases hx : s.val x <;> rw [hx] at h <;> simp only at h ⊢
    · obtain rfl := h; exact hq
    · obtain ⟨h1, rfl⟩ := h; exact ⟨h1, hq⟩
    · obtain ⟨h1, rfl⟩ := h; exact ⟨h1, hq⟩
  | ld ag sz x =>
    simp only [vact, core] at h ⊢
    cases hx : s.val x <;> rw [hx] at h <;> simp only at h ⊢
    · obtain ⟨l, e, h1, h2, h⟩ := h
      cases ag
      · simp only [Bool.false_eq_true, if_false] at h ⊢
        obtain ⟨c, h3, rfl⟩ := h; exact ⟨l, e, h1, h2, c, h3, hq⟩
      · simp only [if_true] at h ⊢
        obtain ⟨h3, rfl⟩ := h
        exact ⟨l, e, h1, h2, h3, hq⟩
    · cases ag
      · simp only [Bool.false_eq_true, if_false] at h ⊢
        obtain ⟨c, h3, rfl⟩ := h; exact ⟨c, h3, hq⟩
      · simp only [if_true] at h ⊢
        obtain ⟨h3, rfl⟩ := h
        exact ⟨h3, hq⟩
    · obtain ⟨g1, z, ys, g2, rfl⟩ := h; exact ⟨g1, z, ys, g2, hq⟩
  | st sz a x => cases h
  | box sz x =>
    obtain ⟨t, rfl, h2, h3, h4, h6, rfl⟩ := h
    obtain ⟨t', e, h5⟩ := hf.2 rfl
    obtain rfl := Option.some.inj e
    exact ⟨t, rfl, h2, h3, h4, h5, h6, hq⟩
  | alloc z =>
    obtain ⟨t, rfl, h2, h3, h5, rfl⟩ := h
    obtain ⟨t', e, h4⟩ := hf.2 rfl
    obtain rfl := Option.some.inj e
    exact ⟨t, rfl, h2, h3, h4, h5, hq⟩
  | bld z ps => obtain ⟨h1, cs, h2, rfl⟩ := h; exact ⟨h1, cs, h2, hq⟩
  | bsl sz xs =>
    obtain ⟨t, rfl, h3, rfl⟩ := h
    obtain ⟨t', e, h2⟩ := hf.1 rfl
    obtain rfl := Option.some.inj e
    exact ⟨t, rfl, h2, h3, hq⟩
  | slS x lo hi => obtain ⟨b, h1, l, h', h2, rfl⟩ := h; exact ⟨b, h1, l, h', h2, hq⟩
  | slL sz x lo hi => obtain ⟨m, z, xs, h1, h2, l, h', h3, rfl⟩ := h; exact ⟨m, z, xs, h1, h2, l, h', h3, hq⟩
  | app sz byt x y => cases h
  | mks sz byt z n => cases h
  | ext x i => obtain ⟨cs, c, h1, h2, rfl⟩ := h; exact ⟨cs, c, h1, h2, hq⟩
  | call q f as => obtain ⟨rfl, h⟩ := h; exact .inl (core_vcall h hf hq)
  | callv q x as => obtain ⟨rfl, f, cs, h1, h2, h⟩ := h; exact ⟨f, cs, h1, h2, .inl (core_vcall h hf hq)⟩
  | mkf f as => obtain rfl := h; exact hq
  | cvI k x => obtain ⟨k', j, h1, rfl⟩ := h; exact ⟨k', j, h1, hq⟩
  | b2s x => obtain ⟨m, z, xs, l, h1, h2, h3, rfl⟩ := h; exact ⟨m, z, xs, l, h1, h2, h3, hq⟩
  | cvS x => obtain ⟨b, h1, rfl⟩ := h; exact ⟨b, h1, hq⟩
  | isn neg x => cases h
  | slM sz x => cases h
/-! what an operation looks at -/
theorem val_congr {s s' : AS} : ∀ {x : Od}, (∀ u ∈ odT x, s'.get u = s.get u) → s'.val x = s.val x
  | .t n, h => h n (by simp [odT])
  | .c x, _ => rfl
theorem vals_congr {s s' : AS} : ∀ {xs : List Od}, (∀ u ∈ xs.flatMap odT, s'.get u = s.get u) → s'.vals xs = s.vals xs
  | [], _ => rfl
  | x :: xs, h => by
    simp only [AS.vals]
    rw [val_congr fun u hu => h u (by simp [hu]), vals_congr fun u hu => h u (by rw [List.flatMap_cons]; exact List.mem_append_right _ hu)]
theorem pvals_congr {s s' : AS} : ∀ {ps : List (Nat × Nat × Od)}, (∀ u ∈ ps.flatMap (fun p => odT p.2.2), s'.get u = s.get u) → pvals s' ps = pvals s ps
  | [], _ => rfl
  | (o, n, x) :: ps, h => by
    simp only [pvals]
    rw [val_congr fun u hu => h u (by simp [hu]), pvals_congr fun u hu => h u (by rw [List.flatMap_cons]; exact List.mem_append_right _ hu)]
theorem cutB_congr {s s' : AS} {n : Nat} {lo hi : Option Od} (h : ∀ u ∈ lo.toList.flatMap odT ++ hi.toList.flatMap odT, s'.get u = s.get u) : cutB s' n lo hi = cutB s n lo hi := by
  unfold cutB
  cases lo with
  | none =>
    cases hi with
    | none => rfl
    | some y => simp only [val_congr (s := s) (s' := s') (x := y) fun u hu => h u (by simp [hu])]
  | some z =>
    have hz := val_congr (s := s) (s' := s') (x := z) fun u hu => h u (by simp [hu])
    cases hi with
    | none => simp only [hz]
    | some y => simp only [hz, val_congr (s := s) (s' := s') (x := y) fun u hu => h u (by simp [hu])]
theorem core_congr {s s' : AS} {k : VK} {r : Out} (h : core E s d k r) (hg : ∀ u ∈ k.looks, s'.get u = s.get u) (hb : ∀ (ag : Bool) (sz : Nat) (x : Od), k = .ld ag sz x → ∀ n i o, s.val x = .ptr n i o → look s'.bxs n = look s.bxs n) : core E s' d k r := by
  have one : ∀ x : Od, (∀ u ∈ odT x, u ∈ k.looks) → s'.val x = s.val x := fun x hx => val_congr fun u hu => hg u (hx u hu)
  have all : ∀ xs : List Od, (∀ u ∈ xs.flatMap odT, u ∈ k.looks) → s'.vals xs = s.vals xs := fun x hx => vals_congr fun u hu => hg u (hx u hu)
  have cut : ∀ n (lo hi : Option Od), (∀ u ∈ lo.toList.flatMap odT ++ hi.toList.flatMap odT, u ∈ k.looks) → cutB s' n lo hi = cutB s n lo hi := fun n lo hi hx => cutB_congr fun u hu => hg u (hx u hu)
  cases k with
  | as x => simp only [core] at h ⊢; rw [one x (by intro u hu; exact hu)]; exact h
  | st sz a x => cases h
  | app sz byt x y => cases h
  | mks sz byt z n => cases h
  | isn neg x => cases h
  | slM sz x => cases h
  | alloc z => exact h
  | ld ag sz x =>
    have e := one x (fun u hu => hu)
    simp only [core] at h ⊢
    rw [e]
    cases hx : s.val x <;> rw [hx] at h <;> simp only at h ⊢
    · rw [hb ag sz x rfl _ _ _ hx]; exact h
    · exact h
    · exact h
  | pick c a b => simp only [core] at h ⊢; rw [one c (by intro u hu; simp [VK.looks, hu]), one a (by intro u hu; simp [VK.looks, hu]), one b (by intro u hu; simp [VK.looks, hu])]; exact h
  | bin op ty x y => simp only [core] at h ⊢; rw [one x (by intro u hu; simp [VK.looks, hu]), one y (by intro u hu; simp [VK.looks, hu])]; exact h
  | idx x y => simp only [core] at h ⊢; rw [one x (by intro u hu; simp [VK.looks, hu]), one y (by intro u hu; simp [VK.looks, hu])]; exact h
  | ia sz x y => simp only [core] at h ⊢; rw [one x (by intro u hu; simp [VK.looks, hu]), one y (by intro u hu; simp [VK.looks, hu])]; exact h
  | bld z ps => simp only [core] at h ⊢; rw [pvals_congr (s := s) (s' := s') fun u hu => hg u hu]; exact h
  | bsl sz xs => simp only [core] at h ⊢; rw [all xs fun u hu => hu]; exact h
  | call q f as => simp only [core] at h ⊢; rw [all as fun u hu => hu]; exact h
  | mkf f as => simp only [core] at h ⊢; rw [all as fun u hu => hu]; exact h
  | callv q x as => simp only [core] at h ⊢; rw [one x (by intro u hu; simp [VK.looks, hu]), all as (by intro u hu; exact List.mem_append_right _ hu)]; exact h
  | slS x lo hi =>
    simp only [core] at h ⊢
    rw [one x (by intro u hu; simp [VK.looks, hu])]
    obtain ⟨b, h1, l, h', h2, h3⟩ := h
    exact ⟨b, h1, l, h', by rw [cut _ lo hi (by intro u hu; simp only [VK.looks, List.append_assoc]; exact List.mem_append_right _ hu)]; exact h2, h3⟩
  | slL sz x lo hi =>
    simp only [core] at h ⊢
    rw [one x (by intro u hu; simp [VK.looks, hu])]
    obtain ⟨m, z, xs, h1, h2, l, h', h3, h4⟩ := h
    exact ⟨m, z, xs, h1, h2, l, h', by rw [cut _ lo hi (by intro u hu; simp only [VK.looks, List.append_assoc]; exact List.mem_append_right _ hu)]; exact h3, h4⟩
  | mv x => simp only [core] at h ⊢; rw [one x (by intro u hu; exact hu)]; exact h
  | un op x => simp only [core] at h ⊢; rw [one x (by intro u hu; exact hu)]; exact h
  | len op x => simp only [core] at h ⊢; rw [one x (by intro u hu; exact hu)]; exact h
  | fa op x => simp only [core] at h ⊢; rw [one x (by intro u hu; exact hu)]; exact h
  | box op x => simp only [core] at h ⊢; rw [one x (by intro u hu; exact hu)]; exact h
  | ext x op => simp only [core] at h ⊢; rw [one x (by intro u hu; exact hu)]; exact h
  | cvI op x => simp only [core] at h ⊢; rw [one x (by intro u hu; exact hu)]; exact h
  | b2s x => simp only [core] at h ⊢; rw [one x (by intro u hu; exact hu)]; exact h
  | cvS x => simp only [core] at h ⊢; rw [one x (by intro u hu; exact hu)]; exact h
end
end Go.Proofs.Ytpopccnnjpdmlaa.Vm
