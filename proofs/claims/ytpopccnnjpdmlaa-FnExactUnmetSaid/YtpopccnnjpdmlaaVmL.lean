/- An abstract machine over values: a call, on the state. -/
import Derived.Test.YtpopccnnjpdmlaaVmK
namespace Go.Proofs.Ytpopccnnjpdmlaa.Vm
open Go Go.RowKit
set_option linter.unusedVariables false
set_option linter.unusedSimpArgs false
/-- A result, as the caller takes it over. -/
theorem rel_res {x' X2 : X} {base' base t : Nat} {b : Bool} {v : Value} {r : AV} (h : Rel x' base' v r) : resOk r = true → x'.G.le X2.G → base ≤ base' → (b = true → x'.G.le (X2.G.from base)) → (∀ c, c < 64 → X2.tl (64 * t + c) = x'.tl c) → Rel X2 base v (relab t b r) := by
  induction h with
  | un v => exact fun _ _ _ _ _ => .un v
  | lit v h => exact fun _ _ _ _ _ => .lit v h
  | sl v m sz xs h1 h2 h3 =>
    intro hr hG hbb hf ht
    obtain ⟨ap, fr⟩ := m
    refine .sl _ _ _ _ (h1.mono hG).mark (fun he => ?_) ?_
    · simp only [Bool.or_eq_true] at he
      rcases he with he | he
      · refine ((h2 he).mono ?_).mark
        intro bb o u hu
        unfold Gh.from at hu ⊢
        split at hu
        · rw [if_pos (by omega)]; exact hG _ _ _ hu
        · cases hu
      · exact (h1.mono (hf he)).mark
    · cases ap with
      | no => trivial
      | nl => exact h3
      | cl c =>
        have hc : c < 64 := by simpa [resOk] using hr
        simp only [Room] at h3 ⊢
        rw [ht c hc]
        exact h3
      | ow k => simp [resOk] at hr
  | agg vs cs hs _ ih =>
    intro hr hG hbb hf ht
    refine .agg _ _ (by rw [relabL_len]; exact hs) fun j v d hv hd => ?_
    rw [relabL_get] at hd
    obtain ⟨e, he, rfl⟩ := Option.map_eq_some_iff.1 hd
    exact ih j v e hv he (resL_get hr he) hG hbb hf ht
  | tup vs cs hs _ ih =>
    intro hr hG hbb hf ht
    refine .tup _ _ (by rw [relabL_len]; exact hs) fun j v d hv hd => ?_
    rw [relabL_get] at hd
    obtain ⟨e, he, rfl⟩ := Option.map_eq_some_iff.1 hd
    exact ih j v e hv he (resL_get hr he) hG hbb hf ht
  | ptr => intro hr; cases hr
  | ep => intro hr; cases hr
  | fn => intro hr; cases hr
  | bs => intro hr; cases hr
  | hs => intro hr; cases hr
  | hp => intro hr; cases hr
theorem okC_relab (t : Nat) (b : Bool) (c : AV) : okC (relab t b c) = okC c := by cases c <;> rfl
theorem okC_strip (c : AV) : okC (strip c) = okC c := by cases c <;> rfl
theorem relab_cells (t : Nat) (b : Bool) (c : AV) : (relab t b c).cells = relab.relabL t b c.cells := by cases c <;> simp [relab, AV.cells, relab.relabL]
theorem cell_sub {p : AV → Bool} {pl : List AV → Bool} (h : ∀ {cs : List AV} {j : Nat} {c : AV}, pl cs = true → cs[j]? = some c → p c = true) {e : AV} (hagg : ∀ cs, e = .agg cs → p e = true → pl cs = true) (he : p e = true) {j : Nat} {c : AV} (hc : e.cells[j]? = some c) : p c = true := by
  cases e with
  | agg cs => exact h (hagg cs rfl he) hc
  | _ =>
    cases j with
    | zero => have := Option.some.inj hc; rw [← this]; exact he
    | succ j => simp [AV.cells] at hc
section
variable {E : Env} {x0 x : X} {w0 w : World} {pb nt : Nat} {a : Act} {s : AS}
theorem St.call (h : St E x0 w0 pb nt x a w s) (hK : ∀ n, n < pb → E.ng ≤ x0.bx n) {q : Bool} {f t : Nat} (ht : t < nt) {args : Array Value} {vs : List AV} (hlen : args.size = vs.length) (hargs : ∀ (i : Nat) (v : Value) (c : AV), args[i]? = some v → vs[i]? = some c → Rel x w0.heap.size v c) (hok : argOk.argL vs = true) (hfree : (s.putO (some t) .un).noC t = true)
    {bs bs' : List (List AV)} {r : AV} (hbs : bxsOf s (dd (ptrs.ptrsL vs)) = some bs) (hdat : bs.all dat.datL = true) (hf : Fx E f (bs.map strip.stripL) (ren.renL (dd (ptrs.ptrsL vs)) (strip.stripL vs)) bs' r) (hres : bs'.all (fun l => resOk.resL l && dat.datL l) = true) :
    Calls E.P f args w fun e w' => ∃ v x', e = .returned v ∧ St E x0 w0 pb nt x' (a.put (some t) v) w' ((setBs s (dd (ptrs.ptrsL vs)) (bs'.map (relab.relabL t false))).put t (relab t (frA.frL vs) r)) ∧ Rel x' w.heap.size v (relab t false r) ∧ w.heap.size ≤ w'.heap.size ∧ x'.rg = x.rg := by
  obtain ⟨f1, f2, f3⟩ := hf
  obtain ⟨b1, b2⟩ := bxsOf_get hbs
  generalize hns : (dd (ptrs.ptrsL vs)) = ns at *
  have hnd : ns.Nodup := by rw [← hns]; exact dd_nodup _
  have hbase := h.fr.2.2.2.1
  have hfr0 : frA.frL vs = true → ns = [] := by
    intro hfr
    rw [← hns]
    have : ∀ (cs : List AV), frA.frL cs = true → argOk.argL cs = true → ptrs.ptrsL cs = [] := by
      intro cs
      have one : ∀ c : AV, frA c = true → ptrs c = [] := by
        intro c
        refine AV.rec (motive_1 := fun c => frA c = true → ptrs c = []) (motive_2 := fun cs => frA.frL cs = true → ptrs.ptrsL cs = []) ?_ ?_ ?_ ?_ ?_ ?_ ?_ ?_ ?_ ?_ ?_ ?_ ?_ c
        all_goals (intros; first | rfl | skip)
        · rename_i cs ih h; simp only [ptrs]; exact ih (by simpa [frA] using h)
        · rename_i h; simp [frA] at h
        · rename_i h; simp [frA] at h
        · rename_i h; simp [frA] at h
        · rename_i c cs ih1 ih2 h
          simp [frA.frL] at h
          simp [ptrs.ptrsL, ih1 h.1, ih2 h.2]
      induction cs with
      | nil => intros; rfl
      | cons c cs ih =>
        intro h1 h2
        simp [frA.frL] at h1
        simp [argOk.argL] at h2
        simp [ptrs.ptrsL, one c h1.1, ih h1.2 h2.2]
    rw [this vs hfr hok]
    rfl
  -- the callee's account of the memory
  let xc : X := { G := if frA.frL vs then x.G.from w0.heap.size else x.G, bx := fun k => x.bx (ns.getD k 0), bz := fun k => x.bz (ns.getD k 0), tl := fun _ => none, rg := fun _ _ => False, J := fun b o => frA.frL vs = false ∧ x.J b o, rv := fun _ => none }
  have hGc : xc.G.le x.G := by
    show Gh.le (if frA.frL vs then x.G.from w0.heap.size else x.G) x.G
    split
    · exact from_le _ _
    · exact fun _ _ _ h => h
  have hbx : ∀ n k, ns[k]? = some n → xc.bx k = x.bx n ∧ xc.bz k = x.bz n := by
    intro n k hk
    simp only [xc, List.getD, hk, Option.getD_some]
    exact ⟨trivial, trivial⟩
  have box : ∀ (k : Nat) (l : List AV), bs[k]? = some l → ∃ n, ns[k]? = some n ∧ look s.bxs n = some l := b2
  have hng : ∀ n, n < (bs.map strip.stripL).length → E.ng ≤ xc.bx n := by
    intro k hk
    have hk' : k < bs.length := by simpa using hk
    obtain ⟨n, hn, hl⟩ := box k bs[k] (List.getElem?_eq_getElem hk')
    rw [(hbx n k hn).1]
    rcases (h.bxs n _ hl).2.1 with hp | hp
    · rw [(h.pbx n hp).1]; exact hK n hp
    · have := E.hg _ h.k; omega
  have hJold : ∀ b o, x.J b o → b < w0.heap.size ∧ E.ng ≤ b ∧ x.G b o = none ∧ ∀ n l, look s.bxs n = some l → x.bx n ≠ b := by
    intro b o hj
    rw [h.jx] at hj
    obtain ⟨j1, j2, j3, j4⟩ := h.j0 b o hj
    refine ⟨j1, j2, ?_, fun n l hl => ?_⟩
    · cases hx : x.G b o with
      | none => rfl
      | some u => rw [h.g2 b o u hx j1] at j3; cases j3
    · rcases (h.bxs n l hl).2.1 with hp | hp
      · rw [(h.pbx n hp).1]; exact j4 n hp
      · omega
  have hjpre : JPre E.ng (bs.map strip.stripL).length xc w := by
    refine ⟨fun b o hj => h.jp b o (by rw [← h.jx]; exact hj.2), fun b o hj => ?_, fun _ _ hf => hf⟩
    obtain ⟨j1, j2, j3, j4⟩ := hJold b o hj.2
    refine ⟨j2, ?_, fun k hk => ?_⟩
    · cases hx : xc.G b o with
      | none => rfl
      | some u => rw [hGc _ _ _ hx] at j3; cases j3
    · have hk' : k < bs.length := by simpa using hk
      obtain ⟨n, hn, hl⟩ := box k bs[k] (List.getElem?_eq_getElem hk')
      rw [(hbx n k hn).1]
      exact j4 n _ hl
  have hcall := f3 xc w args (h.K hK) (fun _ => rfl) hng hjpre (by rw [renL_len, stripL_len]; exact hlen) (fun i v c hv hc => ?_) (fun b o v hv => h.ag b o v (hGc _ _ _ hv)) (fun k l hk => ?_) (fun n m hn hm e => ?_)
  · refine hcall.mono ?_
    rintro e w' ⟨v, x', rfl, g1, g2, g3, g4, g5, g6, g7, g8, g9, g10⟩
    obtain ⟨w1, w2, w3, w4, w5⟩ := g5
    have hS : ∀ b, SBx (bs.map strip.stripL).length xc b → (∃ n l, ns.contains n = true ∧ look s.bxs n = some l ∧ b = x.bx n) ∨ (frA.frL vs = false ∧ ∃ o, x.J b o) := by
      rintro b (⟨k, hk, rfl⟩ | ⟨o, ho⟩)
      · have hk' : k < bs.length := by simpa using hk
        obtain ⟨n, hn, hl⟩ := box k bs[k] (List.getElem?_eq_getElem hk')
        exact .inl ⟨n, _, by simp; exact List.mem_of_getElem? hn, hl, (hbx n k hn).1⟩
      · exact .inr ⟨ho.1, o, ho.2⟩
    -- what was known and what the callee made
    let G2 : Gh := fun b o => (x.G b o).or (x'.G b o)
    have hle1 : x.G.le G2 := fun b o u hu => by simp [G2, hu]
    have hag1 : Agree x.G w' := by
      intro b o u hu
      by_cases hj : frA.frL vs = false ∧ ∃ o, x.J b o
      · refine g4 b o u (g2 b o u ?_)
        show (if frA.frL vs then x.G.from w0.heap.size else x.G) b o = some u
        rw [hj.1]
        exact hu
      · obtain ⟨c, ty, fz, e1, e2⟩ := h.ag b o u hu
        refine ⟨c, ty, fz, (w5 b (agree_lt h.ag hu) fun hh => ?_).trans e1, e2⟩
        rcases hS b hh with ⟨n, l, _, hl, rfl⟩ | hh
        · rw [(h.bxs n l hl).2.2 o] at hu; cases hu
        · exact hj hh
    have hle2 : x'.G.le G2 := by
      intro b o u hu
      cases hx : x.G b o with
      | none => simp [G2, hx, hu]
      | some u' =>
        have e1 := agree_cell hag1 hx
        have e2 := agree_cell g4 hu
        rw [e1] at e2
        simp [G2, hx, Option.some.inj e2]
    have hG2 : ∀ b o u, G2 b o = some u → x.G b o = some u ∨ x'.G b o = some u := by
      intro b o u hu
      simp only [G2, Option.or_eq_some_iff] at hu
      rcases hu with hu | ⟨_, hu⟩
      · exact .inl hu
      · exact .inr hu
    have hnew : ∀ b o u, x'.G b o = some u → b < w.heap.size → x.G b o = some u := fun b o u hu hb => hGc _ _ _ (g3 b o u hu hb)
    let X2 : X := { G := G2, bx := x.bx, bz := x.bz, tl := fun c => if c / 64 = t then x'.tl (c % 64) else x.tl c, rg := x.rg, J := x.J, rv := x.rv }
    have htl : ∀ c, c < 64 → X2.tl (64 * t + c) = x'.tl c := by
      intro c hc
      show (if (64 * t + c) / 64 = t then x'.tl ((64 * t + c) % 64) else x.tl (64 * t + c)) = _
      rw [if_pos (by omega), show (64 * t + c) % 64 = c by omega]
    have htl2 : ∀ d, d ≠ t → ∀ c, c / 64 = d → X2.tl c = x.tl c := by
      intro d hd c hc
      show (if c / 64 = t then x'.tl (c % 64) else x.tl c) = _
      rw [if_neg (by omega)]
    have hfresh : frA.frL vs = true → x'.G.le (X2.G.from w0.heap.size) := by
      intro hfr b o u hu
      show (G2.from w0.heap.size) b o = some u
      unfold Gh.from
      rw [if_pos ?_]
      · exact hle2 _ _ _ hu
      · rcases Nat.lt_or_ge b w.heap.size with hb | hb
        · have := g3 b o u hu hb
          simp only [xc, hfr, if_true] at this
          unfold Gh.from at this
          split at this
          · assumption
          · cases this
        · omega
    have hboxlt : ∀ n l, look s.bxs n = some l → x.bx n < w.heap.size := fun n l hl => box_lt h hl
    have hnone : ∀ n l, look s.bxs n = some l → ∀ o, G2 (x.bx n) o = none := by
      intro n l hl o
      have h1 := (h.bxs n l hl).2.2 o
      cases hx : x'.G (x.bx n) o with
      | none => simp [G2, h1, hx]
      | some u => rw [hnew _ _ _ hx (hboxlt n l hl)] at h1; cases h1
    have hlook : ∀ n l', look ((setBs s ns (bs'.map (relab.relabL t false))).put t (relab t (frA.frL vs) r)).bxs n = some l' → ∃ l, look s.bxs n = some l ∧ BoxAt X2 w0.heap.size w' n l' := by
      intro n l' hl'
      rw [bxs_put] at hl'
      rcases setBs_look ns _ s n l' (by simp [f1, b1]) hnd hl' with ⟨k, hk1, hk2⟩ | ⟨hk1, hk2⟩
      · rw [List.getElem?_map] at hk2
        obtain ⟨l1, hl1, rfl⟩ := Option.map_eq_some_iff.1 hk2
        have hkb : k < bs.length := by rw [b1]; exact (List.getElem?_eq_some_iff.1 hk1).1
        obtain ⟨n', hn', hl⟩ := box k bs[k] (List.getElem?_eq_getElem hkb)
        rw [hk1] at hn'
        obtain rfl := Option.some.inj hn'
        refine ⟨_, hl, ?_⟩
        obtain ⟨⟨vals, ty, v1, v2, v3, v4⟩, _⟩ := g7 k l1 hl1
        obtain ⟨q1, q2⟩ := g6 k (by simpa using hkb)
        obtain ⟨q3, q4⟩ := hbx n k hk1
        rw [q1, q3] at v1
        rw [q2, q4] at v2 v3
        have hall := List.all_eq_true.1 hres l1 (List.mem_of_getElem? hl1)
        simp only [Bool.and_eq_true] at hall
        refine ⟨vals, ty, v1, by rw [relabL_len]; exact v2, v3, fun i e he => ?_⟩
        rw [relabL_get] at he
        obtain ⟨e', he', rfl⟩ := Option.map_eq_some_iff.1 he
        obtain ⟨v5, v6⟩ := v4 i e' he'
        rw [q2, q4] at v5
        refine ⟨by rw [relab_cells, relabL_len]; exact v5, fun j c hc => ?_⟩
        rw [relab_cells, relabL_get] at hc
        obtain ⟨c', hc', rfl⟩ := Option.map_eq_some_iff.1 hc
        obtain ⟨v7, u, v8, v9, v10⟩ := v6 j c' hc'
        rw [q2, q4] at v8
        have hrc : resOk c' = true := by
          have := resL_get hall.1 he'
          cases e' with
          | agg cs => exact resL_get this hc'
          | _ =>
            cases j with
            | zero => have hh := Option.some.inj hc'; rw [← hh]; exact this
            | succ j => simp [AV.cells] at hc'
        exact ⟨by rw [okC_relab]; exact v7, u, v8, v9, rel_res v10 hrc hle2 hbase (fun hh => by cases hh) htl⟩
      · refine ⟨l', hk2, (BoxAt.up (x := x) (x' := X2) (h.bxs n l' hk2).1 hle1 ⟨fun _ _ h => h, fun _ _ h => h, fun _ => rfl⟩ rfl rfl (fun _ _ => ⟨rfl, rfl⟩) (fun d hd => htl2 d ?_)).heap (w5 _ (hboxlt n l' hk2) fun hh => ?_)⟩
        · rintro rfl
          rw [noC_box hfree hk2] at hd; cases hd
        · rcases hS _ hh with ⟨m, l, hm, hl, e⟩ | ⟨_, o, ho⟩
          · have := h.inj n m l' l hk2 hl e
            subst this
            exact hk1 (by simpa using hm)
          · exact (hJold _ o ho).2.2.2 n l' hk2 rfl
    refine ⟨v, X2, rfl, { df := by rw [defers_put]; exact h.df, nt := by rw [size_put]; exact h.nt, env := fun u => ?_, k := h.k, fr := h.fr.step w1 w2 w3 w4 (fun k hk hs => w5 k (by omega) fun hh => ?_), ag := fun b o u hu => ?_, g1 := fun b o u hu => hle1 _ _ _ (h.g1 b o u hu), g2 := fun b o u hu hb => ?_, pbx := h.pbx, pbl := h.pbl, bxs := fun n l' hl' => ?_, inj := fun n m l1 l2 h1 h2 e => ?_, tl := ⟨fun c b e tt htt => ?_, fun c c' b e tt e' tt' h1 h2 => ?_⟩, tlb := fun c b e tt htt n l' hl' => ?_, jp := fun b o hj => ?_, j0 := h.j0, jx := h.jx, uf := fun b c ty fz hb hh => ?_, rgb := fun k b hb => ⟨Nat.lt_of_lt_of_le (h.rgb k b hb).1 w4, (h.rgb k b hb).2⟩, rgd := h.rgd, g0 := h.g0 }, rel_res g1 f2 hle2 (Nat.le_refl _) (fun hh => by cases hh) htl, w4, rfl⟩
    · rw [getD_put]
      simp only [get_put, setBs_get]
      by_cases hu : u = t
      · rw [if_pos ⟨hu, by rw [h.nt]; exact ht⟩, if_pos hu]
        exact rel_res g1 f2 hle2 hbase hfresh htl
      · rw [if_neg (fun e => hu e.1), if_neg hu]
        refine Rel.up (x := x) (x' := X2) hle1 ⟨fun _ _ h => h, fun _ _ h => h, fun _ => rfl⟩ (h.env u) (fun _ _ => ⟨rfl, rfl⟩) (fun d hd => htl2 d ?_)
        rintro rfl
        rw [noC_of hfree u hu] at hd; cases hd
    · rcases hS k hh with ⟨n, l, _, hl, rfl⟩ | ⟨_, o, ho⟩
      · rcases (h.bxs n l hl).2.1 with hp | hp
        · exact hs (.inl ⟨n, hp, (h.pbx n hp).1⟩)
        · omega
      · exact hs (.inr ⟨o, by rw [← h.jx]; exact ho⟩)
    · rcases hG2 b o u hu with hu | hu
      · exact hag1 b o u hu
      · exact g4 b o u hu
    · rcases hG2 b o u hu with hu | hu
      · exact h.g2 b o u hu hb
      · exact h.g2 b o u (hnew b o u hu (by omega)) hb
    · obtain ⟨l, hl, hb⟩ := hlook n l' hl'
      exact ⟨hb, (h.bxs n l hl).2.1, hnone n l hl⟩
    · obtain ⟨l, hl, _⟩ := hlook n l1 h1
      obtain ⟨l', hl', _⟩ := hlook m l2 h2
      exact h.inj n m l l' hl hl' e
    · change (if c / 64 = t then x'.tl (c % 64) else x.tl c) = some (b, e, tt) at htt
      split at htt
      · obtain ⟨q1, q2, q3⟩ := g8.1 _ _ _ _ htt
        refine ⟨by omega, q2, fun o ho => ?_⟩
        have h1 : x.G b o = none := by
          cases hx : x.G b o with
          | none => rfl
          | some u => have := agree_lt h.ag hx; omega
        show (x.G b o).or (x'.G b o) = none
        rw [h1, q3 o ho]; rfl
      · obtain ⟨q1, ⟨vals, ty, q2, q3⟩, q4⟩ := h.tl.1 _ _ _ _ htt
        have hlt := (Array.getElem?_eq_some_iff.1 q2).1
        refine ⟨q1, ⟨vals, ty, (w5 b hlt fun hh => ?_).trans q2, q3⟩, fun o ho => ?_⟩
        · rcases hS b hh with ⟨n, l, _, hl, e⟩ | ⟨_, o, ho⟩
          · exact h.tlb _ _ _ _ htt n l hl e.symm
          · have := (hJold b o ho).1
            omega
        · have h1 := q4 o ho
          have h2 : x'.G b o = none := by
            cases hx : x'.G b o with
            | none => rfl
            | some u => rw [hnew b o u hx hlt] at h1; cases h1
          show (x.G b o).or (x'.G b o) = none
          rw [h1, h2]; rfl
    · change (if c / 64 = t then x'.tl (c % 64) else x.tl c) = some (b, e, tt) at h1
      change (if c' / 64 = t then x'.tl (c' % 64) else x.tl c') = some (b, e', tt') at h2
      have old : ∀ {k eb te}, x.tl k = some (b, eb, te) → b < w.heap.size := by
        intro k eb te hk
        obtain ⟨_, ⟨vals, ty, q2, _⟩, _⟩ := h.tl.1 _ _ _ _ hk
        exact (Array.getElem?_eq_some_iff.1 q2).1
      have new : ∀ {k eb te}, x'.tl k = some (b, eb, te) → w.heap.size ≤ b := fun hk => (g8.1 _ _ _ _ hk).1
      split at h1
      · split at h2
        · have := g8.2 _ _ _ _ _ _ _ h1 h2
          omega
        · have := new h1; have := old h2; omega
      · split at h2
        · have := old h1; have := new h2; omega
        · exact h.tl.2 _ _ _ _ _ _ _ h1 h2
    · change (if c / 64 = t then x'.tl (c % 64) else x.tl c) = some (b, e, tt) at htt
      obtain ⟨l, hl, _⟩ := hlook n l' hl'
      split at htt
      · have := (g8.1 _ _ _ _ htt).1
        have := hboxlt n l hl
        show x.bx n ≠ b
        omega
      · exact h.tlb _ _ _ _ htt n l hl
    · have hjx : x.J b o := by rw [h.jx]; exact hj
      by_cases hf : frA.frL vs = false
      · exact g9 b o ⟨hf, hjx⟩
      · obtain ⟨vs', ty, q1, q2⟩ := h.jp b o hj
        refine ⟨vs', ty, (w5 b (Array.getElem?_eq_some_iff.1 q1).1 fun hh => ?_).trans q1, q2⟩
        rcases hS b hh with ⟨n, l, _, hl, e⟩ | hh
        · exact (hJold b o hjx).2.2.2 n l hl e.symm
        · exact hf hh.1
    · rcases Nat.lt_or_ge b w.heap.size with hlt | hge
      · by_cases hsb : SBx (bs.map strip.stripL).length xc b
        · rcases hS b hsb with ⟨n, l, hn, hl, e⟩ | ⟨_, o, ho⟩
          · obtain ⟨k, hk, hkn⟩ := List.getElem_of_mem (by simpa using hn : n ∈ ns)
            have hkb : k < bs'.length := by rw [f1]; simp; omega
            obtain ⟨⟨vals, ty', v1, _⟩, _⟩ := g7 k _ (List.getElem?_eq_getElem hkb)
            obtain ⟨q1, _⟩ := g6 k (by simp; omega)
            have hn' : ns[k]? = some n := by rw [List.getElem?_eq_getElem hk, hkn]
            rw [q1, (hbx n k hn').1, ← e, hh] at v1
            injection v1 with v1; injection v1
          · have := (hJold b o ho).1
            omega
        · rw [w5 b hlt hsb] at hh
          exact h.uf b c ty fz hb hh
      · exact g10 b c ty fz hge hh
  · rw [renL_get, stripL_get, Option.map_map] at hc
    obtain ⟨c', hc', rfl⟩ := Option.map_eq_some_iff.1 hc
    refine rel_arg (hargs i v c' hv hc') (argL_get hok hc') (fun n hn => ?_) hbx (fun u y h1 h2 => ?_) (fun u y h1 h2 => ?_)
    · rw [← hns, dd_mem]
      exact ptrsL_get hc' n hn
    · show RepD (if frA.frL vs then x.G.from w0.heap.size else x.G) u y
      split
      · rename_i hfr; exact h2 (frL_get hfr hc')
      · exact h1
    · have hff : frA.frL vs = false := by
        cases hf : frA.frL vs with
        | false => rfl
        | true => rw [frL_get hf hc'] at h2; cases h2
      refine h1.mono (fun b o u hu => ?_) (fun b o hj => ⟨hff, hj⟩)
      show (if frA.frL vs then x.G.from w0.heap.size else x.G) b o = some u
      rw [hff]
      exact hu
  · rw [List.getElem?_map] at hk
    obtain ⟨l1, hl1, rfl⟩ := Option.map_eq_some_iff.1 hk
    obtain ⟨n, hn, hl⟩ := box k l1 hl1
    obtain ⟨q3, q4⟩ := hbx n k hn
    obtain ⟨⟨vals, ty, v1, v2, v3, v4⟩, _, hG⟩ := h.bxs n l1 hl
    have hd := List.all_eq_true.1 hdat l1 (List.mem_of_getElem? hl1)
    have hnf : frA.frL vs = false := by
      cases hh : frA.frL vs with
      | false => rfl
      | true => have := hfr0 hh; rw [this] at hn; simp at hn
    refine ⟨⟨vals, ty, by rw [q3]; exact v1, by rw [q4, stripL_len]; exact v2, by rw [q4]; exact v3, fun i e he => ?_⟩, fun o => ?_⟩
    · rw [stripL_get] at he
      obtain ⟨e', he', rfl⟩ := Option.map_eq_some_iff.1 he
      obtain ⟨v5, v6⟩ := v4 i e' he'
      refine ⟨by rw [q4, strip_cells, stripL_len]; exact v5, fun j c hc => ?_⟩
      rw [strip_cells, stripL_get] at hc
      obtain ⟨c', hc', rfl⟩ := Option.map_eq_some_iff.1 hc
      obtain ⟨v7, u, v8, v9, v10⟩ := v6 j c' hc'
      have hdc : dat c' = true := by
        have := datL_get hd he'
        cases e' with
        | agg cs => exact datL_get this hc'
        | _ =>
          cases j with
          | zero => have hh := Option.some.inj hc'; rw [← hh]; exact this
          | succ j => simp [AV.cells] at hc'
      refine ⟨by rw [okC_strip]; exact v7, u, by rw [q4]; exact v8, v9, rel_dat v10 hdc fun uu y h1 _ => ?_⟩
      show RepD (if frA.frL vs then x.G.from w0.heap.size else x.G) uu y
      rw [hnf]
      exact h1
    · rw [q3]
      cases hx : xc.G (x.bx n) o with
      | none => rfl
      | some u => have := hGc _ _ _ hx; rw [hG o] at this; cases this
  · rw [List.length_map] at hn hm
    obtain ⟨n1, hn1, hl1⟩ := box n bs[n] (List.getElem?_eq_getElem hn)
    obtain ⟨m1, hm1, hl2⟩ := box m bs[m] (List.getElem?_eq_getElem hm)
    rw [(hbx n1 n hn1).1, (hbx m1 m hm1).1] at e
    have e2 := h.inj n1 m1 _ _ hl1 hl2 e
    rw [← e2] at hm1
    obtain ⟨p1, p2⟩ := List.getElem?_eq_some_iff.1 hn1
    obtain ⟨p3, p4⟩ := List.getElem?_eq_some_iff.1 hm1
    exact (List.getElem_inj hnd).1 (p2.trans p4.symm)
end
end Go.Proofs.Ytpopccnnjpdmlaa.Vm
