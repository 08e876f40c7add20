/- An abstract machine over values: code and functions. -/
import Derived.Test.YtpopccnnjpdmlaaVmO
namespace Go.Proofs.Ytpopccnnjpdmlaa.Vm
open Go Go.RowKit
set_option linter.unusedVariables false
set_option linter.unusedSimpArgs false
theorem look_filter (n : Nat) : ∀ (l : List (Nat × List AV)) (m : Nat), look (l.filter fun p => p.1 != n) m = if m = n then none else look l m
  | [], m => by simp [look]
  | (k, v) :: l, m => by
    by_cases hk : k = n
    · subst hk
      rw [List.filter_cons_of_neg (by simp), look_filter k l m]
      simp only [look]
      by_cases hm : m = k
      · rw [if_pos hm, if_pos hm]
      · rw [if_neg hm, if_neg hm, if_neg hm]
    · rw [List.filter_cons_of_pos (by simpa using hk)]
      simp only [look]
      by_cases hm : m = k
      · rw [if_pos hm, if_pos hm, if_neg (by omega)]
      · rw [if_neg hm, if_neg hm, look_filter n l m]
section
variable {E : Env} {x0 x : X} {w0 w : World} {pb nt : Nat} {a : Act} {s : AS}
/-- Cells that stay as they are from now on. -/
theorem St.row0 (h : St E x0 w0 pb nt x a w s) {b o n : Nat} {f : Nat → Value} (hb : w0.heap.size ≤ b) (hnone : ∀ o', x.G b o' = none) (hblk : ∃ vals ty fz, w.heap[b]? = some (.cells vals ty fz) ∧ ∀ k, k < n → vals[o + k]? = some (f k)) (hnob : ∀ m l, look s.bxs m = some l → x.bx m ≠ b) (htl : ∀ c e t, x.tl c ≠ some (b, e, t)) :
    St E x0 w0 pb nt { x with G := x.G.row b o f n } a w s := by
  have hG : ∀ b' o', b' ≠ b → (x.G.row b o f n) b' o' = x.G b' o' := by intro b' o' hne; unfold Gh.row; rw [if_neg (fun e => hne e.1)]
  have hGle := row_le (G := x.G) (b := b) (o := o) (n := n) (f := f) (fun o' _ _ => hnone o')
  obtain ⟨vals, ty, fz, v1, v3⟩ := hblk
  refine { h with env := fun u => (h.env u).mono hGle, ag := ?_, g1 := fun b' o' v hv => hGle _ _ _ (h.g1 b' o' v hv), g2 := ?_, bxs := ?_, tl := ?_ }
  · intro b' o' v hv
    by_cases hbb : b' = b
    · subst hbb
      refine ⟨vals, ty, fz, v1, ?_⟩
      change (x.G.row b' o f n) b' o' = some v at hv
      unfold Gh.row at hv
      split at hv
      · rename_i hc
        obtain rfl := Option.some.inj hv
        have := v3 (o' - o) (by omega)
        rwa [show o + (o' - o) = o' by omega] at this
      · rw [hnone o'] at hv; cases hv
    · exact h.ag b' o' v (by rw [← hG b' o' hbb]; exact hv)
  · intro b' o' v hv hlt
    have hbb : b' ≠ b := by omega
    exact h.g2 b' o' v (by rw [← hG b' o' hbb]; exact hv) hlt
  · intro m l hm
    obtain ⟨g1, g2, g3⟩ := h.bxs m l hm
    exact ⟨BoxAt.up (x := x) (x' := { x with G := x.G.row b o f n }) g1 hGle ⟨fun _ _ h => h, fun _ _ h => h, fun _ => rfl⟩ rfl rfl (fun _ _ => ⟨rfl, rfl⟩) (fun _ _ _ _ => rfl), g2, fun o' => (hG _ _ (hnob m l hm)).trans (g3 o')⟩
  · refine ⟨fun c b' e t ht => ?_, h.tl.2⟩
    obtain ⟨t1, t2, t3⟩ := h.tl.1 c b' e t ht
    have hbb : b' ≠ b := by rintro rfl; exact htl c e t ht
    exact ⟨t1, t2, fun o' ho' => (hG _ _ hbb).trans (t3 o' ho')⟩
theorem frUL_get : ∀ (cs : List AV) (j : Nat), (frU.frUL cs)[j]? = (cs[j]?).map frU
  | [], j => by simp [frU.frUL]
  | c :: cs, 0 => by simp [frU.frUL]
  | c :: cs, j + 1 => by simpa [frU.frUL] using frUL_get cs j
theorem frUL_len : ∀ (cs : List AV), (frU.frUL cs).length = cs.length
  | [] => rfl
  | c :: cs => by simp [frU.frUL, frUL_len cs]
theorem frU_cells (e : AV) : (frU e).cells = frU.frUL e.cells := by
  cases e with
  | sl m sz xs =>
    obtain ⟨ap, fr⟩ := m
    cases ap <;> simp [frU, frU.frUL, AV.cells]
  | _ => simp [frU, frU.frUL, AV.cells]
theorem frU_okC (e : AV) : okC (frU e) = okC e := by
  cases e with
  | sl m sz xs =>
    obtain ⟨ap, fr⟩ := m
    cases ap <;> rfl
  | _ => rfl
theorem rel_frU {x : X} {base : Nat} (ht : ∀ c b e t, x.tl c = some (b, e, t) → base ≤ b) {v : Value} {a : AV} (r : Rel x base v a) : Rel x base v (frU a) := by
  induction r with
  | un v => exact .un v
  | lit v h => exact .lit v h
  | sl v m sz xs h1 h2 h3 =>
    obtain ⟨ap, fr⟩ := m
    cases ap with
    | no => exact .sl v _ sz xs h1 h2 h3
    | nl => exact .sl v _ sz xs h1 h2 h3
    | ow k => exact .sl v _ sz xs h1 h2 h3
    | cl c =>
      refine .sl v _ sz xs h1.mark (fun hf => ?_) h3
      simp only [Bool.or_eq_true] at hf
      rcases hf with hf | hf
      · exact (h2 hf).mark
      · cases h1 with
        | sl A n cap _ _ _ b o f g1 g2 g3 g4 g5 g6 =>
          refine .sl A n cap _ sz xs b o f g1 g2 g3 g4 (fun i y j c' hy hc => ?_) (fun i y j c' hy hc => ?_)
          · obtain ⟨q1, q2⟩ := g5 i y j c' hy hc
            refine ⟨?_, q2⟩
            unfold Gh.from
            rw [if_pos ?_]
            · exact q1
            · have hne : xs ≠ [] := by rintro rfl; simp at hy
              have hA := g3 hne
              subst hA
              rcases h3 with ⟨A', e⟩ | ⟨b', o', n', cap', e, ht'⟩
              · injection e with _ e2 _
                exact absurd (List.eq_nil_of_length_eq_zero (by omega)) hne
              · injection e with e1 _ _
                injection e1 with e1
                injection e1 with e1 _ _
                rw [e1]; exact ht _ _ _ _ ht'
          · have hl := List.all_eq_true.1 (List.all_eq_true.1 hf y (List.mem_of_getElem? hy)) c' (List.mem_of_getElem? hc)
            have := g6 i y j c' hy hc
            cases c' with
            | lit u => generalize f i j = q at this; cases this with | lit _ h => exact .lit _ h
            | _ => cases hl
  | agg vs cs hs _ ih =>
    refine .agg _ _ (by rw [frUL_len]; exact hs) fun j v d hv hd => ?_
    rw [frUL_get] at hd
    obtain ⟨e, he, rfl⟩ := Option.map_eq_some_iff.1 hd
    exact ih j v e hv he
  | tup vs cs hs _ ih =>
    refine .tup _ _ (by rw [frUL_len]; exact hs) fun j v d hv hd => ?_
    rw [frUL_get] at hd
    obtain ⟨e, he, rfl⟩ := Option.map_eq_some_iff.1 hd
    exact ih j v e hv he
  | ptr n i off => exact .ptr n i off
  | ep b o fr cs f h1 h2 h3 => exact .ep b o fr cs f h1 h2 h3
  | fn f vs cs hs hh ih => exact .fn f vs cs hs hh
  | bs n sz len cap h hl => exact .bs n sz len cap h hl
  | hs v sz xs h => exact .hs v sz xs h
  | hp b o cs f h1 h2 => exact .hp b o cs f h1 h2
theorem wk_sound {s' s : AS} (hw : Wk s' s) : ∀ {x : X}, St E x0 w0 pb nt x a w s → ∃ x', St E x0 w0 pb nt x' a w s' := by
  induction hw with
  | refl s => exact fun h => ⟨_, h⟩
  | frs s =>
    intro x h
    have ht : ∀ c b e t, x.tl c = some (b, e, t) → w0.heap.size ≤ b := fun c b e t ht => (h.tl.1 c b e t ht).1
    have hlk : ∀ n l', look (mapV frU.frUL s.bxs) n = some l' → ∃ l, look s.bxs n = some l ∧ l' = frU.frUL l := by
      intro n l' hl
      rw [look_mapV] at hl
      obtain ⟨l, h1, h2⟩ := Option.map_eq_some_iff.1 hl
      exact ⟨l, h1, h2.symm⟩
    refine ⟨x, { h with env := fun t => ?_, bxs := fun n l' hl => ?_, inj := fun n m l1 l2 h1 h2 e => ?_, tlb := fun c b e t ht n l' hl => ?_ }⟩
    · have : AS.get ⟨mapV frU s.env, mapV frU.frUL s.bxs⟩ t = frU (s.get t) := by
        unfold AS.get
        simp only [look_mapV]
        cases look s.env t <;> rfl
      rw [this]
      exact rel_frU ht (h.env t)
    · obtain ⟨l, h1, rfl⟩ := hlk n l' hl
      obtain ⟨⟨vals, ty, v1, v2, v3, v4⟩, hw, hG⟩ := h.bxs n l h1
      refine ⟨⟨vals, ty, v1, by rw [frUL_len]; exact v2, v3, fun i e he => ?_⟩, hw, hG⟩
      rw [frUL_get] at he
      obtain ⟨e', he', rfl⟩ := Option.map_eq_some_iff.1 he
      obtain ⟨v5, v6⟩ := v4 i e' he'
      refine ⟨by rw [frU_cells, frUL_len]; exact v5, fun j c hc => ?_⟩
      rw [frU_cells, frUL_get] at hc
      obtain ⟨c', hc', rfl⟩ := Option.map_eq_some_iff.1 hc
      obtain ⟨v7, u, v8, v9, v10⟩ := v6 j c' hc'
      exact ⟨by rw [frU_okC]; exact v7, u, v8, v9, rel_frU ht v10⟩
    · obtain ⟨l, h3, _⟩ := hlk n l1 h1
      obtain ⟨l', h4, _⟩ := hlk m l2 h2
      exact h.inj n m l l' h3 h4 e
    · obtain ⟨l, h3, _⟩ := hlk n l' hl
      exact h.tlb c b e t ht n l h3
  | trans _ _ ih1 ih2 =>
    intro x h
    obtain ⟨x1, h1⟩ := ih2 h
    exact ih1 h1
  | env s l hl =>
    intro x h
    refine ⟨x, { h with env := fun u => ?_ }⟩
    unfold AS.get
    cases hu : look l u with
    | none => exact .un _
    | some v => exact wkV_rel (hl u v hu) (h.env u)
  | bxs s l hl =>
    intro x h
    exact ⟨x, { h with bxs := fun n b hb => h.bxs n b (hl n b hb), inj := fun n m l1 l2 h1 h2 e => h.inj n m l1 l2 (hl n l1 h1) (hl m l2 h2) e, tlb := fun c b e t ht n l' hl' => h.tlb c b e t ht n l' (hl n l' hl') }⟩
  | frz s t n sz len l hn ht hb hlen hall =>
    intro x h
    obtain ⟨⟨vals, ty, v1, v2, v3, v4⟩, hwhere, hG⟩ := h.bxs n l hb
    have hge : w0.heap.size ≤ x.bx n := by
      rcases hwhere with hp | hp
      · have := h.pbl; omega
      · exact hp
    have hsub : ∀ m l', look (s.bxs.filter fun p => p.1 != n) m = some l' → m ≠ n ∧ look s.bxs m = some l' := by
      intro m l' hl'
      rw [look_filter] at hl'
      split at hl'
      · cases hl'
      · exact ⟨by assumption, hl'⟩
    have h1 : St E x0 w0 pb nt x a w ⟨s.env, s.bxs.filter fun p => p.1 != n⟩ := { h with bxs := fun m b hb => h.bxs m b (hsub m b hb).2, inj := fun m k l1 l2 q1 q2 e => h.inj m k l1 l2 (hsub m l1 q1).2 (hsub k l2 q2).2 e, tlb := fun c b e t ht m l' hl' => h.tlb c b e t ht m l' (hsub m l' hl').2 }
    have hlt : ∀ k, k < vals.size → vals[k]? = some (vals.getD k undef) := fun k hk => by rw [Array.getElem?_eq_getElem hk]; simp [Array.getD, hk]
    have h2 := h1.row0 (b := x.bx n) (o := 0) (n := vals.size) (f := fun k => vals.getD k undef) hge hG ⟨vals, ty, _, v1, fun k hk => by rw [Nat.zero_add]; exact hlt k hk⟩ (fun m l' hl' e => (hsub m l' hl').1 (h.inj m n l' l (hsub m l' hl').2 hb e)) (fun c e tt htt => h.tlb c _ e tt htt n l hb rfl)
    refine ⟨_, { h2 with env := fun u => ?_ }⟩
    have hg : ∀ u, AS.get ⟨setL t (.sl ⟨.no, true⟩ sz (strip.stripL l)) s.env, s.bxs.filter fun p => p.1 != n⟩ u = if u = t then .sl ⟨.no, true⟩ sz (strip.stripL l) else s.get u := by
      intro u
      unfold AS.get
      simp only [look_setL]
      split <;> rfl
    rw [hg u]
    split
    · rename_i hu
      subst hu
      have hr := h.env u
      have hgu : s.get u = .bs n sz len := by unfold AS.get; rw [ht]; rfl
      rw [hgu] at hr
      generalize hv : a.tmps.getD u undef = v at hr
      cases hr with
      | bs _ _ _ cap hbz hcap =>
        subst hbz
        have cell : ∀ (i : Nat) (y : AV) (j : Nat) (c : AV), (strip.stripL l)[i]? = some y → y.cells[j]? = some c → ∃ q, vals[(x.bz n).2 + i * (x.bz n).1 + j]? = some q ∧ q.oneCell' = true ∧ RepD (x.G.from w0.heap.size) q c := by
          intro i y j c hy hc
          rw [stripL_get] at hy
          obtain ⟨e, he, rfl⟩ := Option.map_eq_some_iff.1 hy
          obtain ⟨_, v6⟩ := v4 i e he
          rw [strip_cells, stripL_get] at hc
          obtain ⟨d, hd, rfl⟩ := Option.map_eq_some_iff.1 hc
          obtain ⟨v7, q, v8, v9, v10⟩ := v6 j d hd
          have hfd := List.all_eq_true.1 hall e (List.mem_of_getElem? he)
          simp only [Bool.and_eq_true] at hfd
          have hde : dat d = true ∧ frA d = true := by
            cases e with
            | agg cs => exact ⟨datL_get hfd.2 hd, frL_get hfd.1 hd⟩
            | _ =>
              cases j with
              | zero => have := Option.some.inj hd; rw [← this]; exact ⟨hfd.2, hfd.1⟩
              | succ j => simp [AV.cells] at hd
          obtain ⟨_, d2, _⟩ := rel_data v10 v7 hde.1
          exact ⟨q, v8, v9, d2 hde.2⟩
        have rep : ∀ {G : Gh}, (x.G.from w0.heap.size).le G → (∀ k, k < vals.size → G (x.bx n) (0 + k) = some (vals.getD k undef)) → RepD G (.slice (some ⟨x.bx n, (x.bz n).2, none⟩) len cap) (.sl ⟨.no, true⟩ (x.bz n).1 (strip.stripL l)) := by
          intro G hle hG2
          refine .sl _ len cap _ _ _ (x.bx n) (x.bz n).2 (fun i j => vals.getD ((x.bz n).2 + i * (x.bz n).1 + j) undef) (by rw [stripL_len, hlen]) hcap (fun _ => rfl) (fun i y hy => ?_) (fun i y j c hy hc => ?_) (fun i y j c hy hc => ?_)
          · rw [stripL_get] at hy
            obtain ⟨e, he, rfl⟩ := Option.map_eq_some_iff.1 hy
            rw [strip_cells, stripL_len]
            exact (v4 i e he).1
          · obtain ⟨q, q1, q2, q3⟩ := cell i y j c hy hc
            have hk := (Array.getElem?_eq_some_iff.1 q1).1
            have hq : vals.getD ((x.bz n).2 + i * (x.bz n).1 + j) undef = q := by rw [Array.getD_eq_getD_getElem?, q1]; rfl
            rw [hq]
            refine ⟨?_, q2⟩
            have := hG2 _ hk
            rw [Nat.zero_add, hq] at this
            exact this
          · obtain ⟨q, q1, q2, q3⟩ := cell i y j c hy hc
            have hq : vals.getD ((x.bz n).2 + i * (x.bz n).1 + j) undef = q := by rw [Array.getD_eq_getD_getElem?, q1]; rfl
            rw [hq]
            exact q3.mono hle
        have hle0 := row_le (G := x.G) (b := x.bx n) (o := 0) (n := vals.size) (f := fun k => vals.getD k undef) (fun o' _ _ => hG o')
        have hrat : ∀ k, k < vals.size → (x.G.row (x.bx n) 0 (fun k => vals.getD k undef) vals.size) (x.bx n) (0 + k) = some (vals.getD k undef) := fun k hk => row_at (f := fun k => vals.getD k undef) hk
        refine .sl _ _ _ _ (rep (fun b o q hq => hle0 _ _ _ (from_le _ _ _ _ _ hq)) hrat) (fun _ => rep (from_mono hle0) (fun k hk => ?_)) trivial
        show (Gh.from w0.heap.size (x.G.row (x.bx n) 0 (fun k => vals.getD k undef) vals.size)) (x.bx n) (0 + k) = _
        unfold Gh.from
        rw [if_pos hge]
        exact hrat k hk
    · exact h2.env u
end
end Go.Proofs.Ytpopccnnjpdmlaa.Vm
