/- An abstract machine over values: code and functions. -/
import Derived.Test.YtpopccnnjpdmlaaVmO
namespace Go.Proofs.Ytpopccnnjpdmlaa.Vm
open Go Go.RowKit
set_option linter.unusedVariables false
set_option linter.unusedSimpArgs false
theorem look_filter (n : Nat) : ∀ (l : List (Nat × List AV)) (m : Nat), look (l.filter fun p => p.1 != n) m = if m = n then none else look l m
  | [], m => by simp [look]
  | (k, v) :: l, m => by
    by_cases hk : k = n
    · subst hk
      rw [List.filter_cons_of_neg (by simp), look_filter k l m]
      simp only [look]
      by_cases hm : m = k
      · rw [if_pos hm, if_pos hm]
      · rw [if_neg hm, if_neg hm, if_neg hm]
    · rw [List.filter_cons_of_pos (by simpa using hk)]
      simp only [look]
      by_cases hm : m = k
      · rw [if_pos hm, if_pos hm, if_neg (by omega)]
      · rw [if_neg hm, if_neg hm, look_filter n l m]
section
variable {E : Env} {x0 x : X} {w0 w : World} {pb nt : Nat} {a : Act} {s : AS}
/-- Cells that stay as they are from now on. -/
theorem St.row0 (h : St E x0 w0 pb nt x a w s) {b o n : Nat} {f : Nat → Value} (hb : w0.heap.size ≤ b) (hnone : ∀ o', x.G b o' = none) (hblk : ∃ vals ty fz, w.heap[b]? = some (.cells vals ty fz) ∧ ∀ k, k < n → vals[o + k]? = some (f k)) (hnob : ∀ m l, look s.bxs m = some l → x.bx m ≠ b) (htl : ∀ c e t, x.tl c ≠ some (b, e, t)) :
    St E x0 w0 pb nt { x with G := x.G.row b o f n } a w s := by
  have hG : ∀ b' o', b' ≠ b → (x.G.row b o f n) b' o' = x.G b' o' := by intro b' o' hne; unfold Gh.row; rw [if_neg (fun e => hne e.1)]
  have hGle := row_le (G := x.G) (b := b) (o := o) (n := n) (f := f) (fun o' _ _ => hnone o')
  obtain ⟨vals, ty, fz, v1, v3⟩ := hblk
  refine { h with env := fun u => (h.env u).mono hGle, ag := ?_, g1 := fun b' o' v hv => hGle _ _ _ (h.g1 b' o' v hv), g2 := ?_, bxs := ?_, tl := ?_ }
  · intro b' o' v hv
    by_cases hbb : b' = b
    · subst hbb
      refine ⟨vals, ty, fz, v1, ?_⟩
      change (x.G.row b' o f n) b' o' = some v at hv
      unfold Gh.row at hv
      split at hv
      · rename_i hc
        obtain rfl := Option.some.inj hv
        have := v3 (o' - o) (by omega)
        rwa [show o + (o' - o) = o' by omega] at this
      · rw [hnone o'] at hv; cases hv
    · exact h.ag b' o' v (by rw [← hG b' o' hbb]; exact hv)
  · intro b' o' v hv hlt
    have hbb : b' ≠ b := by omega
    exact h.g2 b' o' v (by rw [← hG b' o' hbb]; exact hv) hlt
  · intro m l hm
    obtain ⟨g1, g2, g3⟩ := h.bxs m l hm
    exact ⟨BoxAt.up (x := x) (x' := { x with G := x.G.row b o f n }) g1 hGle rfl rfl (fun _ _ => ⟨rfl, rfl⟩) (fun _ _ _ _ => rfl), g2, fun o' => (hG _ _ (hnob m l hm)).trans (g3 o')⟩
  · refine ⟨fun c b' e t ht => ?_, h.tl.2⟩
    obtain ⟨t1, t2, t3⟩ := h.tl.1 c b' e t ht
    have hbb : b' ≠ b := by rintro rfl; exact htl c e t ht
    exact ⟨t1, t2, fun o' ho' => (hG _ _ hbb).trans (t3 o' ho')⟩
theorem wk_sound {s' s : AS} (hw : Wk s' s) : ∀ {x : X}, St E x0 w0 pb nt x a w s → ∃ x', St E x0 w0 pb nt x' a w s' := by
  induction hw with
  | refl s => exact fun h => ⟨_, h⟩
  | trans _ _ ih1 ih2 =>
    intro x h
    obtain ⟨x1, h1⟩ := ih2 h
    exact ih1 h1
  | env s l hl =>
    intro x h
    refine ⟨x, { h with env := fun u => ?_ }⟩
    unfold AS.get
    cases hu : look l u with
    | none => exact .un _
    | some v => exact wkV_rel (hl u v hu) (h.env u)
  | bxs s l hl =>
    intro x h
    exact ⟨x, { h with bxs := fun n b hb => h.bxs n b (hl n b hb), inj := fun n m l1 l2 h1 h2 e => h.inj n m l1 l2 (hl n l1 h1) (hl m l2 h2) e, tlb := fun c b e t ht n l' hl' => h.tlb c b e t ht n l' (hl n l' hl') }⟩
  | frz s t n sz len l hn ht hb hlen hall =>
    intro x h
    obtain ⟨⟨vals, ty, v1, v2, v3, v4⟩, hwhere, hG⟩ := h.bxs n l hb
    have hge : w0.heap.size ≤ x.bx n := by
      rcases hwhere with hp | hp
      · have := h.pbl; omega
      · exact hp
    have hsub : ∀ m l', look (s.bxs.filter fun p => p.1 != n) m = some l' → m ≠ n ∧ look s.bxs m = some l' := by
      intro m l' hl'
      rw [look_filter] at hl'
      split at hl'
      · cases hl'
      · exact ⟨by assumption, hl'⟩
    have h1 : St E x0 w0 pb nt x a w ⟨s.env, s.bxs.filter fun p => p.1 != n⟩ := { h with bxs := fun m b hb => h.bxs m b (hsub m b hb).2, inj := fun m k l1 l2 q1 q2 e => h.inj m k l1 l2 (hsub m l1 q1).2 (hsub k l2 q2).2 e, tlb := fun c b e t ht m l' hl' => h.tlb c b e t ht m l' (hsub m l' hl').2 }
    have hlt : ∀ k, k < vals.size → vals[k]? = some (vals.getD k undef) := fun k hk => by rw [Array.getElem?_eq_getElem hk]; simp [Array.getD, hk]
    have h2 := h1.row0 (b := x.bx n) (o := 0) (n := vals.size) (f := fun k => vals.getD k undef) hge hG ⟨vals, ty, _, v1, fun k hk => by rw [Nat.zero_add]; exact hlt k hk⟩ (fun m l' hl' e => (hsub m l' hl').1 (h.inj m n l' l (hsub m l' hl').2 hb e)) (fun c e tt htt => h.tlb c _ e tt htt n l hb rfl)
    refine ⟨_, { h2 with env := fun u => ?_ }⟩
    have hg : ∀ u, AS.get ⟨setL t (.sl ⟨.no, true⟩ sz (strip.stripL l)) s.env, s.bxs.filter fun p => p.1 != n⟩ u = if u = t then .sl ⟨.no, true⟩ sz (strip.stripL l) else s.get u := by
      intro u
      unfold AS.get
      simp only [look_setL]
      split <;> rfl
    rw [hg u]
    split
    · rename_i hu
      subst hu
      have hr := h.env u
      have hgu : s.get u = .bs n sz len := by unfold AS.get; rw [ht]; rfl
      rw [hgu] at hr
      generalize hv : a.tmps.getD u undef = v at hr
      cases hr with
      | bs _ _ _ hbz =>
        subst hbz
        have cell : ∀ (i : Nat) (y : AV) (j : Nat) (c : AV), (strip.stripL l)[i]? = some y → y.cells[j]? = some c → ∃ q, vals[i * x.bz n + j]? = some q ∧ q.oneCell' = true ∧ RepD (x.G.from w0.heap.size) q c := by
          intro i y j c hy hc
          rw [stripL_get] at hy
          obtain ⟨e, he, rfl⟩ := Option.map_eq_some_iff.1 hy
          obtain ⟨_, v6⟩ := v4 i e he
          rw [strip_cells, stripL_get] at hc
          obtain ⟨d, hd, rfl⟩ := Option.map_eq_some_iff.1 hc
          obtain ⟨v7, q, v8, v9, v10⟩ := v6 j d hd
          have hfd := List.all_eq_true.1 hall e (List.mem_of_getElem? he)
          simp only [Bool.and_eq_true] at hfd
          have hde : dat d = true ∧ frA d = true := by
            cases e with
            | agg cs => exact ⟨datL_get hfd.2 hd, frL_get hfd.1 hd⟩
            | _ =>
              cases j with
              | zero => have := Option.some.inj hd; rw [← this]; exact ⟨hfd.2, hfd.1⟩
              | succ j => simp [AV.cells] at hd
          obtain ⟨_, d2, _⟩ := rel_data v10 v7 hde.1
          exact ⟨q, v8, v9, d2 hde.2⟩
        have rep : ∀ {G : Gh}, (x.G.from w0.heap.size).le G → (∀ k, k < vals.size → G (x.bx n) (0 + k) = some (vals.getD k undef)) → RepD G (.slice (some ⟨x.bx n, 0, none⟩) len len) (.sl ⟨.no, true⟩ (x.bz n) (strip.stripL l)) := by
          intro G hle hG2
          refine .sl _ len len _ _ _ (x.bx n) 0 (fun i j => vals.getD (i * x.bz n + j) undef) (by rw [stripL_len, hlen]) (Nat.le_refl _) (fun _ => rfl) (fun i y hy => ?_) (fun i y j c hy hc => ?_) (fun i y j c hy hc => ?_)
          · rw [stripL_get] at hy
            obtain ⟨e, he, rfl⟩ := Option.map_eq_some_iff.1 hy
            rw [strip_cells, stripL_len]
            exact (v4 i e he).1
          · obtain ⟨q, q1, q2, q3⟩ := cell i y j c hy hc
            have hk := (Array.getElem?_eq_some_iff.1 q1).1
            have hq : vals.getD (i * x.bz n + j) undef = q := by rw [Array.getD_eq_getD_getElem?, q1]; rfl
            rw [hq, Nat.add_assoc, hG2 _ hk, hq]
            exact ⟨rfl, q2⟩
          · obtain ⟨q, q1, q2, q3⟩ := cell i y j c hy hc
            have hq : vals.getD (i * x.bz n + j) undef = q := by rw [Array.getD_eq_getD_getElem?, q1]; rfl
            rw [hq]
            exact q3.mono hle
        have hle0 := row_le (G := x.G) (b := x.bx n) (o := 0) (n := vals.size) (f := fun k => vals.getD k undef) (fun o' _ _ => hG o')
        have hrat : ∀ k, k < vals.size → (x.G.row (x.bx n) 0 (fun k => vals.getD k undef) vals.size) (x.bx n) (0 + k) = some (vals.getD k undef) := fun k hk => row_at (f := fun k => vals.getD k undef) hk
        refine .sl _ _ _ _ (rep (fun b o q hq => hle0 _ _ _ (from_le _ _ _ _ _ hq)) hrat) (fun _ => rep (from_mono hle0) (fun k hk => ?_)) trivial
        show (Gh.from w0.heap.size (x.G.row (x.bx n) 0 (fun k => vals.getD k undef) vals.size)) (x.bx n) (0 + k) = _
        unfold Gh.from
        rw [if_pos hge]
        exact hrat k hk
    · exact h2.env u
end
end Go.Proofs.Ytpopccnnjpdmlaa.Vm
