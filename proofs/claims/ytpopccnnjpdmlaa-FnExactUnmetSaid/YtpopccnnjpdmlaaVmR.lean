/- An abstract machine over values: functions. -/
import Derived.Test.YtpopccnnjpdmlaaVmQ
namespace Go.Proofs.Ytpopccnnjpdmlaa.Vm
open Go Go.RowKit
set_option linter.unusedVariables false
set_option linter.unusedSimpArgs false
theorem look_enum {α : Type} : ∀ (l : List α) (i t : Nat), look (enum i l) t = if i ≤ t then l[t - i]? else none
  | [], i, t => by simp [enum, look]
  | y :: l, i, t => by
    simp only [enum, look]
    by_cases h : t = i
    · subst h; simp
    · rw [if_neg h, look_enum l (i + 1) t]
      by_cases h2 : i + 1 ≤ t
      · rw [if_pos h2, if_pos (by omega), show t - i = (t - (i + 1)) + 1 by omega, List.getElem?_cons_succ]
      · rw [if_neg h2, if_neg (by omega)]
theorem reC_cells (ks : List Nat) (c : AV) : (reC ks c).cells = reC.reL ks c.cells := by cases c <;> simp [reC, AV.cells, reC.reL]
theorem okC_reC (ks : List Nat) (c : AV) : okC (reC ks c) = okC c := by cases c <;> rfl
section
variable {E : Env} {x0 x : X} {w0 w : World} {pb nt : Nat} {a : Act} {s : AS}
theorem resVs_get {s : AS} : ∀ {rs : List VR} {l : List AV}, resVs s rs = some l → l.length = rs.length ∧ ∀ (i : Nat) (r : VR), rs[i]? = some r → ∃ c, l[i]? = some c ∧ resV s r = some c
  | [], l, h => by obtain rfl := Option.some.inj h; simp
  | r :: rs, l, h => by
    obtain ⟨c, hc, h⟩ := Option.bind_eq_some_iff.1 h
    obtain ⟨l', hl, h⟩ := Option.bind_eq_some_iff.1 h
    obtain rfl := Option.some.inj h
    obtain ⟨i1, i2⟩ := resVs_get hl
    refine ⟨by simp [i1], fun i r' hr => ?_⟩
    cases i with
    | zero =>
      obtain rfl : r = r' := by simpa using hr
      exact ⟨c, rfl, hc⟩
    | succ i => exact i2 i r' (by simpa using hr)
/-- one result -/
def getRes (tmps : Array Value) : ResultVar → Sem Value
  | .tmp t => pure (tmps.getD t undef)
  | .cell a t => do loadVar t (← asAddr (tmps.getD a undef))
theorem res_one (h : St E x0 w0 pb nt x a w s) {rv : ResultVar} {r : VR} (hr : cRes E.P [rv] = some [r]) {c : AV} (hc : resV s r = some c) : ∃ v, (getRes a.tmps rv).run E.P w = .ok v w ∧ Rel x w0.heap.size v c := by
  cases rv with
  | tmp t =>
    simp only [cRes, Option.bind_some] at hr
    obtain rfl : VR.t t = r := by simpa using hr
    obtain rfl := Option.some.inj hc
    exact ⟨_, rfl, h.env t⟩
  | cell ad t =>
    obtain ⟨g, hg, hr⟩ := Option.bind_eq_some_iff.1 hr
    obtain ⟨sz, hsz, hr⟩ := Option.bind_eq_some_iff.1 hr
    simp only [cRes, Option.bind_some] at hr
    obtain rfl : VR.b ad g sz = r := by simpa using hr
    simp only [resV] at hc
    have r := h.env ad
    obtain ⟨v, ha⟩ : ∃ v, a.tmps.getD ad undef = v := ⟨_, rfl⟩
    rw [ha] at r
    simp only [getRes]
    rw [ha]
    generalize hav : s.get ad = av at r hc
    cases r with
    | ptr n i off =>
      obtain ⟨l, hl, hc⟩ := Option.bind_eq_some_iff.1 hc
      obtain ⟨el, hel, hc⟩ := Option.bind_eq_some_iff.1 hc
      obtain ⟨⟨vals, ty, v1, v2, v3, v4⟩, _, _⟩ := h.bxs n l hl
      obtain ⟨v5, v6⟩ := v4 i el hel
      have cell : ∀ j c, el.cells[j]? = some c → ∃ u, w.cell? ⟨x.bx n, (x.bz n).2 + i * (x.bz n).1 + j, none⟩ = some u ∧ Rel x w0.heap.size u c := by
        intro j c hj
        obtain ⟨_, u, u1, _, u2⟩ := v6 j c hj
        exact ⟨u, by rw [cell_block v1]; exact u1, u2⟩
      cases g with
      | true =>
        simp only [if_true] at hc
        split at hc
        · rename_i h1
          obtain rfl := Option.some.inj hc
          have hrun := run_loadCells (P := E.P) w ⟨x.bx n, (x.bz n).2 + i * (x.bz n).1 + off, none⟩ sz (fun j => ((w.cell? ⟨x.bx n, (x.bz n).2 + i * (x.bz n).1 + off + j, none⟩).getD undef)) (fun j hj => by
            obtain ⟨u, hu, _⟩ := cell (off + j) (el.cells[off + j]'(by omega)) (List.getElem?_eq_getElem (by omega))
            rw [← Nat.add_assoc] at hu
            rw [add0, hu]; rfl)
          refine ⟨.agg ((List.range sz).map fun j => ((w.cell? ⟨x.bx n, (x.bz n).2 + i * (x.bz n).1 + off + j, none⟩).getD undef)).toArray, ?_, .agg _ _ (by simp; omega) fun j u c hu hcc => ?_⟩
          · simp [asAddr, loadVar, run_agOf hg, run_szOf hsz, hrun]
          · rw [List.getElem?_take] at hcc
            split at hcc
            · rename_i hj
              rw [List.getElem?_drop] at hcc
              obtain ⟨u', hu', hr⟩ := cell (off + j) c hcc
              rw [← Nat.add_assoc] at hu'
              have : u = u' := by
                rw [List.getElem?_toArray, List.getElem?_map, List.getElem?_range hj] at hu
                have := (Option.some.inj hu).symm
                simp only [hu', Option.getD_some] at this
                exact this
              rw [this]; exact hr
            · cases hcc
        · cases hc
      | false =>
        simp only [Bool.false_eq_true, if_false] at hc
        obtain ⟨u, hu, hr⟩ := cell off c hc
        exact ⟨u, by simp [asAddr, loadVar, run_agOf hg, hu], hr⟩
    | _ => cases hc
theorem res_all (h : St E x0 w0 pb nt x a w s) : ∀ {rvs : List ResultVar} {rs : List VR} {l : List AV}, cRes E.P rvs = some rs → resVs s rs = some l → ∃ vs, (rvs.mapM (getRes a.tmps)).run E.P w = .ok vs w ∧ vs.length = l.length ∧ ∀ (i : Nat) (v : Value) (c : AV), vs[i]? = some v → l[i]? = some c → Rel x w0.heap.size v c
  | [], rs, l, h1, h2 => by
    obtain rfl := Option.some.inj h1
    obtain rfl := Option.some.inj h2
    exact ⟨[], rfl, rfl, by simp⟩
  | rv :: rvs, rs, l, h1, h2 => by
    have : ∃ r rs', rs = r :: rs' ∧ cRes E.P [rv] = some [r] ∧ cRes E.P rvs = some rs' := by
      cases rv with
      | tmp t =>
        obtain ⟨rs', h3, h1⟩ := Option.bind_eq_some_iff.1 h1
        exact ⟨_, rs', (Option.some.inj h1).symm, rfl, h3⟩
      | cell ad t =>
        obtain ⟨g, hg, h1⟩ := Option.bind_eq_some_iff.1 h1
        obtain ⟨sz, hsz, h1⟩ := Option.bind_eq_some_iff.1 h1
        obtain ⟨rs', h3, h1⟩ := Option.bind_eq_some_iff.1 h1
        exact ⟨_, rs', (Option.some.inj h1).symm, by simp [cRes, hg, hsz], h3⟩
    obtain ⟨r, rs', rfl, h3, h4⟩ := this
    obtain ⟨c, hc, h2⟩ := Option.bind_eq_some_iff.1 h2
    obtain ⟨l', hl, h2⟩ := Option.bind_eq_some_iff.1 h2
    obtain rfl := Option.some.inj h2
    obtain ⟨v, v1, v2⟩ := res_one h h3 hc
    obtain ⟨vs, g1, g2, g3⟩ := res_all h h4 hl
    refine ⟨v :: vs, ?_, by simp [g2], fun i u d hu hd => ?_⟩
    · simp only [List.mapM_cons, Sem.run_bind, v1, Result.andThen_ok, g1, Sem.run_pure]
    · cases i with
      | zero =>
        obtain rfl : v = u := by simpa using hu
        obtain rfl : c = d := by simpa using hd
        exact v2
      | succ i => exact g3 i u d (by simpa using hu) (by simpa using hd)
theorem results_run (h : St E x0 w0 pb nt x a w s) {fn : Func} {rs : List VR} {l : List AV} (h1 : cRes E.P fn.results.toList = some rs) (h2 : resVs s rs = some l) : ∃ v, (results fn a.tmps).run E.P w = .ok v w ∧ Rel x w0.heap.size v (oneOr l) := by
  obtain ⟨vs, g1, g2, g3⟩ := res_all h h1 h2
  have hm : (fn.results.mapM (getRes a.tmps)).run E.P w = .ok vs.toArray w := by
    rw [Array.mapM_eq_mapM_toList, Sem.run_map, g1]
    rfl
  have he : results fn a.tmps = (do
      let vs ← fn.results.mapM (getRes a.tmps)
      pure (if h : vs.size = 1 then vs[0] else .tuple vs)) := by
    unfold results
    congr 1
  rw [he]
  simp only [Sem.run_bind, hm, Result.andThen_ok, Sem.run_pure]
  refine ⟨_, rfl, ?_⟩
  match l, vs, g2, g3 with
  | [], [], _, _ => exact .tup _ _ rfl (by simp)
  | [c], [v], _, g3 => exact g3 0 v c rfl rfl
  | c :: d :: l, v :: u :: vs, g2, g3 => 
    rw [dif_neg (by simp)]
    exact .tup _ _ (by simpa using g2) (fun i y z hy hz => g3 i y z (by simpa using hy) hz)
/-- From a function's code to its contract. -/
theorem Fx_of {f : Nat} {fn : Func} {c : Code} {vc : VC} {rs : List VR} {chk : Array Oper → List VO → Bool} {dr : Nat → List Nat} (hf : E.P.funcs[f]? = some fn) (hb : fn.body = some c) (hc : cCode E.P fn.ntmps chk dr c = some vc) (hr : cRes E.P fn.results.toList = some rs)
    (hchk : ∀ (x0 : X) (w0 : World) (pb : Nat), (∀ n, n < pb → E.ng ≤ x0.bx n) → ∀ (id : Nat) (ops : Array Oper) (os : List VO) (Q : AS → Prop) (x : X) (a : Act) (w : World) (s : AS), cReg E.P true fn.ntmps ops ops.toList = some os → chk ops os = true → os.all (tmpOk s) = true → vops E os s Q → St E x0 w0 pb fn.ntmps x a w s → (Code.region id ops true).wp E.P (CQ E x0 w0 pb fn.ntmps fun e s => e = .normal ∧ Q s) a w)
    (ks : List Nat) {bx bx' : List (List AV)} {args : List AV} {r : AV} {s0 : AS} (hconv : ∀ (x : X) (a : Act) (w : World), (∀ t b, ¬ x.rg t b) → x.rv = x.rv → St E x w bx.length fn.ntmps x a w ⟨enum 0 args, enum 0 bx⟩ → ∃ x1, St E x w bx.length fn.ntmps x1 a w s0) (hlen : args.length ≤ fn.ntmps) (hpb : bx.length ≤ 1000) (hks : (dd ks) = ks)
    (hres : resOk r = true ∧ bx'.all resOk.resL = true ∧ bx'.length = bx.length)
    (hv : vx E vc s0 fun e s => (e = .normal ∨ e = .ret) ∧ ∃ s1, Wk s1 s ∧ ∃ l, resVs s1 rs = some l ∧ r = reC ks (oneOr l) ∧ ∃ bs, bxsOf s1 (List.range bx.length) = some bs ∧ bx' = bs.map (reC.reL ks)) : Fx E f bx args bx' r := by
  refine ⟨hres.2.2, hres.1, fun x w vs hK htl hng hj hvs hargs hag hbx hinj => ?_⟩
  refine calls_of_wp hf hb ?_
  have hst : St E x w bx.length fn.ntmps x { tmps := vs ++ Array.replicate (fn.ntmps - vs.size) undef, defers := [] } w ⟨enum 0 args, enum 0 bx⟩ := by
    refine { df := rfl, nt := by simp; omega, env := fun t => ?_, k := hK, fr := ⟨rfl, rfl, rfl, Nat.le_refl _, fun _ _ _ => rfl⟩, ag := hag, g1 := fun _ _ _ h => h, g2 := fun _ _ _ h _ => h, pbx := fun _ _ => ⟨rfl, rfl⟩, pbl := hpb, bxs := fun n l hl => ?_, inj := fun n m l l' h1 h2 e => ?_, tl := ⟨fun c b e t h => (by rw [htl] at h; cases h), fun c c' b e t e' t' h => (by rw [htl] at h; cases h)⟩, tlb := fun c b e t h => (by rw [htl] at h; cases h), jp := hj.1, j0 := fun b o hb => ⟨(by obtain ⟨vs', ty, q1, _⟩ := hj.1 b o hb; exact (Array.getElem?_eq_some_iff.1 q1).1), hj.2.1 b o hb⟩, jx := rfl, uf := fun b c ty fz hb hh => absurd (Array.getElem?_eq_some_iff.1 hh).1 (by omega), rgb := fun t b hb => absurd hb (hj.2.2 t b), rgd := fun t t' b hb => absurd hb (hj.2.2 t b), g0 := fun b o v hv => agree_lt hag hv }
    · unfold AS.get
      simp only [look_enum, Nat.zero_le, if_true, Nat.sub_zero]
      cases hc : args[t]? with
      | none => exact .un _
      | some c =>
        have hlt : t < vs.size := by rw [hvs]; exact (List.getElem?_eq_some_iff.1 hc).1
        have : (vs ++ Array.replicate (fn.ntmps - vs.size) undef).getD t undef = vs[t] := by
          rw [Array.getD_eq_getD_getElem?, Array.getElem?_append_left hlt, Array.getElem?_eq_getElem hlt]; rfl
        rw [this]
        exact hargs t _ c (Array.getElem?_eq_getElem hlt) hc
    · simp only [look_enum, Nat.zero_le, if_true, Nat.sub_zero] at hl
      obtain ⟨h1, h2⟩ := hbx n l hl
      exact ⟨h1, .inl (List.getElem?_eq_some_iff.1 hl).1, h2⟩
    · simp only [look_enum, Nat.zero_le, if_true, Nat.sub_zero] at h1 h2
      exact hinj n m (List.getElem?_eq_some_iff.1 h1).1 (List.getElem?_eq_some_iff.1 h2).1 e
  have hpost : ∀ e a' w', CQ E x w bx.length fn.ntmps (fun e s => (e = .normal ∨ e = .ret) ∧ ∃ s1, Wk s1 s ∧ ∃ l, resVs s1 rs = some l ∧ r = reC ks (oneOr l) ∧ ∃ bs, bxsOf s1 (List.range bx.length) = some bs ∧ bx' = bs.map (reC.reL ks)) e a' w' → bodyPost E.P fn (fun e w' => ∃ v x', e = .returned v ∧ Rel x' w.heap.size v r ∧ x.G.le x'.G ∧ (∀ b o v, x'.G b o = some v → b < w.heap.size → x.G b o = some v) ∧ Agree x'.G w' ∧
      Fr w.heap.size (SBx bx.length x) w w' ∧ (∀ n, n < bx.length → x'.bx n = x.bx n ∧ x'.bz n = x.bz n) ∧
      (∀ (n : Nat) (l : List AV), bx'[n]? = some l → BoxAt x' w.heap.size w' n l ∧ ∀ o, x'.G (x.bx n) o = none) ∧ Tails x' w.heap.size w' ∧ JOk x.J w' ∧ New00 w.heap.size w') e a' w' := by
    have main : ∀ a' w', Next2 E x w bx.length fn.ntmps (fun s => ∃ s1, Wk s1 s ∧ ∃ l, resVs s1 rs = some l ∧ r = reC ks (oneOr l) ∧ ∃ bs, bxsOf s1 (List.range bx.length) = some bs ∧ bx' = bs.map (reC.reL ks)) a' w' → a'.defers = [] ∧ ∃ v, (results fn a'.tmps).run E.P w' = .ok v w' ∧ ∃ v' x', Ending.returned v = .returned v' ∧ Rel x' w.heap.size v' r ∧ x.G.le x'.G ∧ (∀ b o v, x'.G b o = some v → b < w.heap.size → x.G b o = some v) ∧ Agree x'.G w' ∧
      Fr w.heap.size (SBx bx.length x) w w' ∧ (∀ n, n < bx.length → x'.bx n = x.bx n ∧ x'.bz n = x.bz n) ∧
      (∀ (n : Nat) (l : List AV), bx'[n]? = some l → BoxAt x' w.heap.size w' n l ∧ ∀ o, x'.G (x.bx n) o = none) ∧ Tails x' w.heap.size w' ∧ JOk x.J w' ∧ New00 w.heap.size w' := by
      rintro a' w' ⟨x1, s, ⟨s1, hw, l, hl, rfl, bs, hbs, rfl⟩, h⟩
      obtain ⟨x2, h⟩ := wk_sound hw h
      obtain ⟨v, hv1, hv2⟩ := results_run h hr hl
      obtain ⟨b1, b2⟩ := bxsOf_get hbs
      refine ⟨h.df, v, hv1, v, { x2 with tl := fun k => (ks[k]?).bind x2.tl }, rfl, rel_reC hv2 hres.1, h.g1, h.g2, h.ag, h.fr, h.pbx, fun n l' hl' => ?_, ?_, h.jp, h.uf⟩
      · rw [List.getElem?_map] at hl'
        obtain ⟨l0, hl0, rfl⟩ := Option.map_eq_some_iff.1 hl'
        obtain ⟨m, hm, hlook⟩ := b2 n l0 hl0
        obtain rfl : n = m := by
          have hlt := (List.getElem?_eq_some_iff.1 hm).1
          rw [List.length_range] at hlt
          rw [List.getElem?_range hlt] at hm
          exact Option.some.inj hm
        have hlt : n < bx.length := by
          have := (List.getElem?_eq_some_iff.1 hm).1
          simpa using this
        obtain ⟨⟨vals, ty, v1, v2, v3, v4⟩, _, hG⟩ := h.bxs n l0 hlook
        refine ⟨⟨vals, ty, v1, by rw [reL_len]; exact v2, v3, fun i e he => ?_⟩, fun o => by rw [← (h.pbx n hlt).1]; exact hG o⟩
        have hok : resOk e = true := by
          have h1 := List.all_eq_true.1 hres.2.1 _ (List.mem_map_of_mem (List.mem_of_getElem? hl0))
          exact resL_all h1 he
        rw [reL_get] at he
        obtain ⟨e', he', rfl⟩ := Option.map_eq_some_iff.1 he
        obtain ⟨v5, v6⟩ := v4 i e' he'
        refine ⟨by rw [reC_cells, reL_len]; exact v5, fun j c hj => ?_⟩
        rw [reC_cells] at hj
        have hokc : resOk c = true := by
          cases e' with
          | agg cs => exact resL_all (cs := reC.reL ks cs) (by simpa only [reC, resOk] using hok) hj
          | _ =>
            cases j with
            | zero => have := Option.some.inj hj; rw [← this]; exact hok
            | succ j => simp [AV.cells, reC.reL] at hj
        rw [reL_get] at hj
        obtain ⟨c', hc', rfl⟩ := Option.map_eq_some_iff.1 hj
        obtain ⟨v7, u, v8, v9, v10⟩ := v6 j c' hc'
        exact ⟨by rw [okC_reC]; exact v7, u, v8, v9, rel_reC v10 hokc⟩
      · refine ⟨fun k b e t ht => ?_, fun k k' b e t e' t' h1 h2 => ?_⟩
        · obtain ⟨c, hc, ht⟩ := Option.bind_eq_some_iff.1 ht
          exact h.tl.1 c b e t ht
        · obtain ⟨c1, hc1, h1⟩ := Option.bind_eq_some_iff.1 h1
          obtain ⟨c2, hc2, h2⟩ := Option.bind_eq_some_iff.1 h2
          obtain rfl := h.tl.2 c1 c2 b e t e' t' h1 h2
          have hnd : ks.Nodup := by rw [← hks]; exact dd_nodup ks
          obtain ⟨l1, g1⟩ := List.getElem?_eq_some_iff.1 hc1
          obtain ⟨l2, g2⟩ := List.getElem?_eq_some_iff.1 hc2
          exact List.getElem_inj hnd |>.1 (g1.trans g2.symm)
    intro e a' w' hq
    cases e with
    | normal => exact main a' w' (by obtain ⟨x', s', ⟨_, h1⟩, h2⟩ := hq; exact ⟨x', s', h1, h2⟩)
    | ret => exact main a' w' (by obtain ⟨x', s', ⟨_, h1⟩, h2⟩ := hq; exact ⟨x', s', h1, h2⟩)
    | exit n => obtain ⟨x', s', ⟨h1, _⟩, h2⟩ := hq; rcases h1 with h1 | h1 <;> cases h1
    | goto l => exact hq.elim
    | panic ch => exact hq.elim
    | outgrown => exact hq.elim
  obtain ⟨x1, hst1⟩ := hconv x _ w hj.2.2 rfl hst
  exact wp_mono (vx_sound hng (hchk x w bx.length hng) c vc hc _ x1 _ w _ hv hst1) hpost
end
end Go.Proofs.Ytpopccnnjpdmlaa.Vm
