/- An abstract machine over values: memory that a law writes itself: labels. -/
import Derived.Test.YtpopccnnjpdmlaaVmBx
namespace Go.Proofs.Ytpopccnnjpdmlaa.Vm
open Go Go.RowKit
set_option linter.unusedVariables false
set_option linter.unusedSimpArgs false
/-- a result, all of whose memory gets a label -/
def ownA (t : Nat) (b : Bool) : AV → AV
  | .sl _ sz xs => .sl ⟨.ow t, b⟩ sz xs
  | .agg cs => .agg (ownL t b cs)
  | .tup cs => .tup (ownL t b cs)
  | x => x
where ownL (t : Nat) (b : Bool) : List AV → List AV
  | [] => []
  | c :: cs => ownA t b c :: ownL t b cs
/-- how many slices -/
def sls : AV → Nat
  | .sl _ _ _ => 1
  | .agg cs => slsL cs
  | .tup cs => slsL cs
  | _ => 0
where slsL : List AV → Nat
  | [] => 0
  | c :: cs => sls c + slsL cs
theorem noWL_all {n : Nat} : ∀ {cs : List AV} {j : Nat} {c : AV}, noW.noL n cs = true → cs[j]? = some c → noW n c = true
  | [], _, _, _, h => by simp at h
  | y :: cs, 0, c, h, hc => by
    obtain rfl : y = c := by simpa using hc
    simp [noW.noL] at h; exact h.1
  | y :: cs, j + 1, c, h, hc => by
    simp [noW.noL] at h
    exact noWL_all (cs := cs) (j := j) h.2 (by simpa using hc)
theorem ownL_get (t : Nat) (b : Bool) : ∀ (cs : List AV) (j : Nat), (ownA.ownL t b cs)[j]? = (cs[j]?).map (ownA t b)
  | [], j => by simp [ownA.ownL]
  | c :: cs, 0 => by simp [ownA.ownL]
  | c :: cs, j + 1 => by simpa [ownA.ownL] using ownL_get t b cs j
theorem ownL_len (t : Nat) (b : Bool) : ∀ (cs : List AV), (ownA.ownL t b cs).length = cs.length
  | [] => rfl
  | c :: cs => by simp [ownA.ownL, ownL_len t b cs]
/-- A label's blocks and slice may be told anew where nothing bears it. -/
theorem Rel.relab1 {x : X} {base t : Nat} {rg' : Nat → Nat → Prop} {rv' : Nat → Option Value} (hrg : ∀ k, k ≠ t → rg' k = x.rg k) (hrv : ∀ k, k ≠ t → rv' k = x.rv k) {v : Value} {a : AV} (r : Rel x base v a) : noW t a = true → Rel { x with rg := rg', rv := rv' } base v a := by
  induction r with
  | un v => exact fun _ => .un v
  | lit v h => exact fun _ => .lit v h
  | sl v m sz xs h1 h2 h3 =>
    intro hn
    refine .sl v m sz xs h1 h2 ?_
    obtain ⟨ap, fr⟩ := m
    cases ap with
    | no => trivial
    | nl => exact h3
    | cl c => exact h3
    | ow k =>
      have hk : k ≠ t := by simpa [noW] using hn
      refine ⟨?_, fun hu => ?_⟩
      · show RepD (x.G.rng (rg' k)) v _
        rw [hrg k hk]; exact h3.1
      · show rv' k = some v
        rw [hrv k hk]; exact h3.2 hu
  | agg vs cs hs _ ih => exact fun hn => .agg vs cs hs fun j v c hv hc => ih j v c hv hc (noWL_all (by simpa only [noW] using hn) hc)
  | tup vs cs hs _ ih => exact fun hn => .tup vs cs hs fun j v c hv hc => ih j v c hv hc (noWL_all (by simpa only [noW] using hn) hc)
  | ptr n i off => exact fun _ => Rel.ptr (x := { x with rg := rg', rv := rv' }) n i off
  | ep b o fr cs f h1 h2 h3 => exact fun _ => .ep b o fr cs f h1 h2 h3
  | fn f vs cs hs _ ih => exact fun hn => .fn f vs cs hs fun j v c hv hc => ih j v c hv hc (noWL_all (by simpa only [noW] using hn) hc)
  | bs n sz len cap h hl => exact fun _ => Rel.bs (x := { x with rg := rg', rv := rv' }) n sz len cap h hl
  | hs v sz xs h => exact fun _ => .hs v sz xs h
  | hp b o cs f h1 h2 => exact fun _ => .hp b o cs f h1 h2
theorem BoxAt.relab1 {x : X} {base t : Nat} {w : World} {n : Nat} {l : List AV} {rg' : Nat → Nat → Prop} {rv' : Nat → Option Value} (hrg : ∀ k, k ≠ t → rg' k = x.rg k) (hrv : ∀ k, k ≠ t → rv' k = x.rv k) (h : BoxAt x base w n l) (hn : noW.noL t l = true) : BoxAt { x with rg := rg', rv := rv' } base w n l := by
  obtain ⟨vals, ty, h1, h2, h3, h4⟩ := h
  refine ⟨vals, ty, h1, h2, h3, fun i e he => ?_⟩
  obtain ⟨h5, h6⟩ := h4 i e he
  refine ⟨h5, fun j c hc => ?_⟩
  obtain ⟨h7, v, h8, h9, h10⟩ := h6 j c hc
  have hne := noWL_all hn he
  refine ⟨h7, v, h8, h9, h10.relab1 hrg hrv ?_⟩
  cases e with
  | agg cs => exact noWL_all (cs := cs) (by simpa only [noW] using hne) hc
  | _ =>
    cases j with
    | zero => have := Option.some.inj hc; rw [← this]; exact hne
    | succ j => simp [AV.cells] at hc
/-- A result as data with a label. -/
theorem rel_ownA {x' : X} {base base' t T H : Nat} {rg' : Nat → Nat → Prop} (hb : base ≤ base') (hrg : ∀ b, rg' T b ↔ base' ≤ b ∧ b < H) (hH : ∀ b o u, x'.G b o = some u → b < H) : ∀ (r : AV), resOk r = true → frA r = true → ∀ v, Rel x' base' v (relab t false r) →
    ∃ L : List Value, L.length ≤ sls r ∧ ∀ rv' : Nat → Option Value, (100000 ≤ T → ∀ u ∈ L, rv' T = some u) → Rel { x' with rg := rg', rv := rv' } base v (ownA T true r) := by
  intro r
  refine AV.rec (motive_1 := fun r => resOk r = true → frA r = true → ∀ v, Rel x' base' v (relab t false r) → ∃ L : List Value, L.length ≤ sls r ∧ ∀ rv' : Nat → Option Value, (100000 ≤ T → ∀ u ∈ L, rv' T = some u) → Rel { x' with rg := rg', rv := rv' } base v (ownA T true r))
    (motive_2 := fun cs => resOk.resL cs = true → frA.frL cs = true → ∀ vs : List Value, vs.length = cs.length → (∀ (j : Nat) (v : Value) (c : AV), vs[j]? = some v → cs[j]? = some c → Rel x' base' v (relab t false c)) → ∃ L : List Value, L.length ≤ sls.slsL cs ∧ ∀ rv' : Nat → Option Value, (100000 ≤ T → ∀ u ∈ L, rv' T = some u) → ∀ (j : Nat) (v : Value) (c : AV), vs[j]? = some v → cs[j]? = some c → Rel { x' with rg := rg', rv := rv' } base v (ownA T true c)) ?_ ?_ ?_ ?_ ?_ ?_ ?_ ?_ ?_ ?_ ?_ ?_ ?_ r
  · intro _ _ v _; exact ⟨[], Nat.le_refl _, fun _ _ => .un v⟩
  · intro u _ _ v h
    refine ⟨[], Nat.le_refl _, fun _ _ => ?_⟩
    cases h with
    | lit _ hv => exact .lit _ hv
  · intro m sz xs _ hr hf v h
    refine ⟨[v], Nat.le_refl _, fun rv' hrv => ?_⟩
    have hm : m.fr = true := hf
    cases h with
    | sl _ _ _ _ h1 h2 h3 =>
      have d : RepD (x'.G.from base') v (.sl m sz xs) := (h2 (by simp [hm])).mark
      have le : (x'.G.from base').le (x'.G.rng (rg' T)) := by
        intro b o u hu
        unfold Gh.from at hu
        split at hu
        · unfold Gh.rng
          rw [if_pos ((hrg b).2 ⟨by assumption, hH b o u hu⟩)]
          exact hu
        · cases hu
      refine .sl _ _ _ _ h1.mark (fun _ => ?_) ⟨(d.mono le).mark, fun hu => hrv hu v (by simp)⟩
      refine (d.mono ?_).mark
      intro b o u hu
      unfold Gh.from at hu ⊢
      split at hu
      · rw [if_pos (by omega)]; exact hu
      · cases hu
  · intro cs ih hr hf v h
    cases h with
    | agg vs _ hs hh =>
      obtain ⟨L, hL, hR⟩ := ih hr hf vs.toList (by rw [relabL_len] at hs; simpa using hs) (fun j v c hv hc => hh j v _ (by simpa using hv) (by rw [relabL_get, hc]; rfl))
      refine ⟨L, hL, fun rv' hrv => .agg _ _ (by rw [ownL_len]; rw [relabL_len] at hs; exact hs) fun j v c hv hc => ?_⟩
      rw [ownL_get] at hc
      obtain ⟨e, he, rfl⟩ := Option.map_eq_some_iff.1 hc
      exact hR rv' hrv j v e (by simpa using hv) he
  · intro cs ih hr hf v h
    cases h with
    | tup vs _ hs hh =>
      obtain ⟨L, hL, hR⟩ := ih hr hf vs.toList (by rw [relabL_len] at hs; simpa using hs) (fun j v c hv hc => hh j v _ (by simpa using hv) (by rw [relabL_get, hc]; rfl))
      refine ⟨L, hL, fun rv' hrv => .tup _ _ (by rw [ownL_len]; rw [relabL_len] at hs; exact hs) fun j v c hv hc => ?_⟩
      rw [ownL_get] at hc
      obtain ⟨e, he, rfl⟩ := Option.map_eq_some_iff.1 hc
      exact hR rv' hrv j v e (by simpa using hv) he
  · intro _ _ _ hr; cases hr
  · intro _ _ _ hr; cases hr
  · intro _ _ _ hr; cases hr
  · intro _ _ _ hr; cases hr
  · intro _ _ _ hr; cases hr
  · intro _ _ hr; cases hr
  · intro _ _ vs hl _
    exact ⟨[], Nat.le_refl _, fun _ _ j v c hv hc => by simp at hc⟩
  · intro c cs ih1 ih2 hr hf vs hl h
    simp only [resOk.resL, Bool.and_eq_true] at hr
    simp only [frA.frL, Bool.and_eq_true] at hf
    cases vs with
    | nil => simp at hl
    | cons v vs =>
      obtain ⟨L1, l1, r1⟩ := ih1 hr.1 hf.1 v (h 0 v c rfl rfl)
      obtain ⟨L2, l2, r2⟩ := ih2 hr.2 hf.2 vs (by simpa using hl) (fun j u d hu hd => h (j + 1) u d (by simpa using hu) (by simpa using hd))
      refine ⟨L1 ++ L2, by simp [sls.slsL]; omega, fun rv' hrv j u d hu hd => ?_⟩
      cases j with
      | zero =>
        obtain rfl : v = u := by simpa using hu
        obtain rfl : c = d := by simpa using hd
        exact r1 rv' fun hT u hu => hrv hT u (List.mem_append_left _ hu)
      | succ j => exact r2 rv' (fun hT u hu => hrv hT u (List.mem_append_right _ hu)) j u d (by simpa using hu) (by simpa using hd)
section
variable {E : Env} {x0 x : X} {w0 w : World} {pb nt : Nat} {a : Act} {s : AS}
theorem noW_of {n m : Nat} (h : (s.putO (some n) .un).noW m = true) (u : Nat) (hu : u ≠ n) : noW m (s.get u) = true := by
  have h1 : allV (noW m) (setL n .un s.env) = true := by
    unfold AS.noW at h
    simp only [Bool.and_eq_true] at h
    exact h.1
  unfold AS.get
  cases hl : look s.env u with
  | none => rfl
  | some v =>
    have : look (setL n .un s.env) u = some v := by rw [look_setL, if_neg hu]; exact hl
    exact allV_get h1 this
theorem noW_box {n m : Nat} (h : (s.putO (some n) .un).noW m = true) {k : Nat} {l : List AV} (hl : look s.bxs k = some l) : noW.noL m l = true := by
  unfold AS.noW at h
  simp only [Bool.and_eq_true] at h
  exact allV_get h.2 hl
/-- A call, all of whose result's memory gets a label. -/
theorem vcall_own {t T f : Nat} {vs ws : List AV} {Q : AS → Prop} {r : AV} (hF : Fx E f [] ws [] r) (hw : strip.stripL vs = ws) (h1 : argOk.argL vs = true) (h2 : ptrs.ptrsL vs = []) (h3 : (s.putO (some t) .un).noC t = true) (hW : (s.putO (some t) .un).noW T = true) (hT0 : T ≠ 0) (hT : 100000 ≤ T → sls r ≤ 1) (hfr : frA r = true) {l : Lk Q} (h4 : Q (s.put t (ownA T true r))) : Xc E false s (some t) f vs Q l := by
  refine .inr ⟨rfl, fun x0 w0 pb nt x a w hs hK hd args hl hr => ?_⟩
  have hF' : Fx E f (([] : List (List AV)).map strip.stripL) (ren.renL (dd (ptrs.ptrsL vs)) (strip.stripL vs)) [] r := by
    rw [h2]
    show Fx E f [] (ren.renL [] (strip.stripL vs)) [] r
    rw [renL_nil (by rw [strip_ptrsL, h2]), hw]
    exact hF
  refine (hs.call hK (q := false) (t := t) (hd t rfl) hl hr h1 h3 (bs := []) (bs' := []) (by rw [h2]; rfl) rfl hF' rfl).mono ?_
  rintro e w' ⟨v, x', rfl, hst, hrel, hsz, hrge⟩
  rw [h2] at hst
  simp only [dd, setBs, List.map_nil] at hst
  let rg' : Nat → Nat → Prop := fun k b => if k = T then w.heap.size ≤ b ∧ b < w'.heap.size else x'.rg k b
  obtain ⟨L, hL, hR⟩ := rel_ownA (x' := x') (base := w0.heap.size) (base' := w.heap.size) (t := t) (T := T) (H := w'.heap.size) (rg' := rg') hs.fr.2.2.2.1 (fun b => by simp [rg']) (fun b o u hu => agree_lt hst.ag hu) r hF.2.1 hfr v hrel
  let rv' : Nat → Option Value := fun k => if k = T then L.head? else x'.rv k
  have hrel' := hR rv' (fun hT' u hu => by
    have h1 : L.length ≤ 1 := Nat.le_trans hL (hT hT')
    have h2 : L.head? = some u := by
      clear hR hL
      match L, h1, hu with
      | [y], _, hu => simp only [List.mem_singleton] at hu; subst hu; rfl
    simp only [rv', if_true, h2])
  have e1 : ∀ k, k ≠ T → rg' k = x'.rg k := fun k hk => by funext b; simp [rg', hk]
  have e2 : ∀ k, k ≠ T → rv' k = x'.rv k := fun k hk => by simp [rv', hk]
  refine ⟨v, { x' with rg := rg', rv := rv' }, _, rfl, h4, keep_put _ _ _, { hst with env := fun u => ?_, bxs := fun n l hl => ?_, rgb := fun k b hb => ?_, rgd := fun k k' b hb hb' => ?_ }⟩
  · rw [getD_put]
    simp only [get_put]
    by_cases hu : u = t
    · rw [if_pos ⟨hu, by have := hs.nt; have := hd t rfl; omega⟩, if_pos hu]
      exact hrel'
    · have := hst.env u
      rw [getD_put] at this
      simp only [get_put] at this
      rw [if_neg (fun e => hu e.1), if_neg hu] at this ⊢
      exact this.relab1 e1 e2 (noW_of hW u hu)
  · rw [bxs_put] at hl
    obtain ⟨g1, g2, g3⟩ := hst.bxs n l (by rw [bxs_put]; exact hl)
    exact ⟨g1.relab1 e1 e2 (noW_box hW hl), g2, g3⟩
  · replace hb : rg' k b := hb
    by_cases hk : k = T
    · subst hk
      simp only [rg', if_true] at hb
      exact ⟨hb.2, fun _ => Nat.le_trans hs.fr.2.2.2.1 hb.1⟩
    · rw [e1 k hk] at hb; exact hst.rgb k b hb
  · have old : ∀ j b, j ≠ T → rg' j b → b < w.heap.size := fun j b hj hb => by
      rw [e1 j hj, hrge] at hb
      exact (hs.rgb j b hb).1
    replace hb : rg' k b := hb
    replace hb' : rg' k' b := hb'
    by_cases hk : k = T
    · by_cases hk' : k' = T
      · rw [hk, hk']
      · have := old k' b hk' hb'
        subst hk
        simp only [rg', if_true] at hb
        omega
    · by_cases hk' : k' = T
      · have := old k b hk hb
        subst hk'
        simp only [rg', if_true] at hb'
        omega
      · rw [e1 k hk] at hb
        rw [e1 k' hk'] at hb'
        exact hst.rgd k k' b hb hb'
end
/-- what is left when the memory of a label is written: the label's slices as told, the others' as they are -/
def kp (T : Nat) (R : Option (Nat × List AV)) : AV → AV
  | .sl m sz xs => match m.ap with
    | .ow k => if k = T then (match R with | some p => .sl ⟨.ow T, m.fr⟩ p.1 p.2 | none => .un) else .sl ⟨.ow k, m.fr && k != 0⟩ sz xs
    | _ => .un
  | .lit v => .lit v
  | .agg cs => .agg (kpL T R cs)
  | .tup cs => .tup (kpL T R cs)
  | .ptr n i o => .ptr n i o
  | .bs n z l => .bs n z l
  | _ => .un
where kpL (T : Nat) (R : Option (Nat × List AV)) : List AV → List AV
  | [] => []
  | c :: cs => kp T R c :: kpL T R cs
def kpB (T : Nat) (R : Option (Nat × List AV)) : List (Nat × List AV) → List (Nat × List AV)
  | [] => []
  | (n, l) :: b => if (kp.kpL T R l).all (fun e => e.cells.all okC) then (n, kp.kpL T R l) :: kpB T R b else (kpB T R b).filter fun p => p.1 != n
def AS.kp (s : AS) (T : Nat) (R : Option (Nat × List AV)) : AS := ⟨mapV (Vm.kp T R) s.env, kpB T R s.bxs⟩
section
variable {T : Nat} {R : Option (Nat × List AV)}
theorem kpL_get : ∀ (cs : List AV) (j : Nat), (kp.kpL T R cs)[j]? = (cs[j]?).map (kp T R)
  | [], j => by simp [kp.kpL]
  | c :: cs, 0 => by simp [kp.kpL]
  | c :: cs, j + 1 => by simpa [kp.kpL] using kpL_get cs j
theorem kpL_len : ∀ (cs : List AV), (kp.kpL T R cs).length = cs.length
  | [] => rfl
  | c :: cs => by simp [kp.kpL, kpL_len cs]
theorem kp_cells (e : AV) : (kp T R e).cells = kp.kpL T R e.cells := by
  cases e with
  | sl m sz xs =>
    obtain ⟨ap, fr⟩ := m
    cases ap with
    | ow k =>
      by_cases hk : k = T
      · cases R <;> simp [kp, kp.kpL, AV.cells, hk]
      · simp [kp, kp.kpL, AV.cells, hk]
    | _ => simp [kp, kp.kpL, AV.cells]
  | _ => simp [kp, kp.kpL, AV.cells]
theorem get_kp (s : AS) (u : Nat) : (s.kp T R).get u = kp T R (s.get u) := by
  unfold AS.get AS.kp
  simp only [look_mapV]
  cases look s.env u <;> rfl
theorem look_kpB {n : Nat} {l' : List AV} : ∀ {b : List (Nat × List AV)}, look (kpB T R b) n = some l' → ∃ l, l' = kp.kpL T R l ∧ look b n = some l ∧ (kp.kpL T R l).all (fun e => e.cells.all okC) = true
  | [], h => by simp [kpB, look] at h
  | (m, l) :: b, h => by
    simp only [kpB] at h
    simp only [look]
    split at h
    · rename_i hk
      simp only [look] at h
      by_cases hn : n = m
      · rw [if_pos hn] at h ⊢
        exact ⟨l, (Option.some.inj h).symm, rfl, hk⟩
      · rw [if_neg hn] at h ⊢
        exact look_kpB h
    · rw [look_filter] at h
      by_cases hn : n = m
      · rw [if_pos hn] at h; cases h
      · rw [if_neg hn] at h ⊢
        exact look_kpB h
end
end Go.Proofs.Ytpopccnnjpdmlaa.Vm
