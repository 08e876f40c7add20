/- An abstract machine over values: memory that a law writes itself: calls that write it. -/
import Derived.Test.YtpopccnnjpdmlaaVmOw
namespace Go.Proofs.Ytpopccnnjpdmlaa.Vm
open Go Go.RowKit
set_option linter.unusedVariables false
set_option linter.unusedSimpArgs false
theorem rng_le (S : Nat → Prop) (G : Gh) : (G.rng S).le G := by
  intro b o v h
  unfold Gh.rng at h
  split at h
  · exact h
  · cases h
theorem rng_some {S : Nat → Prop} {G : Gh} {b o : Nat} {v : Value} : (G.rng S) b o = some v ↔ S b ∧ G b o = some v := by
  unfold Gh.rng
  by_cases h : S b
  · rw [if_pos h]; exact ⟨fun e => ⟨h, e⟩, fun e => e.2⟩
  · rw [if_neg h]; exact ⟨fun e => (by cases e), fun e => absurd e.1 h⟩
theorem rel_kp {x : X} {base T : Nat} {R : Option (Nat × List AV)} {G2 : Gh} (hT : T ≠ 0) (hout : ∀ b, ¬ x.rg T b → ∀ o, G2 b o = x.G b o) (hrgd : ∀ t t' b, x.rg t b → x.rg t' b → t = t') (hrgb : ∀ t b, x.rg t b → t ≠ 0 → base ≤ b)
    (hR : ∀ p, R = some p → 100000 ≤ T ∧ ∀ v, x.rv T = some v → RepD (G2.rng (x.rg T)) v (.sl ro p.1 p.2)) {v : Value} {c : AV} (r : Rel x base v c) : Rel { x with G := G2, tl := fun _ => none } base v (kp T R c) := by
  induction r with
  | un v => exact .un v
  | lit v h => exact .lit v h
  | sl v m sz xs h1 h2 h3 =>
    obtain ⟨ap, fr⟩ := m
    cases ap with
    | no => exact .un _
    | nl => exact .un _
    | cl c => exact .un _
    | ow k =>
      simp only [kp]
      by_cases hk : k = T
      · subst hk
        rw [if_pos rfl]
        cases R with
        | none => exact .un _
        | some p =>
          obtain ⟨q1, q2⟩ := hR p rfl
          have d := q2 v (h3.2 q1)
          refine .sl _ _ _ _ (d.mono (rng_le _ _)).mark (fun _ => (d.mono ?_).mark) ⟨d, h3.2⟩
          intro b o u hu
          obtain ⟨u1, u2⟩ := rng_some.1 hu
          unfold Gh.from
          rw [if_pos (hrgb _ b u1 hT)]; exact u2
      · rw [if_neg hk]
        have d : RepD (G2.rng (x.rg k)) v (.sl ro sz xs) := h3.1.mono (by
          intro b o u hu
          obtain ⟨u1, u2⟩ := rng_some.1 hu
          refine rng_some.2 ⟨u1, ?_⟩
          rw [hout b fun e => hk (hrgd _ _ b u1 e)]; exact u2)
        refine .sl _ _ _ _ (d.mono (rng_le _ _)).mark (fun hf => (d.mono ?_).mark) ⟨d, h3.2⟩
        simp only [Bool.and_eq_true, bne_iff_ne, ne_eq] at hf
        intro b o u hu
        obtain ⟨u1, u2⟩ := rng_some.1 hu
        unfold Gh.from
        rw [if_pos (hrgb _ b u1 hf.2)]; exact u2
  | agg vs cs hs _ ih =>
    refine .agg _ _ (by rw [kpL_len]; exact hs) fun j v d hv hd => ?_
    rw [kpL_get] at hd
    obtain ⟨e, he, rfl⟩ := Option.map_eq_some_iff.1 hd
    exact ih j v e hv he
  | tup vs cs hs _ ih =>
    refine .tup _ _ (by rw [kpL_len]; exact hs) fun j v d hv hd => ?_
    rw [kpL_get] at hd
    obtain ⟨e, he, rfl⟩ := Option.map_eq_some_iff.1 hd
    exact ih j v e hv he
  | ptr n i off => exact Rel.ptr (x := { x with G := G2, tl := fun _ => none }) n i off
  | ep b o fr cs f h1 h2 h3 => exact .un _
  | fn f vs cs hs _ ih => exact .un _
  | bs n sz len cap h hl => exact Rel.bs (x := { x with G := G2, tl := fun _ => none }) n sz len cap h hl
  | hs v sz xs h => exact .un _
  | hp b o cs f h1 h2 => exact .un _
section
variable {E : Env} {x0 x : X} {w0 w : World} {pb nt : Nat} {a : Act} {s : AS}
theorem St.kp (h : St E x0 w0 pb nt x a w s) {T : Nat} {R : Option (Nat × List AV)} {G2 : Gh} {w' : World} (hT : T ≠ 0) (hout : ∀ b, ¬ x.rg T b → ∀ o, G2 b o = x.G b o) (hin : ∀ b, (∀ o, x.G b o = none) → ∀ o, G2 b o = none)
    (hR : ∀ p, R = some p → 100000 ≤ T ∧ ∀ v, x.rv T = some v → RepD (G2.rng (x.rg T)) v (.sl ro p.1 p.2)) (hag : ∀ b o v, x.rg T b → G2 b o = some v → ∃ c ty fz, w'.heap[b]? = some (.cells c ty fz) ∧ c[o]? = some v)
    (hsz : w.heap.size ≤ w'.heap.size) (ho : w'.os = w.os ∧ w'.tape = w.tape ∧ w'.output = w.output) (heq : ∀ b, b < w.heap.size → (¬ x.rg T b ∨ ∀ o, x.G b o = none) → w'.heap[b]? = w.heap[b]?)
    (h00 : ∀ b c ty fz, x.rg T b → w'.heap[b]? = some (.cells c ty fz) → fz = (0, 0)) (hnew : New00 w.heap.size w') : St E x0 w0 pb nt { x with G := G2, tl := fun _ => none } a w' (s.kp T R) := by
  have hbase := h.fr.2.2.2.1
  have hold : ∀ b, b < w0.heap.size → ¬ x.rg T b := fun b hb e => by have := (h.rgb T b e).2 hT; omega
  refine { df := h.df, nt := h.nt, env := fun t => by rw [get_kp]; exact rel_kp hT hout h.rgd (fun t b hb ht => (h.rgb t b hb).2 ht) hR (h.env t), k := h.k, fr := h.fr.step ho.1 ho.2.1 ho.2.2 hsz (fun k hk _ => heq k (by omega) (.inl (hold k hk))), ag := fun b o v hv => ?_, g1 := fun b o v hv => ?_, g2 := fun b o v hv hb => ?_, pbx := h.pbx, pbl := h.pbl, bxs := fun n l' hl' => ?_, inj := fun n m l1 l2 h1 h2 e => ?_, tl := ⟨fun c b e t ht => (by cases ht), fun c c' b e t e' t' ht => (by cases ht)⟩, tlb := fun c b e t ht => (by cases ht), jp := fun b o hj => ?_, j0 := h.j0, jx := h.jx, uf := fun b c ty fz hb hh => ?_, rgb := fun t b hb => ⟨Nat.lt_of_lt_of_le (h.rgb t b hb).1 hsz, (h.rgb t b hb).2⟩, rgd := h.rgd, g0 := h.g0 }
  · by_cases hb : x.rg T b
    · exact hag b o v hb hv
    · have hv' : x.G b o = some v := by rw [← hout b hb o]; exact hv
      obtain ⟨c, ty, fz, e1, e2⟩ := h.ag b o v hv'
      exact ⟨c, ty, fz, (heq b (agree_lt h.ag hv') (.inl hb)).trans e1, e2⟩
  · show G2 b o = some v
    rw [hout b (hold b (h.g0 b o v hv)) o]
    exact h.g1 b o v hv
  · have hv' : G2 b o = some v := hv
    rw [hout b (hold b hb) o] at hv'
    exact h.g2 b o v hv' hb
  · obtain ⟨l, rfl, hl, hok⟩ := look_kpB hl'
    obtain ⟨⟨vals, ty, v1, v2, v3, v4⟩, hw, hG⟩ := h.bxs n l hl
    refine ⟨⟨vals, ty, (heq _ (box_lt h hl) (.inr hG)).trans v1, by rw [kpL_len]; exact v2, v3, fun i e he => ?_⟩, hw, hin _ hG⟩
    have hoke := List.all_eq_true.1 hok e (List.mem_of_getElem? he)
    rw [kpL_get] at he
    obtain ⟨e', he', rfl⟩ := Option.map_eq_some_iff.1 he
    obtain ⟨v5, v6⟩ := v4 i e' he'
    refine ⟨by rw [kp_cells, kpL_len]; exact v5, fun j c hc => ?_⟩
    have hokc := List.all_eq_true.1 hoke c (List.mem_of_getElem? hc)
    rw [kp_cells, kpL_get] at hc
    obtain ⟨c', hc', rfl⟩ := Option.map_eq_some_iff.1 hc
    obtain ⟨_, u, v8, v9, v10⟩ := v6 j c' hc'
    exact ⟨hokc, u, v8, v9, rel_kp hT hout h.rgd (fun t b hb ht => (h.rgb t b hb).2 ht) hR v10⟩
  · obtain ⟨l, _, hl, _⟩ := look_kpB h1
    obtain ⟨l', _, hl', _⟩ := look_kpB h2
    exact h.inj n m l l' hl hl' e
  · obtain ⟨vs, ty, q1, q2⟩ := h.jp b o hj
    have := (h.j0 b o hj).1
    exact ⟨vs, ty, (heq b (Array.getElem?_eq_some_iff.1 q1).1 (.inl (hold b this))).trans q1, q2⟩
  · rcases Nat.lt_or_ge b w.heap.size with hlt | hge
    · by_cases hr : x.rg T b
      · exact h00 b c ty fz hr hh
      · rw [heq b hlt (.inl hr)] at hh
        exact h.uf b c ty fz hb hh
    · exact hnew b c ty fz hge hh
theorem keep_kp (s : AS) (T : Nat) (R : Option (Nat × List AV)) (t : Nat) (v : AV) : Keep s ((s.kp T R).put t v) (some t) := by
  refine ⟨fun u hu h => ?_, fun u hu h => ?_⟩
  · rw [get_put, if_neg (fun e => hu (by rw [e])), get_kp, h]; rfl
  · rw [bxs_put]
    cases hl : look (s.kp T R).bxs (1000 + u) with
    | none => rfl
    | some l' =>
      obtain ⟨l, _, hl2, _⟩ := look_kpB hl
      rw [h] at hl2; cases hl2
end
/-! junk: nothing is known of what was written -/
def isSl : Value → Bool
  | .slice _ _ _ => true
  | _ => false
/-- data without unknown parts -/
def flat : AV → Bool
  | .lit v => !isSl v
  | .sl _ _ xs => flatL xs
  | .agg cs => flatL cs
  | _ => false
where flatL : List AV → Bool
  | [] => true
  | c :: cs => flat c && flatL cs
def hsE : AV → AV
  | .sl _ sz xs => .hs sz (hsL xs)
  | .agg cs => .agg (hsL cs)
  | _ => .un
where hsL : List AV → List AV
  | [] => []
  | c :: cs => hsE c :: hsL cs
def hsT : AV → AV
  | .sl _ sz xs => .hs sz (hsE.hsL xs)
  | .agg cs => .agg (hsTL cs)
  | x => x
where hsTL : List AV → List AV
  | [] => []
  | c :: cs => hsT c :: hsTL cs
/-- an argument all of whose memory bears the label -/
def okJ (T : Nat) : AV → Bool
  | .lit _ => true
  | .sl m _ xs => (match m.ap with | .ow k => k == T | _ => false) && flat.flatL xs
  | .agg cs => okJL T cs
  | _ => false
where okJL (T : Nat) : List AV → Bool
  | [] => true
  | c :: cs => okJ T c && okJL T cs
theorem hsL_get : ∀ (cs : List AV) (j : Nat), (hsE.hsL cs)[j]? = (cs[j]?).map hsE
  | [], j => by simp [hsE.hsL]
  | c :: cs, 0 => by simp [hsE.hsL]
  | c :: cs, j + 1 => by simpa [hsE.hsL] using hsL_get cs j
theorem hsL_len : ∀ (cs : List AV), (hsE.hsL cs).length = cs.length
  | [] => rfl
  | c :: cs => by simp [hsE.hsL, hsL_len cs]
theorem hsTL_get : ∀ (cs : List AV) (j : Nat), (hsT.hsTL cs)[j]? = (cs[j]?).map hsT
  | [], j => by simp [hsT.hsTL]
  | c :: cs, 0 => by simp [hsT.hsTL]
  | c :: cs, j + 1 => by simpa [hsT.hsTL] using hsTL_get cs j
theorem hsTL_len : ∀ (cs : List AV), (hsT.hsTL cs).length = cs.length
  | [] => rfl
  | c :: cs => by simp [hsT.hsTL, hsTL_len cs]
theorem hsE_cells (e : AV) : (hsE e).cells = hsE.hsL e.cells := by cases e <;> simp [hsE, hsE.hsL, AV.cells]
theorem flatL_get : ∀ {cs : List AV} {j : Nat} {c : AV}, flat.flatL cs = true → cs[j]? = some c → flat c = true
  | [], _, _, _, h => by simp at h
  | y :: cs, 0, c, h, hc => by
    obtain rfl : y = c := by simpa using hc
    simp [flat.flatL] at h; exact h.1
  | y :: cs, j + 1, c, h, hc => by
    simp [flat.flatL] at h
    exact flatL_get (cs := cs) (j := j) h.2 (by simpa using hc)
theorem flat_cell {e : AV} {j : Nat} {c : AV} (h : flat e = true) (hc : e.cells[j]? = some c) : flat c = true := by
  cases e with
  | agg cs => exact flatL_get (cs := cs) (by simpa only [flat] using h) hc
  | _ =>
    cases j with
    | zero => have := Option.some.inj hc; rw [← this]; exact h
    | succ j => simp [AV.cells] at hc
def Gh.hd (G : Gh) : Gh := fun b o => (G b o).filter isSl
def Gh.jk (G : Gh) (b o : Nat) : Prop := ∃ u, G b o = some u ∧ isSl u = false
theorem repH_of {G : Gh} {v : Value} {c : AV} (r : RepD G v c) : ∀ m sz xs, c = .sl m sz xs → flat.flatL xs = true → RepH G.hd G.jk v (.hs sz (hsE.hsL xs)) := by
  induction r with
  | un v => intro m sz xs e; cases e
  | lit v h => intro m sz xs e; cases e
  | sl A n cap m sz xs b o f h1 h2 h3 h4 h5 h6 ih =>
    intro m' sz' xs' e hf
    injection e with _ e2 e3
    subst e2 e3
    have key : ∀ (i : Nat) (y : AV) (j : Nat) (c : AV), (hsE.hsL xs)[i]? = some y → y.cells[j]? = some c → ∃ y' c', xs[i]? = some y' ∧ y'.cells[j]? = some c' ∧ hsE c' = c ∧ flat c' = true := by
      intro i y j c hy hc
      rw [hsL_get] at hy
      obtain ⟨y', hy', rfl⟩ := Option.map_eq_some_iff.1 hy
      rw [hsE_cells, hsL_get] at hc
      obtain ⟨c', hc', rfl⟩ := Option.map_eq_some_iff.1 hc
      exact ⟨y', c', hy', hc', rfl, flat_cell (flatL_get hf hy') hc'⟩
    refine .hs A n cap sz _ b o f (by rw [hsL_len]; exact h1) h2 (fun hne => h3 (fun e => hne (by rw [e]; rfl))) (fun i y hy => ?_) (fun i y j c hy hc e => ?_) (fun i y j c hy hc e => ?_) (fun i y j c hy hc e => ?_)
    · rw [hsL_get] at hy
      obtain ⟨y', hy', rfl⟩ := Option.map_eq_some_iff.1 hy
      rw [hsE_cells, hsL_len]
      exact h4 i y' hy'
    · obtain ⟨y', c', q1, q2, q3, q4⟩ := key i y j c hy hc
      obtain ⟨g1, g2⟩ := h5 i y' j c' q1 q2
      have g3 := h6 i y' j c' q1 q2
      generalize f i j = u0 at g1 g3
      refine ⟨u0, g1, ?_⟩
      cases c' with
      | lit u =>
        cases g3 with
        | lit _ _ => simpa [flat] using q4
      | sl m sz xs => rw [← q3] at e; cases e
      | agg cs => rw [← q3] at e; cases e
      | _ => cases q4
    · obtain ⟨y', c', q1, q2, q3, q4⟩ := key i y j c hy hc
      obtain ⟨g1, g2⟩ := h5 i y' j c' q1 q2
      have g3 := h6 i y' j c' q1 q2
      unfold Gh.hd
      rw [g1]
      generalize f i j = u0 at g1 g3
      cases c' with
      | sl m sz xs => cases g3; rfl
      | lit u => rw [← q3] at e; exact absurd rfl e
      | agg cs => cases g3
      | _ => cases q4
    · obtain ⟨y', c', q1, q2, q3, q4⟩ := key i y j c hy hc
      have g3 := h6 i y' j c' q1 q2
      cases c' with
      | sl m2 sz2 xs2 => rw [← q3]; exact ih i y' j _ q1 q2 m2 sz2 xs2 rfl (by simpa only [flat] using q4)
      | lit u => rw [← q3] at e; exact absurd rfl e
      | agg cs => generalize f i j = u0 at g3; cases g3
      | _ => cases q4
theorem okJL_get {T : Nat} : ∀ {cs : List AV} {j : Nat} {c : AV}, okJ.okJL T cs = true → cs[j]? = some c → okJ T c = true
  | [], _, _, _, h => by simp at h
  | y :: cs, 0, c, h, hc => by
    obtain rfl : y = c := by simpa using hc
    simp [okJ.okJL] at h; exact h.1
  | y :: cs, j + 1, c, h, hc => by
    simp [okJ.okJL] at h
    exact okJL_get (cs := cs) (j := j) h.2 (by simpa using hc)
theorem rel_hsT {x xc : X} {base base' T : Nat} (hG : xc.G = (x.G.rng (x.rg T)).hd) (hJ : xc.J = (x.G.rng (x.rg T)).jk) {v : Value} {a : AV} (r : Rel x base v a) : okJ T a = true → Rel xc base' v (hsT a) := by
  induction r with
  | lit v h => exact fun _ => .lit v h
  | sl v m sz xs h1 h2 h3 =>
    intro hk
    simp only [okJ, Bool.and_eq_true] at hk
    obtain ⟨ap, fr⟩ := m
    cases ap with
    | ow k =>
      obtain rfl : k = T := by simpa using hk.1
      refine .hs _ _ _ ?_
      rw [hG, hJ]
      exact repH_of h3.1 _ _ _ rfl hk.2
    | _ => cases hk.1
  | agg vs cs hs _ ih =>
    intro hk
    refine .agg _ _ (by rw [hsTL_len]; exact hs) fun j v d hv hd => ?_
    rw [hsTL_get] at hd
    obtain ⟨e, he, rfl⟩ := Option.map_eq_some_iff.1 hd
    exact ih j v e hv he (okJL_get (by simpa only [okJ] using hk) he)
  | un v => intro hk; cases hk
  | tup => intro hk; cases hk
  | ptr => intro hk; cases hk
  | ep => intro hk; cases hk
  | fn => intro hk; cases hk
  | bs => intro hk; cases hk
  | hs => intro hk; cases hk
  | hp => intro hk; cases hk
section
variable {E : Env} {s : AS}
/-- A call that writes into all memory of a label, in no known way. -/
theorem vcall_junk {t T f : Nat} {kv rv : Value} {av : AV} {Q : AS → Prop} (hF : Fx E f [] [hsT av, .lit kv] [] (.lit rv)) (hT : T ≠ 0) (ha : okJ T av = true) {l : Lk Q} (h4 : Q ((s.kp T none).put t (.lit rv))) : Xc E false s (some t) f [av, .lit kv] Q l := by
  refine .inr ⟨rfl, fun x0 w0 pb nt x a w hs hK hd args hl hr => ?_⟩
  have hbase := hs.fr.2.2.2.1
  let xc : X := { G := (x.G.rng (x.rg T)).hd, bx := x.bx, bz := x.bz, tl := fun _ => none, rg := fun _ _ => False, J := (x.G.rng (x.rg T)).jk, rv := fun _ => none }
  have hle : xc.G.le x.G := by
    intro b o u hu
    have hu : ((x.G.rng (x.rg T)) b o).filter isSl = some u := hu
    rw [Option.filter_eq_some_iff] at hu
    exact (rng_some.1 hu.1).2
  have hjk : ∀ b o, xc.J b o → x.rg T b ∧ ∃ u, x.G b o = some u ∧ isSl u = false := by
    rintro b o ⟨u, hu, hs⟩
    exact ⟨(rng_some.1 hu).1, u, (rng_some.1 hu).2, hs⟩
  have hjok : JOk xc.J w := by
    intro b o hj
    obtain ⟨h1, u, h2, h3⟩ := hjk b o hj
    obtain ⟨c, ty, fz, e1, e2⟩ := hs.ag b o u h2
    obtain rfl := hs.uf b c ty fz ((hs.rgb T b h1).2 hT) e1
    exact ⟨c, ty, e1, (Array.getElem?_eq_some_iff.1 e2).1⟩
  refine (hF.2.2 xc w args (hs.K hK) (fun _ => rfl) (fun n hn => by simp at hn) ⟨hjok, fun b o hj => ?_, fun _ _ h => h⟩ (by simpa using hl) (fun i v c hv hc => ?_) (fun b o v hv => hs.ag b o v (hle _ _ _ hv)) (fun n l hl => by simp at hl) (fun n m hn => by simp at hn)).mono ?_
  · obtain ⟨h1, u, h2, h3⟩ := hjk b o hj
    refine ⟨by have := E.hg _ hs.k; have := (hs.rgb T b h1).2 hT; omega, ?_, fun n hn => by simp at hn⟩
    show ((x.G.rng (x.rg T)) b o).filter isSl = none
    rw [(rng_some (G := x.G) (S := x.rg T)).2 ⟨h1, h2⟩]
    simp [h3]
  · match i with
    | 0 =>
      obtain rfl : hsT av = c := by simpa using hc
      exact rel_hsT (T := T) rfl rfl (hr 0 v av hv rfl) ha
    | 1 =>
      obtain rfl : AV.lit kv = c := by simpa using hc
      have := hr 1 v (.lit kv) hv rfl
      cases this with
      | lit _ h => exact .lit _ h
    | i + 2 => simp at hc
  · rintro e w' ⟨v, x2, rfl, g1, g2, g3, g4, ⟨w1, w2, w3, w4, w5⟩, g6, g7, g8, g9, g10⟩
    have hv : v = rv := g1.lit_inv
    subst hv
    have hlit : v.oneCell' = true := by cases g1 with | lit _ h => exact h
    have hsb : ∀ b, SBx 0 xc b → x.rg T b ∧ ∃ o u, x.G b o = some u := by
      rintro b (⟨n, hn, _⟩ | ⟨o, ho⟩)
      · omega
      · obtain ⟨h1, u, h2, _⟩ := hjk b o ho
        exact ⟨h1, o, u, h2⟩
    have hheq : ∀ b, b < w.heap.size → (¬ x.rg T b ∨ ∀ o, x.G b o = none) → w'.heap[b]? = w.heap[b]? := by
      intro b hb hh
      refine w5 b hb fun hsx => ?_
      obtain ⟨q1, o, u, q2⟩ := hsb b hsx
      rcases hh with hh | hh
      · exact hh q1
      · rw [hh o] at q2; cases q2
    have hst := hs.kp (T := T) (R := none) (G2 := x.G.rng fun b => ¬ x.rg T b) (w' := w') hT (fun b hb o => by unfold Gh.rng; rw [if_pos hb]) (fun b hb o => by unfold Gh.rng; split; exact hb o; rfl) (fun p e => by cases e) (fun b o v hb hv => absurd hb (rng_some.1 hv).1) w4 ⟨w1, w2, w3⟩ hheq (fun b c ty fz hb hh => ?_) g10
    · exact ⟨v, _, _, rfl, h4, keep_kp _ _ _ _ _, hst.put hd (.lit v hlit)⟩
    · have hb0 := (hs.rgb T b hb)
      by_cases hsx : SBx 0 xc b
      · rcases hsx with ⟨n, hn, _⟩ | ⟨o, ho⟩
        · omega
        · obtain ⟨vs, ty', q1, q2⟩ := g9 b o ho
          rw [hh] at q1
          injection q1 with q1; injection q1
      · rw [w5 b hb0.1 hsx] at hh
        exact hs.uf b c ty fz (hb0.2 hT) hh
end
end Go.Proofs.Ytpopccnnjpdmlaa.Vm
