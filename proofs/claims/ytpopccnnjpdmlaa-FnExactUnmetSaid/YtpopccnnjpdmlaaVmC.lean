/- An abstract machine over values: what the state says of the memory, and how that is handed on. -/
import Derived.Test.YtpopccnnjpdmlaaVmB
namespace Go.Proofs.Ytpopccnnjpdmlaa.Vm
open Go Go.RowKit
set_option linter.unusedVariables false
set_option linter.unusedSimpArgs false
theorem RepD.mono {G G' : Gh} (h : G.le G') {v : Value} {a : AV} (r : RepD G v a) : RepD G' v a := by
  induction r with
  | un v => exact .un v
  | lit v h => exact .lit v h
  | sl A n cap m sz xs b o f h1 h2 h3 h4 h5 _ ih => exact .sl A n cap m sz xs b o f h1 h2 h3 h4 (fun i x j c hx hc => ⟨h _ _ _ (h5 i x j c hx hc).1, (h5 i x j c hx hc).2⟩) ih
theorem RepD.mark {G : Gh} {v : Value} {m m' : Mk} {sz : Nat} {xs : List AV} (r : RepD G v (.sl m sz xs)) : RepD G v (.sl m' sz xs) := by
  cases r with
  | sl A n cap _ _ _ b o f h1 h2 h3 h4 h5 h6 => exact .sl A n cap m' sz xs b o f h1 h2 h3 h4 h5 h6
theorem noBL_get {n : Nat} : ∀ {cs : List AV} {j : Nat} {c : AV}, cs[j]? = some c → noB n c = false → noB.noL n cs = false
  | [], _, _, h, _ => by simp at h
  | y :: cs, 0, c, h, hc => by
    obtain rfl : y = c := by simpa using h
    simp [noB.noL, hc]
  | y :: cs, j + 1, c, h, hc => by
    have := noBL_get (cs := cs) (j := j) (by simpa using h) hc
    simp [noB.noL, this]
theorem noCL_get {n : Nat} : ∀ {cs : List AV} {j : Nat} {c : AV}, cs[j]? = some c → noC n c = false → noC.noL n cs = false
  | [], _, _, h, _ => by simp at h
  | y :: cs, 0, c, h, hc => by
    obtain rfl : y = c := by simpa using h
    simp [noC.noL, hc]
  | y :: cs, j + 1, c, h, hc => by
    have := noCL_get (cs := cs) (j := j) (by simpa using h) hc
    simp [noC.noL, this]
theorem RepH.mono {G G' : Gh} {J J' : Nat → Nat → Prop} (h : G.le G') (hJ : ∀ b o, J b o → J' b o) {v : Value} {a : AV} (r : RepH G J v a) : RepH G' J' v a := by
  induction r with
  | hs A n cap sz xs b o f h1 h2 h3 h4 h5 h6 _ ih => exact .hs A n cap sz xs b o f h1 h2 h3 h4 (fun i x j c hx hc e => hJ _ _ (h5 i x j c hx hc e)) (fun i x j c hx hc e => h _ _ _ (h6 i x j c hx hc e)) ih
theorem rng_mono {S S' : Nat → Prop} {G G' : Gh} (h : G.le G') (hS : ∀ b, S b → S' b) : (G.rng S).le (G'.rng S') := by
  intro b o v hv
  unfold Gh.rng at hv ⊢
  split at hv
  · rename_i hs
    rw [if_pos (hS b hs)]
    exact h _ _ _ hv
  · cases hv
structure X.up (x x' : X) : Prop where
  rg : ∀ t b, x.rg t b → x'.rg t b
  J : ∀ b o, x.J b o → x'.J b o
  rv : ∀ t, x'.rv t = x.rv t
theorem Rel.up {x x' : X} {base : Nat} {v : Value} {a : AV} (hG : x.G.le x'.G) (hR : x.up x') (r : Rel x base v a) :
    (∀ n, noB n a = false → x'.bx n = x.bx n ∧ x'.bz n = x.bz n) → (∀ d, noC d a = false → ∀ c, c / 64 = d → x'.tl c = x.tl c) → Rel x' base v a := by
  induction r with
  | un v => exact fun _ _ => .un v
  | lit v h => exact fun _ _ => .lit v h
  | sl v m sz xs h1 h2 h3 =>
    intro hb hc
    refine .sl v m sz xs (h1.mono hG) (fun hf => (h2 hf).mono ?_) ?_
    · intro b o u
      unfold Gh.from
      split
      · exact hG b o u
      · intro h; cases h
    · cases m with
      | mk ap fr =>
        cases ap with
        | no => trivial
        | nl => exact h3
        | cl c =>
          have h4 := hc (c / 64) (by simp [noC]) c rfl
          simp only [Room] at h3 ⊢
          rw [h4]
          exact h3
        | ow t => exact ⟨h3.1.mono (rng_mono hG (hR.rg t)), fun hu => by rw [hR.rv t]; exact h3.2 hu⟩
  | agg vs cs hs _ ih => exact fun hb hc => .agg vs cs hs fun j v c hv hcj => ih j v c hv hcj (fun n hn => hb n (by simp only [noB]; exact noBL_get hcj hn)) (fun d hd => hc d (by simp only [noC]; exact noCL_get hcj hd))
  | tup vs cs hs _ ih => exact fun hb hc => .tup vs cs hs fun j v c hv hcj => ih j v c hv hcj (fun n hn => hb n (by simp only [noB]; exact noBL_get hcj hn)) (fun d hd => hc d (by simp only [noC]; exact noCL_get hcj hd))
  | ptr n i off =>
    intro hb _
    obtain ⟨h1, h2⟩ := hb n (by simp [noB])
    rw [← h1, ← h2]
    exact .ptr n i off
  | ep b o fr cs f h1 h2 h3 =>
    intro _ _
    refine .ep b o fr cs f (fun j c h => hG _ _ _ (h1 j c h)) (fun j c h => (h2 j c h).mono hG) fun hf j c h => ((h3 hf j c h).mono ?_)
    intro b o u
    unfold Gh.from
    split
    · exact hG b o u
    · intro h; cases h
  | fn f vs cs hs _ ih => exact fun hb hc => .fn f vs cs hs fun j v c hv hcj => ih j v c hv hcj (fun n hn => hb n (by simp only [noB]; exact noBL_get hcj hn)) (fun d hd => hc d (by simp only [noC]; exact noCL_get hcj hd))
  | bs n sz len cap h hl =>
    intro hb _
    obtain ⟨h1, h2⟩ := hb n (by simp [noB])
    rw [← h1, ← h2]
    exact .bs n sz len cap (by rw [h2]; exact h) hl
  | hs v sz xs h => exact fun _ _ => .hs v sz xs (h.mono hG hR.J)
  | hp b o cs f h1 h2 => exact fun _ _ => .hp b o cs f (fun j c hc e => hR.J _ _ (h1 j c hc e)) (fun j c hc e => ⟨hG _ _ _ (h2 j c hc e).1, (h2 j c hc e).2.mono hG hR.J⟩)
/-- Data says nothing of boxes. -/
theorem Rel.mono {x : X} {G' : Gh} {base : Nat} {v : Value} {a : AV} (hG : x.G.le G') (r : Rel x base v a) : Rel { x with G := G' } base v a :=
  r.up (x' := { x with G := G' }) hG ⟨fun _ _ h => h, fun _ _ h => h, fun _ => rfl⟩ (fun _ _ => ⟨rfl, rfl⟩) (fun _ _ _ _ => rfl)
section
variable {E : Env} {x0 x : X} {w0 w : World} {pb nt : Nat} {a : Act} {s : AS}
theorem St.K (h : St E x0 w0 pb nt x a w s) (hp : ∀ n, n < pb → E.ng ≤ x0.bx n) : E.K w := by
  refine E.hK w0 w h.fr.2.2.2.1 (fun k hk => h.fr.2.2.2.2 k (Nat.lt_of_lt_of_le hk (E.hg _ h.k)) ?_) h.k
  rintro (⟨n, hn, rfl⟩ | ⟨o, ho⟩)
  · have := hp n hn
    omega
  · have := (h.j0 _ _ ho).2.1
    omega
theorem get_put (s : AS) (t u : Nat) (v : AV) : (s.put t v).get u = if u = t then v else s.get u := by
  unfold AS.get AS.put
  simp only [look_setL]
  split <;> rfl
theorem get_setB (s : AS) (n : Nat) (l : List AV) (u : Nat) : (s.setB n l).get u = s.get u := rfl
theorem bxs_put (s : AS) (t : Nat) (v : AV) : (s.put t v).bxs = s.bxs := rfl
theorem bxs_putO (s : AS) (t : Option Nat) (v : AV) : (s.putO t v).bxs = s.bxs := by cases t <;> rfl
theorem getD_put {a : Act} {d : Option Nat} {v : Value} {t : Nat} : (a.put d v).tmps.getD t undef = match d with
    | some u => if t = u ∧ u < a.tmps.size then v else a.tmps.getD t undef
    | none => a.tmps.getD t undef := by
  cases d with
  | none => rfl
  | some u =>
    simp only [Act.put, Array.getD_eq_getD_getElem?, Array.getElem?_setIfInBounds]
    by_cases h : u = t
    · subst h
      by_cases h2 : u < a.tmps.size
      · simp [h2]
      · simp [h2]
    · rw [if_neg h, if_neg (fun e => h e.1.symm)]
theorem size_put {a : Act} {d : Option Nat} {v : Value} : (a.put d v).tmps.size = a.tmps.size := by
  cases d <;> simp [Act.put]
theorem defers_put {a : Act} {d : Option Nat} {v : Value} : (a.put d v).defers = a.defers := by
  cases d <;> rfl
/-- The environment behind one write. -/
theorem env_put (h : ∀ t, Rel x w0.heap.size (a.tmps.getD t undef) (s.get t)) (hn : a.tmps.size = nt) {d : Option Nat} (hd : ∀ t, d = some t → t < nt) {v : Value} {av : AV} (r : Rel x w0.heap.size v av) :
    ∀ t, Rel x w0.heap.size ((a.put d v).tmps.getD t undef) ((s.putO d av).get t) := by
  intro t
  rw [getD_put]
  cases d with
  | none => exact h t
  | some u =>
    have hu := hd u rfl
    simp only [AS.putO, get_put]
    by_cases ht : t = u
    · subst ht
      rw [if_pos ⟨rfl, by omega⟩, if_pos rfl]
      exact r
    · rw [if_neg (fun e => ht e.1), if_neg ht]
      exact h t
theorem St.put (h : St E x0 w0 pb nt x a w s) {d : Option Nat} (hd : ∀ t, d = some t → t < nt) {v : Value} {av : AV} (r : Rel x w0.heap.size v av) : St E x0 w0 pb nt x (a.put d v) w (s.putO d av) :=
  { h with df := by rw [defers_put]; exact h.df, nt := by rw [size_put]; exact h.nt, env := env_put h.env h.nt hd r, bxs := by rw [bxs_putO]; exact h.bxs, inj := by rw [bxs_putO]; exact h.inj, tlb := by rw [bxs_putO]; exact h.tlb }
theorem ofC_rel (x : X) (base : Nat) (v : Value) : Rel x base v (AV.ofC v) := by
  unfold AV.ofC
  split
  · refine .sl _ _ _ _ (.sl none 0 0 _ 1 [] 0 0 (fun _ _ => default) rfl (Nat.le_refl _) (fun h => absurd rfl h) (by simp) (by simp) (by simp)) (fun _ => .sl none 0 0 _ 1 [] 0 0 (fun _ _ => default) rfl (Nat.le_refl _) (fun h => absurd rfl h) (by simp) (by simp) (by simp)) ⟨none, rfl⟩
  · split
    · exact .lit _ ‹_›
    · exact .un _
theorem ofV_rel (x : X) (base : Nat) (v : Value) : Rel x base v (AV.ofV v) := by
  unfold AV.ofV
  split
  · rename_i cs
    refine .agg _ _ (by simp) fun j v c hv hc => ?_
    rw [List.getElem?_map, Array.getElem?_toList, hv] at hc
    obtain rfl := Option.some.inj hc
    exact ofC_rel _ _ _
  · exact ofC_rel _ _ _
theorem od_rel (h : ∀ t, Rel x w0.heap.size (a.tmps.getD t undef) (s.get t)) {o : Operand} {y : Od} (hy : od o = some y) : Rel x w0.heap.size (a.eval o) (s.val y) := by
  cases o with
  | tmp t => obtain rfl := Option.some.inj hy; exact h t
  | const v => obtain rfl := Option.some.inj hy; exact ofV_rel _ _ _
  | func f => obtain rfl := Option.some.inj hy; exact .fn f #[] [] rfl (by simp)
  | global g => cases hy
theorem ods_rel (h : ∀ t, Rel x w0.heap.size (a.tmps.getD t undef) (s.get t)) : ∀ {l : List Operand} {ys : List Od}, ods l = some ys → (l.map a.eval).length = (s.vals ys).length ∧ ∀ (j : Nat) (v : Value) (c : AV), (l.map a.eval)[j]? = some v → (s.vals ys)[j]? = some c → Rel x w0.heap.size v c
  | [], ys, hy => by obtain rfl := Option.some.inj hy; simp [AS.vals]
  | o :: l, ys, hy => by
    simp only [ods, Option.bind_eq_some_iff] at hy
    obtain ⟨y, h1, r, h2, h3⟩ := hy
    obtain rfl := Option.some.inj h3
    obtain ⟨i1, i2⟩ := ods_rel h h2
    refine ⟨by simpa [AS.vals] using i1, fun j v c hv hc => ?_⟩
    cases j with
    | zero =>
      simp [AS.vals] at hv hc
      subst hv hc
      exact od_rel h h1
    | succ j => exact i2 j v c (by simpa using hv) (by simpa [AS.vals] using hc)
end
/-! inversions -/
theorem Rel.lit_inv {x : X} {base : Nat} {v u : Value} (r : Rel x base v (.lit u)) : v = u := by cases r; rfl
theorem Rel.lit_inv' {x : X} {base : Nat} {v u : Value} {a : AV} (r : Rel x base v a) (h : a = .lit u) : v = u := by subst h; cases r; rfl
end Go.Proofs.Ytpopccnnjpdmlaa.Vm
