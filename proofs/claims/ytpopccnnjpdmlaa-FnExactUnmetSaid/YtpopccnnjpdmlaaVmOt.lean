/- An abstract machine over values: memory that a law writes itself: a row, cell for cell; a law's arguments. -/
import Derived.Test.YtpopccnnjpdmlaaVmOv
namespace Go.Proofs.Ytpopccnnjpdmlaa.Vm
open Go Go.RowKit
set_option linter.unusedVariables false
set_option linter.unusedSimpArgs false
/-- the one slice in it bears the label and holds just this -/
def okT (T sz : Nat) (xs : List AV) : AV → Prop
  | .lit _ => True
  | .sl m z ys => m.ap = .ow T ∧ z = sz ∧ ys = xs
  | .agg cs => okTL T sz xs cs
  | _ => False
where okTL (T sz : Nat) (xs : List AV) : List AV → Prop
  | [] => True
  | c :: cs => okT T sz xs c ∧ okTL T sz xs cs
def bsT : AV → AV
  | .sl _ sz xs => .bs 0 sz xs.length
  | .agg cs => .agg (bsTL cs)
  | x => x
where bsTL : List AV → List AV
  | [] => []
  | c :: cs => bsT c :: bsTL cs
theorem bsTL_get : ∀ (cs : List AV) (j : Nat), (bsT.bsTL cs)[j]? = (cs[j]?).map bsT
  | [], j => by simp [bsT.bsTL]
  | c :: cs, 0 => by simp [bsT.bsTL]
  | c :: cs, j + 1 => by simpa [bsT.bsTL] using bsTL_get cs j
theorem bsTL_len : ∀ (cs : List AV), (bsT.bsTL cs).length = cs.length
  | [] => rfl
  | c :: cs => by simp [bsT.bsTL, bsTL_len cs]
theorem okTL_get {T sz : Nat} {xs : List AV} : ∀ {cs : List AV} {j : Nat} {c : AV}, okT.okTL T sz xs cs → cs[j]? = some c → okT T sz xs c
  | [], _, _, _, h => by simp at h
  | y :: cs, 0, c, h, hc => by
    obtain rfl : y = c := by simpa using hc
    exact h.1
  | y :: cs, j + 1, c, h, hc => okTL_get (cs := cs) (j := j) h.2 (by simpa using hc)
/-- somewhere in it there is a slice -/
def hasT : AV → Bool
  | .sl _ _ _ => true
  | .agg cs => hasTL cs
  | _ => false
where hasTL : List AV → Bool
  | [] => false
  | c :: cs => hasT c || hasTL cs
theorem hasTL_get : ∀ {cs : List AV}, hasT.hasTL cs = true → ∃ (j : Nat) (c : AV), cs[j]? = some c ∧ hasT c = true
  | [], h => by cases h
  | c :: cs, h => by
    simp only [hasT.hasTL, Bool.or_eq_true] at h
    rcases h with h | h
    · exact ⟨0, c, rfl, h⟩
    · obtain ⟨j, d, h1, h2⟩ := hasTL_get h
      exact ⟨j + 1, d, by simpa using h1, h2⟩
theorem okT_rv {x : X} {base T sz : Nat} {xs : List AV} (hT : 100000 ≤ T) {v : Value} {a : AV} (r : Rel x base v a) : okT T sz xs a → hasT a = true → ∃ v0, x.rv T = some v0 ∧ RepD (x.G.rng (x.rg T)) v0 (.sl ro sz xs) := by
  induction r with
  | sl v m z ys h1 h2 h3 =>
    rintro ⟨e1, rfl, rfl⟩ _
    rw [e1] at h3
    exact ⟨v, h3.2 hT, h3.1⟩
  | agg vs cs hs _ ih =>
    intro hk hh
    obtain ⟨j, c, hc, hh⟩ := hasTL_get (by simpa only [hasT] using hh)
    have hlt : j < vs.size := by rw [hs]; exact (List.getElem?_eq_some_iff.1 hc).1
    exact ih j vs[j] c (Array.getElem?_eq_getElem hlt) hc (okTL_get (by simpa only [okT] using hk) hc) hh
  | lit v h => intro _ hh; cases hh
  | un v => intro hk; exact hk.elim
  | tup => intro hk; exact hk.elim
  | ptr => intro hk; exact hk.elim
  | ep => intro hk; exact hk.elim
  | fn => intro hk; exact hk.elim
  | bs => intro hk; exact hk.elim
  | hs => intro hk; exact hk.elim
  | hp => intro hk; exact hk.elim
theorem rel_bsT {x xc : X} {base base' T sz n cap : Nat} {xs : List AV} {A : Addr} (hT : 100000 ≤ T) (hn : n = xs.length) (hrv : x.rv T = some (.slice (some A) n cap)) (hA : A = ⟨xc.bx 0, (xc.bz 0).2, none⟩) (hz : (xc.bz 0).1 = sz) (hc : n ≤ cap) {v : Value} {a : AV} (r : Rel x base v a) : okT T sz xs a → Rel xc base' v (bsT a) := by
  induction r with
  | sl v m z ys h1 h2 h3 =>
    rintro ⟨e1, rfl, rfl⟩
    rw [e1] at h3
    have := h3.2 hT
    rw [hrv] at this
    rw [← Option.some.inj this, hA, hn]
    exact Rel.bs (x := xc) 0 z ys.length cap hz (by omega)
  | agg vs cs hs _ ih =>
    intro hk
    refine .agg _ _ (by rw [bsTL_len]; exact hs) fun j v d hv hd => ?_
    rw [bsTL_get] at hd
    obtain ⟨e, he, rfl⟩ := Option.map_eq_some_iff.1 hd
    exact ih j v e hv he (okTL_get (by simpa only [okT] using hk) he)
  | lit v h => exact fun _ => .lit v h
  | un v => intro hk; exact hk.elim
  | tup => intro hk; exact hk.elim
  | ptr => intro hk; exact hk.elim
  | ep => intro hk; exact hk.elim
  | fn => intro hk; exact hk.elim
  | bs => intro hk; exact hk.elim
  | hs => intro hk; exact hk.elim
  | hp => intro hk; exact hk.elim
/-- a row of plain cells -/
def rowOk (sz : Nat) (xs : List AV) : Bool := xs.all fun e => decide (e.cells.length = sz) && e.cells.all isLit
theorem rowOk_get {sz : Nat} {xs : List AV} (h : rowOk sz xs = true) {i : Nat} {e : AV} (he : xs[i]? = some e) : e.cells.length = sz ∧ ∀ (j : Nat) (c : AV), e.cells[j]? = some c → ∃ u, c = .lit u := by
  have := List.all_eq_true.1 h e (List.mem_of_getElem? he)
  simp only [Bool.and_eq_true, decide_eq_true_eq] at this
  refine ⟨this.1, fun j c hc => ?_⟩
  have h2 := List.all_eq_true.1 this.2 c (List.mem_of_getElem? hc)
  cases c <;> first | exact ⟨_, rfl⟩ | cases h2
section
variable {E : Env} {s : AS}
/-- A call that writes into the row of a label, cell for cell. -/
theorem vcall_row {t T f sz : Nat} {kv rv : Value} {av : AV} {xs ys : List AV} {Q : AS → Prop} (hF : Fx E f [xs] [bsT av, .lit kv] [ys] (.lit rv)) (hT : 100000 ≤ T) (ha : okT T sz xs av) (hh : hasT av = true) (h0 : 0 < sz) (hne : xs ≠ []) (hxs : rowOk sz xs = true) (hys : rowOk sz ys = true) (hlen : ys.length = xs.length) {l : Lk Q} (h4 : Q ((s.kp T (some (sz, ys))).put t (.lit rv))) : Xc E false s (some t) f [av, .lit kv] Q l := by
  refine .inr ⟨rfl, fun x0 w0 pb nt x a w hs hK hd args hl hr => ?_⟩
  have hT0 : T ≠ 0 := by omega
  have hlt0 : 0 < args.size := by rw [hl]; simp
  have hra := hr 0 args[0] av (Array.getElem?_eq_getElem hlt0) rfl
  obtain ⟨v0, hv0, hrep⟩ := okT_rv hT hra ha hh
  obtain ⟨A, n, cap, b, o, f0, rfl, hn, hcap, rfl, hlenx, hcell, hrepc⟩ : ∃ (A : Option Addr) (n cap b o : Nat) (f0 : Nat → Nat → Value), v0 = .slice A n cap ∧ n = xs.length ∧ n ≤ cap ∧ A = some ⟨b, o, none⟩ ∧ (∀ (i : Nat) (x : AV), xs[i]? = some x → x.cells.length = sz) ∧ (∀ (i : Nat) (y : AV) (j : Nat) (c : AV), xs[i]? = some y → y.cells[j]? = some c → (x.G.rng (x.rg T)) b (o + i * sz + j) = some (f0 i j) ∧ (f0 i j).oneCell' = true) ∧
      ∀ (i : Nat) (y : AV) (j : Nat) (c : AV), xs[i]? = some y → y.cells[j]? = some c → RepD (x.G.rng (x.rg T)) (f0 i j) c := by
    cases hrep with
    | sl A n cap _ _ _ b o f h1 h2 h3 h4 h5 h6 => exact ⟨A, n, cap, b, o, f, rfl, h1, h2, h3 hne, h4, h5, h6⟩
  have hpos : 0 < xs.length := List.length_pos_iff.2 hne
  -- the block
  have hfact : ∀ i j, i < xs.length → j < sz → (x.G.rng (x.rg T)) b (o + i * sz + j) = some (f0 i j) ∧ (f0 i j).oneCell' = true := by
    intro i j hi hj
    have he := List.getElem?_eq_getElem hi
    obtain ⟨e1, e2⟩ := rowOk_get hxs he
    exact hcell i _ j (xs[i].cells[j]'(by omega)) he (List.getElem?_eq_getElem _)
  have hb : x.rg T b := (rng_some.1 (hfact 0 0 hpos h0).1).1
  have hbb := hs.rgb T b hb
  have hb0 := hbb.2 hT0
  obtain ⟨vals, ty, fz, hv1, hv2⟩ := hs.ag b _ _ (rng_some.1 (hfact 0 0 hpos h0).1).2
  obtain rfl := hs.uf b vals ty fz hb0 hv1
  have hval : ∀ i j, i < xs.length → j < sz → vals[o + i * sz + j]? = some (f0 i j) := by
    intro i j hi hj
    obtain ⟨c, ty', fz', e1, e2⟩ := hs.ag b _ _ (rng_some.1 (hfact i j hi hj).1).2
    rw [hv1] at e1
    injection e1 with e1; injection e1 with e1
    rw [e1]; exact e2
  have hend : o + xs.length * sz ≤ vals.size := by
    have := (Array.getElem?_eq_some_iff.1 (hval (xs.length - 1) (sz - 1) (by omega) (by omega))).1
    have e : xs.length * sz = (xs.length - 1) * sz + sz := by
      conv => lhs; rw [show xs.length = (xs.length - 1) + 1 by omega]
      rw [Nat.add_mul]; omega
    omega
  let xc : X := { G := fun _ _ => none, bx := fun _ => b, bz := fun _ => (sz, o), tl := fun _ => none, rg := fun _ _ => False, J := fun _ _ => False, rv := fun _ => none }
  refine (hF.2.2 xc w args (hs.K hK) (fun _ => rfl) (fun n hn => by show E.ng ≤ b; have := E.hg _ hs.k; omega) ⟨fun b o h => h.elim, fun b o h => h.elim, fun _ _ h => h⟩ (by simpa using hl) (fun i v c hv hc => ?_) (fun b o v hv => by cases hv) (fun k l hk => ?_) (fun n m hn hm _ => by simp at hn hm; omega)).mono ?_
  · match i with
    | 0 =>
      obtain rfl : bsT av = c := by simpa using hc
      exact rel_bsT (xc := xc) hT hn hv0 rfl rfl hcap (hr 0 v av hv rfl) ha
    | 1 =>
      obtain rfl : AV.lit kv = c := by simpa using hc
      have := hr 1 v (.lit kv) hv rfl
      cases this with
      | lit _ h => exact .lit _ h
    | i + 2 => simp at hc
  · cases k with
    | succ k => simp at hk
    | zero =>
      obtain rfl : xs = l := by simpa using hk
      refine ⟨⟨vals, ty, hv1, hend, h0, fun i e he => ?_⟩, fun o => rfl⟩
      obtain ⟨e1, e2⟩ := rowOk_get hxs he
      refine ⟨e1, fun j c hc => ?_⟩
      obtain ⟨u, rfl⟩ := e2 j c hc
      have hi := (List.getElem?_eq_some_iff.1 he).1
      have hj : j < sz := by have := (List.getElem?_eq_some_iff.1 hc).1; omega
      have hr := hrepc i e j _ he hc
      have hv := hval i j hi hj
      generalize f0 i j = q at hr hv
      cases hr with
      | lit _ hu => exact ⟨rfl, _, hv, hu, .lit _ hu⟩
  · rintro e w' ⟨v, x2, rfl, g1, g2, g3, g4, ⟨w1, w2, w3, w4, w5⟩, g6, g7, g8, g9, g10⟩
    have hv : v = rv := g1.lit_inv
    subst hv
    have hlit : v.oneCell' = true := by cases g1 with | lit _ h => exact h
    obtain ⟨q1, q2⟩ := g6 0 (by simp)
    obtain ⟨⟨vals', ty', z1, z2, z3, z4⟩, _⟩ := g7 0 ys rfl
    rw [q1] at z1
    rw [q2] at z2 z3 z4
    replace z1 : w'.heap[b]? = some (.cells vals' ty' (0, 0)) := z1
    replace z2 : o + ys.length * sz ≤ vals'.size := z2
    let G2 : Gh := fun b' o' => @ite _ (x.rg T b') (Classical.propDecidable _) (if b' = b ∧ o ≤ o' ∧ o' < o + ys.length * sz then vals'[o']? else none) (x.G b' o')
    have hG2in : ∀ b' o', x.rg T b' → G2 b' o' = if b' = b ∧ o ≤ o' ∧ o' < o + ys.length * sz then vals'[o']? else none := fun b' o' h => if_pos h
    have hG2out : ∀ b' o', ¬ x.rg T b' → G2 b' o' = x.G b' o' := fun b' o' h => if_neg h
    have hsb : ∀ k, k < w.heap.size → k ≠ b → w'.heap[k]? = w.heap[k]? := by
      intro k hk hkb
      refine w5 k hk ?_
      rintro (⟨n, hn, e⟩ | ⟨o, ho⟩)
      · exact hkb e
      · exact ho
    have hheq : ∀ b', b' < w.heap.size → (¬ x.rg T b' ∨ ∀ o, x.G b' o = none) → w'.heap[b']? = w.heap[b']? := by
      intro b' hb' hh'
      refine hsb b' hb' ?_
      rintro rfl
      rcases hh' with hh' | hh'
      · exact hh' hb
      · have := (rng_some.1 (hfact 0 0 hpos h0).1).2
        rw [hh'] at this; cases this
    have hnewrep : RepD (G2.rng (x.rg T)) (.slice (some ⟨b, o, none⟩) n cap) (.sl ro sz ys) := by
      have hlt : ∀ i j, i < ys.length → j < sz → o + i * sz + j < o + ys.length * sz := by
        intro i j hi hj
        have : (i + 1) * sz ≤ ys.length * sz := Nat.mul_le_mul_right _ hi
        rw [Nat.add_mul] at this
        omega
      refine .sl _ n cap _ _ _ b o (fun i j => (vals'[o + i * sz + j]?).getD undef) (by omega) hcap (fun _ => rfl) (fun i y hy => (rowOk_get hys hy).1) (fun i y j c hy hc => ?_) (fun i y j c hy hc => ?_)
      · obtain ⟨e1, e2⟩ := z4 i y hy
        obtain ⟨_, u, u1, u2, _⟩ := e2 j c hc
        have hi := (List.getElem?_eq_some_iff.1 hy).1
        have hj : j < sz := by have := (List.getElem?_eq_some_iff.1 hc).1; have := (rowOk_get hys hy).1; omega
        replace u1 : vals'[o + i * sz + j]? = some u := u1
        rw [u1]
        refine ⟨rng_some.2 ⟨hb, ?_⟩, u2⟩
        rw [hG2in _ _ hb, if_pos ⟨rfl, by omega, hlt i j hi hj⟩]
        exact u1
      · obtain ⟨e1, e2⟩ := z4 i y hy
        obtain ⟨_, u, u1, u2, u3⟩ := e2 j c hc
        replace u1 : vals'[o + i * sz + j]? = some u := u1
        rw [u1]
        obtain ⟨q, rfl⟩ := (rowOk_get hys hy).2 j c hc
        cases u3 with
        | lit _ hq => exact .lit _ hq
    have hst := hs.kp (T := T) (R := some (sz, ys)) (G2 := G2) (w' := w') hT0 (fun b' hb' o' => hG2out b' o' hb') (fun b' hb' o' => ?_) (fun p hp => ?_) (fun b' o' u hb' hu => ?_) w4 ⟨w1, w2, w3⟩ hheq (fun b' c ty2 fz2 hb' hh' => ?_) g10
    · exact ⟨v, _, _, rfl, h4, keep_kp _ _ _ _ _, hst.put hd (.lit v hlit)⟩
    · by_cases hr' : x.rg T b'
      · rw [hG2in _ _ hr', if_neg]
        rintro ⟨rfl, _⟩
        have := (rng_some.1 (hfact 0 0 hpos h0).1).2
        rw [hb'] at this; cases this
      · rw [hG2out _ _ hr']; exact hb' o'
    · obtain rfl := Option.some.inj hp
      refine ⟨hT, fun u hu => ?_⟩
      rw [hv0] at hu
      rw [← Option.some.inj hu]
      exact hnewrep
    · rw [hG2in _ _ hb'] at hu
      split at hu
      · rename_i hc
        obtain ⟨rfl, _, _⟩ := hc
        exact ⟨vals', ty', _, z1, hu⟩
      · cases hu
    · by_cases hbb' : b' = b
      · subst hbb'
        rw [z1] at hh'
        injection hh' with hh'; injection hh' with _ _ e3; exact e3.symm
      · have := hs.rgb T b' hb'
        rw [hsb b' this.1 hbb'] at hh'
        exact hs.uf b' c ty2 fz2 (this.2 hT0) hh'
end
/-- The memory of a law's arguments gets the label 0. -/
theorem rel_own0 {x : X} {base : Nat} {w : World} (hag : Agree x.G w) {v : Value} {a : AV} (r : Rel x base v a) : dat a = true → frA (.sl ro 1 []) = false → Rel { x with rg := fun k b => k = 0 ∧ b < w.heap.size } base v (ownA 0 false a) := by
  induction r with
  | un v => exact fun _ _ => .un v
  | lit v h => exact fun _ _ => .lit v h
  | sl v m sz xs h1 h2 h3 =>
    intro _ _
    refine .sl _ _ _ _ h1.mark (fun hf => by cases hf) ⟨(h1.mono ?_).mark, fun h => by omega⟩
    intro b o u hu
    exact rng_some.2 ⟨⟨rfl, agree_lt hag hu⟩, hu⟩
  | agg vs cs hs _ ih =>
    intro hd hz
    refine .agg _ _ (by rw [ownL_len]; exact hs) fun j v d hv hdd => ?_
    rw [ownL_get] at hdd
    obtain ⟨e, he, rfl⟩ := Option.map_eq_some_iff.1 hdd
    exact ih j v e hv he (datL_get (by simpa only [dat] using hd) he) hz
  | tup => intro hd; cases hd
  | ptr => intro hd; cases hd
  | ep => intro hd; cases hd
  | fn => intro hd; cases hd
  | bs => intro hd; cases hd
  | hs => intro hd; cases hd
  | hp => intro hd; cases hd
theorem Is.fxo {E : Env} {f nt : Nat} {vc : VC} {rs : List VR} (h : Is E.P f nt vc rs) {args : List AV} {r : AV} (hda : dat.datL args = true) (hlen : args.length ≤ nt) (hres : resOk r = true) (hv : Xe E vc ⟨enum 0 (ownA.ownL 0 false args), []⟩ (Fin rs r []) .mk) : Fx E f [] args [] r := by
  obtain ⟨fn, dr, h1, h2, h3, h4, h5⟩ := h.ex
  refine Fx_of h1 h2 h3 h4 (fun _ _ _ hK id ops os Q x a w s => draw_sound hK id ops os Q x a w s) [] (s0 := ⟨enum 0 (ownA.ownL 0 false args), []⟩) (fun x a w hrg _ hst => ?_) (by rw [h5]; exact hlen) (by simp) rfl ⟨hres, rfl, rfl⟩ (vx_mono _ _ _ _ hv ?_)
  · refine ⟨{ x with rg := fun k b => k = 0 ∧ b < w.heap.size }, { hst with env := fun t => ?_, bxs := fun n l hl => (by cases hl), rgb := fun k b hb => ⟨hb.2, fun hk => absurd hb.1 hk⟩, rgd := fun k k' b hb hb' => hb.1.trans hb'.1.symm }⟩
    have he := hst.env t
    unfold AS.get at he ⊢
    simp only [look_enum, Nat.zero_le, if_true, Nat.sub_zero] at he ⊢
    rw [ownL_get]
    cases hc : args[t]? with
    | none => exact .un _
    | some c =>
      rw [hc] at he
      exact rel_own0 hst.ag he (datL_get hda hc) rfl
  · rintro e s ⟨he, s1, hw, l, g1, g2⟩
    exact ⟨he, s1, hw, l, g1, g2, [], rfl, rfl⟩
end Go.Proofs.Ytpopccnnjpdmlaa.Vm
