/- An abstract machine over values: regions in the order of the text, code, functions. -/
import Derived.Test.YtpopccnnjpdmlaaVmN
namespace Go.Proofs.Ytpopccnnjpdmlaa.Vm
open Go Go.RowKit
set_option linter.unusedVariables false
set_option linter.unusedSimpArgs false
/-- An operation as it was read off. -/
structure IsOp (P : Program) (q : Bool) (nt : Nat) (ops : Array Oper) (o : Oper) (vo : VO) : Prop where
  k : cOp P q o.op = some vo.k
  d : vo.d = o.dst
  nt : ∀ t, o.dst = some t → t < nt
  g : match o.guard with
    | none => vo.g = none
    | some (j, w) => ∃ t, (ops[j]?).bind (·.dst) = some t ∧ vo.g = some (t, w)
theorem cReg_spec {P : Program} {q : Bool} {nt : Nat} {ops : Array Oper} : ∀ {l : List Oper} {os : List VO}, cReg P q nt ops l = some os → os.length = l.length ∧ ∀ (i : Nat) (o : Oper) (vo : VO), l[i]? = some o → os[i]? = some vo → IsOp P q nt ops o vo
  | [], os, h => by obtain rfl := Option.some.inj h; simp
  | o :: l, os, h => by
    simp only [cReg] at h
    obtain ⟨k, hk, h⟩ := Option.bind_eq_some_iff.1 h
    obtain ⟨r, hr, h⟩ := Option.bind_eq_some_iff.1 h
    obtain ⟨i1, i2⟩ := cReg_spec hr
    split at h
    · rename_i hd
      have hnt : ∀ t, o.dst = some t → t < nt := by
        intro t ht
        rw [ht] at hd
        exact of_decide_eq_true hd
      split at h
      · rename_i hg
        obtain rfl := Option.some.inj h
        refine ⟨by simp [i1], fun i o' vo ho hvo => ?_⟩
        cases i with
        | zero =>
          simp at ho hvo
          subst ho hvo
          exact ⟨hk, rfl, hnt, by rw [hg]⟩
        | succ i => exact i2 i o' vo (by simpa using ho) (by simpa using hvo)
      · rename_i j w hg
        split at h
        · rename_i t ht
          obtain rfl := Option.some.inj h
          refine ⟨by simp [i1], fun i o' vo ho hvo => ?_⟩
          cases i with
          | zero =>
            simp at ho hvo
            subst ho hvo
            exact ⟨hk, rfl, hnt, by rw [hg]; exact ⟨t, ht, rfl⟩⟩
          | succ i => exact i2 i o' vo (by simpa using ho) (by simpa using hvo)
        · cases h
    · cases h
section
variable {E : Env} {x0 x : X} {w0 w : World} {pb nt : Nat} {a : Act} {s : AS}
theorem vop_sound (h : St E x0 w0 pb nt x a w s) (hK : ∀ n, n < pb → E.ng ≤ x0.bx n) {q : Bool} {ops : Array Oper} {i : Nat} {o : Oper} {vo : VO} (ho : ops[i]? = some o) (his : IsOp E.P q nt ops o vo) {Q : AS → Prop} (hv : vop E vo s Q) {QQ : Exit → Act → World → Prop} : wpOp E.P ops QQ i (Next2 E x0 w0 pb nt Q) a w := by
  unfold wpOp
  rw [ho]
  simp only
  obtain ⟨hk, hd, hnt, hg⟩ := his
  have act : vact E s vo.d Q vo.k → o.wp E.P a w (Next2 E x0 w0 pb nt Q) QQ := fun hv => vact_sound h hK hk hnt (by rw [← hd]; exact hv)
  unfold vop at hv
  cases hgd : o.guard with
  | none =>
    rw [hgd] at hg
    simp only at hg
    rw [hg] at hv
    have : Region.wanted o (yielded ops a.tmps) = true := by simp [Region.wanted, hgd]
    rw [if_pos this]
    exact .inl (act hv)
  | some p =>
    obtain ⟨j, wt⟩ := p
    rw [hgd] at hg
    obtain ⟨t, ht, hg⟩ := hg
    rw [hg] at hv
    obtain ⟨b, hb, hv⟩ := hv
    have hr := h.env t
    have hy : yielded ops a.tmps j = b := by
      cases hgt : s.get t <;> rw [hgt] at hb hr <;> simp only [gOf, reduceCtorEq] at hb
      · rename_i v
        cases v <;> simp only [gOf, reduceCtorEq] at hb
        rename_i b'
        obtain rfl := Option.some.inj hb
        have hval := hr.lit_inv
        have htm : a.tmps[t]? = some (.bool b') := by
          rw [Array.getD_eq_getD_getElem?] at hval
          cases hh : a.tmps[t]? with
          | none => rw [hh] at hval; cases hval
          | some v => rw [hh] at hval; simp at hval; rw [hval]
        unfold yielded; rw [ht]; simp [htm]
      · rename_i cs
        cases cs <;> simp only [gOf, reduceCtorEq] at hb
        obtain rfl := Option.some.inj hb
        have hval : ∃ vs : Array Value, a.tmps.getD t undef = .tuple vs := by
          generalize hh : a.tmps.getD t undef = v at hr
          cases hr with
          | tup vs cs _ _ => exact ⟨vs, rfl⟩
        obtain ⟨vs, hval⟩ := hval
        unfold yielded; rw [ht]
        rw [Array.getD_eq_getD_getElem?] at hval
        cases hh : a.tmps[t]? with
        | none => simp [hh]
        | some v => rw [hh] at hval; simp at hval; simp [hh, hval]
    by_cases hbw : b = some wt
    · rw [if_pos hbw] at hv
      have : Region.wanted o (yielded ops a.tmps) = true := by simp [Region.wanted, hgd, hy, hbw]
      rw [if_pos this]
      exact .inl (act hv)
    · rw [if_neg hbw] at hv
      have : ¬ (Region.wanted o (yielded ops a.tmps) = true) := by simp [Region.wanted, hgd, hy, hbw]
      rw [if_neg this]
      exact ⟨x, _, hv, by rw [hd]; exact h.put hnt (.tup #[] [] rfl (by simp))⟩
/-- The ends of a piece of code, as the abstract ones. -/
def CQ (E : Env) (x0 : X) (w0 : World) (pb nt : Nat) (Q : Ex → AS → Prop) : Exit → Act → World → Prop
  | .normal, a, w => Next2 E x0 w0 pb nt (Q .normal) a w
  | .ret, a, w => Next2 E x0 w0 pb nt (Q .ret) a w
  | .exit n, a, w => Next2 E x0 w0 pb nt (Q (.exit n)) a w
  | _, _, _ => False
theorem vops_sound (hK : ∀ n, n < pb → E.ng ≤ x0.bx n) {q : Bool} {ops : Array Oper} {Q : AS → Prop} {QQ : Exit → Act → World → Prop} (hQ : ∀ a w, Next2 E x0 w0 pb nt Q a w → QQ .normal a w) (hi : ∀ (i : Nat) (o : Oper) (vo : VO) (os : List VO), True) :
    ∀ (l : List Nat) (os : List VO) (x : X) (a : Act) (w : World) (s : AS), os.length = l.length → (∀ (k i : Nat) (vo : VO), l[k]? = some i → os[k]? = some vo → ∃ o, ops[i]? = some o ∧ IsOp E.P q nt ops o vo) → St E x0 w0 pb nt x a w s → vops E os s Q → wpOps E.P ops QQ l a w
  | [], os, x, a, w, s, hlen, _, h, hv => by
    have : os = [] := List.eq_nil_of_length_eq_zero (by simpa using hlen)
    subst this
    exact hQ a w ⟨x, s, hv, h⟩
  | i :: l, os, x, a, w, s, hlen, hall, h, hv => by
    cases os with
    | nil => simp at hlen
    | cons vo os =>
      obtain ⟨o, ho, his⟩ := hall 0 i vo rfl rfl
      rw [wpOps_cons]
      refine wpOp_mono (fun a' w' hn => ?_) (vop_sound h hK ho his hv)
      obtain ⟨x', s', hv', h'⟩ := hn
      exact vops_sound hK hQ hi l os x' a' w' s' (by simpa using hlen) (fun k i' vo' h1 h2 => hall (k + 1) i' vo' (by simpa using h1) (by simpa using h2)) h' hv'
theorem drop1_look (t u : Nat) : ∀ (l : List (Nat × AV)), look (drop1 t l) u = none ∨ look (drop1 t l) u = look l u
  | [] => .inl rfl
  | (k, v) :: l => by
    simp only [drop1]
    split
    · rename_i htk
      subst htk
      simp only [look]
      by_cases hu : u = t
      · subst hu
        rw [if_pos rfl]
        have : ∀ l : List (Nat × AV), look (drop1 u l) u = none := by
          intro l
          induction l with
          | nil => rfl
          | cons p l ih =>
            obtain ⟨k, v⟩ := p
            simp only [drop1]
            split
            · exact ih
            · simp only [look]; rw [if_neg (by assumption)]; exact ih
        exact .inl (this l)
      · rw [if_neg hu]
        exact drop1_look t u l
    · simp only [look]
      split
      · exact .inr rfl
      · exact drop1_look t u l
theorem drops_look : ∀ (ts : List Nat) (l : List (Nat × AV)) (u : Nat), look (drops ts l) u = none ∨ look (drops ts l) u = look l u
  | [], l, u => .inr rfl
  | t :: ts, l, u => by
    simp only [drops]
    rcases drops_look ts (drop1 t l) u with h | h
    · exact .inl h
    · rcases drop1_look t u l with h2 | h2
      · exact .inl (h.trans h2)
      · exact .inr (h.trans h2)
theorem wkV_rel {v : Value} {b c : AV} (h : wkV b c) (r : Rel x w0.heap.size v c) : Rel x w0.heap.size v b := by
  rcases h with rfl | rfl | ⟨m, m', z, z', xs, rfl, rfl, h1, h2⟩
  · exact r
  · exact .un _
  · cases r with
    | sl _ _ _ _ d1 d2 d3 =>
      have hz : z' = z ∨ xs = [] := by
        rcases h2 with h2 | h2 | h2 | ⟨c, h2⟩
        · exact h2.2
        · exact .inl h2.2
        · exact .inr h2.2.2
        · exact .inr h2.2.2
      have mk : ∀ {G : Gh}, RepD G v (.sl m z xs) → RepD G v (.sl m' z' xs) := by
        intro G hr
        rcases hz with rfl | rfl
        · exact hr.mark
        · cases hr with
          | sl A n cap _ _ _ b o f g1 g2 g3 g4 g5 g6 => exact .sl A n cap m' z' [] b o f g1 g2 g3 (by simp) (by simp) (by simp)
      refine .sl _ _ _ _ (mk d1) (fun hf => mk (d2 (h1 hf))) ?_
      rcases h2 with h2 | h2 | h2 | ⟨c, h2⟩
      · rw [h2.1]; trivial
      · rw [h2.1, h2.2]; exact d3
      · rw [h2.1]; rw [h2.2.1] at d3; exact d3
      · rw [h2.1]; rw [h2.2.1] at d3; exact .inl d3
theorem St.drops (h : St E x0 w0 pb nt x a w s) (ts : List Nat) : St E x0 w0 pb nt x a w ⟨drops ts s.env, s.bxs⟩ :=
  { h with env := fun u => (by
      have := h.env u
      unfold AS.get at this ⊢
      rcases drops_look ts s.env u with e | e
      · simp only [e]; exact .un _
      · simp only [e]; exact this) }
end
end Go.Proofs.Ytpopccnnjpdmlaa.Vm
