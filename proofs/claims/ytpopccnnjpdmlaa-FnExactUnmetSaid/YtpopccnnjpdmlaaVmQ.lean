/- An abstract machine over values: code and functions. -/
import Derived.Test.YtpopccnnjpdmlaaVmP
namespace Go.Proofs.Ytpopccnnjpdmlaa.Vm
open Go Go.RowKit
set_option linter.unusedVariables false
set_option linter.unusedSimpArgs false
theorem reL_get (ks : List Nat) : ∀ (cs : List AV) (j : Nat), (reC.reL ks cs)[j]? = (cs[j]?).map (reC ks)
  | [], j => by simp [reC.reL]
  | c :: cs, 0 => by simp [reC.reL]
  | c :: cs, j + 1 => by simp [reC.reL, reL_get ks cs j]
theorem reL_len (ks : List Nat) : ∀ (cs : List AV), (reC.reL ks cs).length = cs.length
  | [] => rfl
  | c :: cs => by simp [reC.reL, reL_len ks cs]
theorem resL_all {cs : List AV} (h : resOk.resL cs = true) : ∀ {j : Nat} {c : AV}, cs[j]? = some c → resOk c = true := by
  induction cs with
  | nil => intro j c hc; simp at hc
  | cons y cs ih =>
    simp only [resOk.resL, Bool.and_eq_true] at h
    intro j c hc
    cases j with
    | zero =>
      obtain rfl : y = c := by simpa using hc
      exact h.1
    | succ j => exact ih h.2 (by simpa using hc)
theorem rel_reC {x : X} {base : Nat} {ks : List Nat} {v : Value} {r : AV} (h : Rel x base v r) : resOk (reC ks r) = true → Rel { x with tl := fun k => (ks[k]?).bind x.tl } base v (reC ks r) := by
  induction h with
  | un v => exact fun _ => .un v
  | lit v h => exact fun _ => .lit v h
  | sl v m sz xs h1 h2 h3 =>
    intro _
    obtain ⟨ap, fr⟩ := m
    refine .sl _ _ _ _ h1.mark (fun hf => (h2 hf).mark) ?_
    cases ap with
    | no => trivial
    | nl => exact h3
    | cl c =>
      simp only
      split
      · rename_i hc
        have hmem : c ∈ ks := by simpa using hc
        have hg := renB_get hmem
        unfold renB at hg
        simp only [Room] at h3 ⊢
        rw [hg.2]
        exact h3
      · trivial
    | ow k => exact h3
  | agg vs cs hs _ ih =>
    intro hn
    refine .agg _ _ (by rw [reL_len]; exact hs) fun j v d hv hd => ?_
    have hn' := resL_all (by simpa only [reC, resOk] using hn) hd
    rw [reL_get] at hd
    obtain ⟨e, he, rfl⟩ := Option.map_eq_some_iff.1 hd
    exact ih j v e hv he hn'
  | tup vs cs hs _ ih =>
    intro hn
    refine .tup _ _ (by rw [reL_len]; exact hs) fun j v d hv hd => ?_
    have hn' := resL_all (by simpa only [reC, resOk] using hn) hd
    rw [reL_get] at hd
    obtain ⟨e, he, rfl⟩ := Option.map_eq_some_iff.1 hd
    exact ih j v e hv he hn'
  | ptr n i off => intro hn; simp [reC, resOk] at hn
  | ep b o fr cs f h1 h2 h3 => intro hn; simp [reC, resOk] at hn
  | fn f vs cs hs hr ih => intro hn; simp [reC, resOk] at hn
  | bs n => intro hn; simp [reC, resOk] at hn
  | hs => intro hn; simp [reC, resOk] at hn
  | hp => intro hn; simp [reC, resOk] at hn
section
variable {E : Env} {x0 x : X} {w0 w : World} {pb nt : Nat} {a : Act} {s : AS}
theorem val_bool (h : St E x0 w0 pb nt x a w s) {c : Operand} {c' : Od} (hc : od c = some c') {t : Bool} (ht : s.val c' = .lit (.bool t)) : a.eval c = .bool t := litv h hc ht
theorem vx_sound (hK : ∀ n, n < pb → E.ng ≤ x0.bx n) {chk : Array Oper → List VO → Bool} (hchk : ∀ (id : Nat) (ops : Array Oper) (os : List VO) (Q : AS → Prop) (x : X) (a : Act) (w : World) (s : AS), cReg E.P true nt ops ops.toList = some os → chk ops os = true → os.all (tmpOk s) = true → vops E os s Q → St E x0 w0 pb nt x a w s → (Code.region id ops true).wp E.P (CQ E x0 w0 pb nt fun e s => e = .normal ∧ Q s) a w) {dr : Nat → List Nat} : ∀ (c : Code) (vc : VC), cCode E.P nt chk dr c = some vc → ∀ (Q : Ex → AS → Prop) (x : X) (a : Act) (w : World) (s : AS), vx E vc s Q → St E x0 w0 pb nt x a w s → c.wp E.P (CQ E x0 w0 pb nt Q) a w
  | .skip, vc, hc, Q, x, a, w, s, hv, h => by
    obtain rfl := Option.some.inj hc
    exact wp_skip ⟨x, s, hv, h⟩
  | .ret, vc, hc, Q, x, a, w, s, hv, h => by
    obtain rfl := Option.some.inj hc
    exact wp_ret ⟨x, s, hv, h⟩
  | .exit n, vc, hc, Q, x, a, w, s, hv, h => by
    obtain rfl := Option.some.inj hc
    exact wp_exit ⟨x, s, hv, h⟩
  | .seq c1 c2, vc, hc, Q, x, a, w, s, hv, h => by
    obtain ⟨v1, h1, hc⟩ := Option.bind_eq_some_iff.1 hc
    obtain ⟨v2, h2, hc⟩ := Option.bind_eq_some_iff.1 hc
    obtain rfl := Option.some.inj hc
    refine wp_seq (wp_mono (vx_sound hK hchk c1 v1 h1 _ x a w s hv h) fun e a' w' hq => ?_)
    cases e with
    | normal =>
      obtain ⟨x', s', hq, h'⟩ := hq
      exact vx_sound hK hchk c2 v2 h2 Q x' a' w' s' hq h'
    | ret => exact hq
    | exit n => exact hq
    | goto l => exact hq.elim
    | panic ch => exact hq.elim
    | outgrown => exact hq.elim
  | .cond c c1 c2, vc, hc, Q, x, a, w, s, hv, h => by
    obtain ⟨c', h0, hc⟩ := Option.bind_eq_some_iff.1 hc
    obtain ⟨v1, h1, hc⟩ := Option.bind_eq_some_iff.1 hc
    obtain ⟨v2, h2, hc⟩ := Option.bind_eq_some_iff.1 hc
    obtain rfl := Option.some.inj hc
    obtain ⟨t, ht, hv⟩ := hv
    refine wp_cond (val_bool h h0 ht) ?_
    cases t with
    | true => exact vx_sound hK hchk c1 v1 h1 Q x a w s (by simpa using hv) h
    | false => exact vx_sound hK hchk c2 v2 h2 Q x a w s (by simpa using hv) h
  | .block n c, vc, hc, Q, x, a, w, s, hv, h => by
    obtain ⟨v1, h1, hc⟩ := Option.bind_eq_some_iff.1 hc
    obtain rfl := Option.some.inj hc
    refine wp_block (wp_mono (vx_sound hK hchk c v1 h1 _ x a w s hv h) fun e a' w' hq => ?_)
    cases e with
    | normal =>
      obtain ⟨x', s', hq, h'⟩ := hq
      rw [if_neg (by intro e; cases e)] at hq
      exact ⟨x', s', hq, h'⟩
    | ret =>
      obtain ⟨x', s', hq, h'⟩ := hq
      rw [if_neg (by intro e; cases e)] at hq
      exact ⟨x', s', hq, h'⟩
    | exit m =>
      obtain ⟨x', s', hq, h'⟩ := hq
      by_cases hm : m = n
      · subst hm
        rw [if_pos rfl] at hq
        simp only [Exit.inBlock, if_true]
        exact ⟨x', s', hq, h'⟩
      · rw [if_neg (by intro e; injection e with e; exact hm e)] at hq
        simp only [Exit.inBlock, if_neg hm]
        exact ⟨x', s', hq, h'⟩
    | goto l => exact hq.elim
    | panic ch => exact hq.elim
    | outgrown => exact hq.elim
  | .loop c, vc, hc, Q, x, a, w, s, hv, h => by
    obtain ⟨v1, h1, hc⟩ := Option.bind_eq_some_iff.1 hc
    obtain rfl := Option.some.inj hc
    obtain ⟨n, hn⟩ := hv
    refine wp_loop_ghost (fun n a w => ∃ x s, iter (vx E v1) Q n s ∧ St E x0 w0 pb nt x a w s) n ⟨x, s, hn, h⟩ ?_
    rintro n a w ⟨x, s, hi, h⟩
    cases n with
    | zero => exact hi.elim
    | succ n =>
      obtain ⟨s1, hw, hi⟩ := hi
      obtain ⟨x1, hs1⟩ := wk_sound hw h
      refine wp_mono (vx_sound hK hchk c v1 h1 _ x1 a w s1 hi hs1) fun e a' w' hq => ?_
      cases e with
      | normal =>
        obtain ⟨x', s', hq, h'⟩ := hq
        exact ⟨n, Nat.lt_succ_self n, x', s', hq, h'⟩
      | ret => exact hq
      | exit n => exact hq
      | goto l => exact hq.elim
      | panic ch => exact hq.elim
      | outgrown => exact hq.elim
  | .region id ops draw, vc, hc, Q, x, a, w, s, hv, h => by
    obtain ⟨os, h1, hc⟩ := Option.bind_eq_some_iff.1 hc
    split at hc
    · rename_i hd
      obtain rfl := Option.some.inj hc
      obtain ⟨hv0, hv⟩ := hv
      obtain ⟨i1, i2⟩ := cReg_spec h1
      have fin : ∀ a' w', Next2 E x0 w0 pb nt (fun s' => Q .normal ⟨drops (dr id) s'.env, s'.bxs⟩) a' w' → CQ E x0 w0 pb nt Q .normal a' w' := by
        rintro a' w' ⟨x', s', hq, h'⟩
        exact ⟨x', _, hq, h'.drops _⟩
      cases draw with
      | false =>
        refine wp_region ?_
        refine vops_sound (q := false) hK fin (fun _ _ _ _ => trivial) (List.range ops.size) os x a w s (by rw [i1]; simp) (fun k i vo hk hvo => ?_) h hv
        have hklt : k < ops.size := by
          have := (List.getElem?_eq_some_iff.1 hk).1
          simpa using this
        rw [List.getElem?_range hklt] at hk
        obtain rfl := Option.some.inj hk
        exact ⟨ops[k], Array.getElem?_eq_getElem hklt, i2 k _ vo (by rw [Array.getElem?_toList]; exact Array.getElem?_eq_getElem hklt) hvo⟩
      | true =>
        have hcc : chk ops os = true := by
          rcases hd with hd | hd
          · cases hd
          · exact hd
        refine wp_mono (hchk id ops os _ x a w s h1 hcc (hv0 rfl) hv h) fun e a' w' hq => ?_
        cases e with
        | normal =>
          obtain ⟨x', s', ⟨_, hq⟩, h'⟩ := hq
          exact fin a' w' ⟨x', s', hq, h'⟩
        | ret => obtain ⟨x', s', ⟨hq, _⟩, h'⟩ := hq; cases hq
        | exit n => obtain ⟨x', s', ⟨hq, _⟩, h'⟩ := hq; cases hq
        | goto l => exact hq.elim
        | panic ch => exact hq.elim
        | outgrown => exact hq.elim
    · cases hc
  | .rangeFunc .., vc, hc, Q, x, a, w, s, hv, h => by cases hc
  | .scope c, vc, hc, Q, x, a, w, s, hv, h => by cases hc
  | .label l, vc, hc, Q, x, a, w, s, hv, h => by cases hc
  | .goto l, vc, hc, Q, x, a, w, s, hv, h => by cases hc
  | .refuse y, vc, hc, Q, x, a, w, s, hv, h => by cases hc
end
end Go.Proofs.Ytpopccnnjpdmlaa.Vm
